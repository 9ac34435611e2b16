/-
  Texts laid together: Ki, Kj, Kk, Kl, Km, LcD, Kn, Ko, Kp, Kq, LcH, Kr, Ks, Kt, Ku, Kv, Kw, Kx, LcG, Ky, LcK, PlCollateBack. Nothing is assumed.
-/
import Derived.Test.YtifpjbgnikjglaaDoorCollateBack4
import Derived.Test.YtifpjbgnikjglaaDoorCollateBack2
set_option maxRecDepth 100000
set_option maxHeartbeats 4000000
namespace Go.Proofs.YtifpjbgnikjglaaDoor
open Go.RowKit Go.Lib
open Tryd
set_option linter.unusedVariables false
set_option linter.unusedSimpArgs false
def zug (o:zlt):Prop:=∀ u i,o.p u=some i→0≤i∧i<65536
theorem zmx (m:zBA):∀ {l:List El} {e:El},e∈zrc m l→e∈l∨∃ e'∈l,e=⟨e'.sort,e'.place,e'.digits,m,e'.great⟩
 | [],e,h=>.inl h
 | [a],e,h=>.inr ⟨a,List.mem_cons_self ..,List.mem_singleton.1 h⟩
 | a::b::l,e,h=>by
  rw [zrc] at h
  rcases List.mem_cons.1 h with rfl | h
  ·exact .inl (List.mem_cons_self ..)
  ·rcases zmx m h with h | ⟨e',h1,h2⟩
   ·exact .inl (List.mem_cons_of_mem _ h)
   ·exact .inr ⟨e',List.mem_cons_of_mem _ h1,h2⟩
theorem zqA {r:Int} (h:mrk r=true):∀ c∈(Utf8.encode r).data.toList,c≠0:=by
 have h:=of_decide_eq_true h
 have key:((List.range 880).all fun n=>decide (n<768)||((Utf8.encode (n:Int)).data.toList.all fun c=>c != 0))=true:=by decide +kernel
 have:=List.all_eq_true.1 key r.toNat (List.mem_range.2 (by omega))
 rw [show ((r.toNat:Nat):Int)=r by omega,decide_eq_false (by omega),Bool.false_or] at this
 intro c hc
 exact bne_iff_ne.1 (List.all_eq_true.1 this c hc)
theorem znC:∀ {l:List Tk},(∀ x∈l,zim x=true)→(∀ c∈(zf7 l).data.toList,c≠0)∧(zf7 l).size≤4*l.length
 | [],_=>⟨(fun c h=>nomatch (show c∈([]:List UInt8) from h)),Nat.le_refl _⟩
 | x::l,h=>by
  obtain ⟨h1,h2⟩:=znC (l:=l) fun y hy=>h y (List.mem_cons_of_mem _ hy)
  unfold zf7 at h1 h2 ⊢
  rw [zdo,zgF,ByteArray.size_append,List.length_cons]
  have:=zdl x.1
  refine ⟨fun c hc => ?_,by omega⟩
  rcases List.mem_append.1 hc with hc | hc
  ·exact zqA (h x (List.mem_cons_self ..)) c hc
  ·exact h1 c hc
theorem zjw:∀ {l:List Tk},(∀ x∈l,x.2.size≤4)→(zh0 l).size≤4*l.length
 | [],_=>Nat.le_refl _
 | x::l,h=>by
  have h2:=zjw (l:=l) fun y hy=>h y (List.mem_cons_of_mem _ hy)
  have h1:=h x (List.mem_cons_self ..)
  unfold zh0 at h2 ⊢
  rw [zdo,ByteArray.size_append,List.length_cons]; omega
theorem zui {α:Type} {p:α→Bool} {l:List α} {x:α} (h:x∈l.takeWhile p):p x=true∧x∈l :=
 ⟨List.all_eq_true.1 (List.all_takeWhile (p:=p) (l:=l)) x h,(List.takeWhile_sublist p).subset h⟩
theorem ztL:zfu zxc:=⟨.inl rfl,(by show (0:Int)≤0∧(0:Int)<65536; omega),by decide,fun _=>rfl,(fun c h=>nomatch (show c∈([]:List UInt8) from h)),by decide,.inl rfl⟩
theorem zqM (l:List Tk):zjg l=0∨zjg l=1:=by unfold zjg; split <;> simp
theorem zq0 (o:zlt) (hf:zkk o) (hp:zug o) (x:Tk) (l:List Tk) (hl:∀ y∈x::l,y.2.size≤4) (hn:(x::l).length≤65536) (es:List El) (h:(zg7 o x l).2=some es):(∀ e∈es,zfu e)∧es.length≤4:=by
 unfold zg7 at h
 split at h
 ·rename_i hk
  have hL:zaS x.1=true:=(zkB x).1.1 hk
  have hm:=zpy o hf x l hL
  injection h with h
  subst h
  have hms:∀ y∈((x::l).drop (zeX o x l).1).takeWhile zim,zim y=true:=fun y hy=>(zui hy).1
  have hml:(((x::l).drop (zeX o x l).1).takeWhile zim).length≤65536:=by
   have:=(List.takeWhile_sublist zim (l:=(x::l).drop (zeX o x l).1)).length_le
   rw [List.length_drop] at this; omega
  obtain ⟨m1,m2⟩:=znC hms
  refine ⟨fun e he => ?_,by rw [zpr,List.length_map]; exact hm.2.2.2⟩
  have base:∀ u,zfu (elU o (zjg ((x::l).take (zeX o x l).1)) u):=fun u=>by
   have hpl:0≤(o.p u).getD 0∧(o.p u).getD 0<65536:=by
    cases hq:o.p u with
    | none=>rw [Option.getD_none]; omega
    | some i=>rw [Option.getD_some]; exact hp u i hq
   exact ⟨.inr (.inr (.inl rfl)),hpl,by show (0:Nat)≤_; omega,fun _=>rfl,(fun c h=>nomatch (show c∈([]:List UInt8) from h)),by show (0:Nat)≤_; omega,zqM _⟩
  rcases zmx _ he with he | ⟨e',he',rfl⟩
  ·obtain ⟨u,_,rfl⟩:=List.mem_map.1 he
   exact base u
  ·obtain ⟨u,_,rfl⟩:=List.mem_map.1 he'
   have b:=base u
   exact ⟨b.so,b.pl,b.di,b.nd,m1,by show (zf7 _).size≤_; omega,b.gr⟩
 ·split at h
  ·injection h with h
   subst h
   refine ⟨fun e he => ?_,by simp⟩
   rw [List.mem_singleton] at he
   subst he
   have h1:(zh0 (x::l.takeWhile zjd)).size≤4*(x::l.takeWhile zjd).length:=zjw fun y hy=>hl y (by
    rcases List.mem_cons.1 hy with rfl | hy
    ·exact List.mem_cons_self ..
    ·exact List.mem_cons_of_mem _ (zui hy).2)
   have h2:=(List.takeWhile_sublist zjd (l:=l)).length_le
   have h3:(zwp (x::l.takeWhile zjd)).size≤(zh0 (x::l.takeWhile zjd)).size:=by
    rw [zbY,zbY]
    exact (List.dropWhile_sublist _).length_le
   rw [List.length_cons] at hn h1
   exact ⟨.inr (.inl rfl),by show (0:Int)≤0∧(0:Int)<65536; omega,by show (zwp _).size≤_; omega,fun h=>absurd rfl h,(fun c h=>nomatch (show c∈([]:List UInt8) from h)),by show (0:Nat)≤_; omega,.inl rfl⟩
  ·split at h
   ·cases h
   ·split at h
    ·injection h with h
     subst h
     refine ⟨fun e he => ?_,by simp⟩
     rw [List.mem_singleton] at he
     subst he
     have hby:0≤zgn x.2∧zgn x.2≤255:=by unfold zgn; have:=(x.2.data.toList.headD 0).toNat_lt; omega
     exact ⟨.inr (.inr (.inr rfl)),by show 0≤zgn x.2∧zgn x.2<65536; omega,by show (0:Nat)≤_; omega,fun _=>rfl,(fun c h=>nomatch (show c∈([]:List UInt8) from h)),by show (0:Nat)≤_; omega,.inl rfl⟩
    ·injection h with h
     subst h
     exact ⟨(fun e he=>by cases he),by simp⟩
theorem zlk (o:zlt) (hf:zkk o) (hp:zug o):∀ (n:Nat) (l:List Tk),(∀ y∈l,y.2.size≤4)→l.length≤65536→(∀ es,some es∈zgP o n l→(∀ e∈es,zfu e)∧es.length≤4)∧(zgP o n l).length≤n
 | 0,l,_,_=>⟨(fun es h=>by cases h),Nat.le_refl _⟩
 | n+1,[],_,_=>⟨(fun es h=>by cases h),Nat.zero_le _⟩
 | n+1,x::l,hl,hn=>by
  obtain ⟨h1,h2⟩:=zlk o hf hp n ((x::l).drop (zg7 o x l).1) (fun y hy=>hl y (List.mem_of_mem_drop hy)) (by rw [List.length_drop]; omega)
  rw [zgP]
  refine ⟨fun es h => ?_,by rw [List.length_cons]; omega⟩
  rcases List.mem_cons.1 h with h | h
  ·exact zq0 o hf hp x l hl hn es h.symm
  ·exact h1 es h
theorem zkI:∀ (cs:List (Option (List El))) (out:List El) (sp:Bool),(∀ es,some es∈cs→(∀ e∈es,zfu e)∧es.length≤4)→(∀ e∈out,zfu e)→(∀ e∈asm cs out sp,zfu e)∧(asm cs out sp).length≤out.length+5*cs.length
 | [],out,sp,_,h=>⟨h,Nat.le_refl _⟩
 | none::cs,out,sp,hc,h=>by
  obtain ⟨h1,h2⟩:=zkI cs out true (fun es he=>hc es (List.mem_cons_of_mem _ he)) h
  exact ⟨h1,by rw [List.length_cons]; show (asm cs out true).length≤_; omega⟩
 | some []::cs,out,sp,hc,h=>by
  obtain ⟨h1,h2⟩:=zkI cs out sp (fun es he=>hc es (List.mem_cons_of_mem _ he)) h
  exact ⟨h1,by rw [List.length_cons]; show (asm cs out sp).length≤_; omega⟩
 | some (e::es)::cs,out,sp,hc,h=>by
  have he:=hc _ (List.mem_cons_self ..)
  have hg:=zjk sp out
  obtain ⟨h1,h2⟩:=zkI cs (out++zok sp out++e::es) false (fun es he=>hc es (List.mem_cons_of_mem _ he)) (fun a ha=>by
   rcases List.mem_append.1 ha with ha | ha
   ·rcases List.mem_append.1 ha with ha | ha
    ·exact h a ha
    ·unfold zok at ha
     split at ha
     ·rw [List.mem_singleton.1 ha]; exact ztL
     ·cases ha
   ·exact he.1 a ha)
  refine ⟨h1,?_⟩
  show (asm cs (out++zok sp out++e::es) false).length≤_
  have:=he.2
  simp only [List.length_append,List.length_cons] at h2 this ⊢
  omega
theorem zqX (o:zlt) (hf:zkk o) (hp:zug o) (l:List Tk) (hl:∀ y∈l,y.2.size≤4) (hn:l.length≤65536):(∀ e∈zkh o l,zfu e)∧(zkh o l).length≤327680:=by
 unfold zkh
 obtain ⟨h1,h2⟩:=zlk o hf hp l.length (l.drop (zlB o l)) (fun y hy=>hl y (List.mem_of_mem_drop hy)) (by rw [List.length_drop]; omega)
 obtain ⟨h3,h4⟩:=zkI (zgP o l.length (l.drop (zlB o l))) [] false h1 (fun e h=>by cases h)
 exact ⟨h3,by rw [List.length_nil] at h4; omega⟩
theorem zgW {t:Tok} (h:zeW t):t.bs.length≤4:=by
 rcases h with h | h
 ·rw [h.2]; exact (zfD t.r).2
 ·unfold Tok.broken at h; simp at h; omega
theorem zrp (t:zBA) (ht:Few t):(∀ y∈zif t,y.2.size≤4)∧(zif t).length≤65536:=by
 have h1:=ht.2
 have h2:=zhP (zdc t)
 refine ⟨fun y hy => ?_,by unfold zif zio; rw [List.length_map]; omega⟩
 obtain ⟨x,hx,rfl⟩:=List.mem_map.1 hy
 have:=zgW (ze3 _ x hx)
 show (⟨x.bs.toArray⟩:zBA).size≤4
 rw [zbY]
 simpa using this
def elA (o:zab) (t:zBA):List El:=zkh (zeq o) (zif t)
def zqF (o:zab) (t:zBA):List (List UInt8):=[k1 (elA o t),k2 (elA o t),k3 (elA o t),t.data.toList]
structure zwi (o:zab):Prop where
 fo:zkk (zeq o)
 pl:zug (zeq o)
theorem zkE {o:zab} (h:zwi o) (t:zBA) (ht:Few t):(∀ e∈elA o t,zfu e)∧(elA o t).length≤327680 :=
 zqX _ h.fo h.pl _ (zrp t ht).1 (zrp t ht).2
theorem zyj {x y:List El} (hx:∀ e∈x,zfu e) (hy:∀ e∈y,zfu e):cb (k1 x) (k1 y)=sg (zhv zfJ x y):=by
 have:=zux [] [] hx hy
 rw [List.append_nil,List.append_nil] at this
 rw [this]
 split
 ·rename_i h; rw [h]; rfl
 ·rfl
theorem zyi {x y:List El} (hx:∀ e∈x,zfu e) (hy:∀ e∈y,zfu e) (hl:x.length=y.length):cb (k2 x) (k2 y)=sg (zhv zhs x y):=by
 have:=zuw [] [] hx hy hl
 rw [List.append_nil,List.append_nil] at this
 rw [this]
 split
 ·rename_i h; rw [h]; rfl
 ·rfl
theorem zyh {x y:List El} (hx:∀ e∈x,zfu e) (hy:∀ e∈y,zfu e) (hl:x.length=y.length):cb (k3 x) (k3 y)=sg (zhv zjh x y):=by
 have:=zuv [] [] hx hy hl
 rw [List.append_nil,List.append_nil] at this
 rw [this]
 split
 ·rename_i h; rw [h]; rfl
 ·rfl
def lvl (x y:List El) (a b:List UInt8):Int×Int :=
 if zhv zfJ x y=0 then (if zhv zhs x y=0 then (if zhv zjh x y=0 then (if cb a b=0 then (0,0) else (cb a b,4)) else (sg (zhv zjh x y),3)) else (sg (zhv zhs x y),2)) else (sg (zhv zfJ x y),1)
theorem zpB {x y:List El} (hx:∀ e∈x,zfu e) (hy:∀ e∈y,zfu e) (a b:List UInt8):zs9 1 [k1 x,k2 x,k3 x,a] [k1 y,k2 y,k3 y,b]=lvl x y a b:=by
 unfold lvl
 rw [zs9,zyj hx hy]
 by_cases h1:zhv zfJ x y=0
 ·rw [if_pos (sg_zero.2 h1),if_pos h1,zs9,zyi hx hy (zmJ h1)]
  by_cases h2:zhv zhs x y=0
  ·rw [if_pos (sg_zero.2 h2),if_pos h2,zs9,zyh hx hy (zmJ h1)]
   by_cases h3:zhv zjh x y=0
   ·rw [if_pos (sg_zero.2 h3),if_pos h3,zs9]
    by_cases h4:cb a b=0
    ·rw [if_pos h4,if_pos h4]; rfl
    ·rw [if_neg h4,if_neg h4]; rfl
   ·rw [if_neg (fun h=>h3 (sg_zero.1 h)),if_neg h3]; rfl
  ·rw [if_neg (fun h=>h2 (sg_zero.1 h)),if_neg h2]; rfl
 ·rw [if_neg (fun h=>h1 (sg_zero.1 h)),if_neg h1]
theorem zzh {n:Int} (h:n≠0):((n:Int) != 0)=true:=bne_iff_ne.2 h
theorem zzg {n:Int} (h:n=0):((n:Int) != 0)=false:=by rw [h]; rfl
theorem znZ {o:zab} (h:zwi o) (a b:zBA) (ha:Few a) (hb:Few b):zbw o a b=some (zs9 1 (zqF o a) (zqF o b)):=by
 obtain ⟨ga,la⟩:=zkE h a ha
 obtain ⟨gb,lb⟩:=zkE h b hb
 unfold zbw
 by_cases hab:a=b
 ·subst hab
  refine zaL (decide_eq_true rfl) ?_
  rw [zn0]
 ·refine zaF (decide_eq_false hab) (zb8 (zaR (zjT o h.fo a ha) (zaR (zjT o h.fo b hb) ?_)))
  show zak (zax (elA o a) (elA o b)) _=_
  have e1:zax (elA o a) (elA o b)=some (zhv zfJ (elA o a) (elA o b)) :=
   zb8 (zo6 (cv:=zd1) _ _ (by omega) (fun _ _=>rfl) (fun p hp q hq=>zvu p q (ga p hp) (gb q hq)))
  have e2:zaC (elA o a) (elA o b)=some (zhv zhs (elA o a) (elA o b)) :=
   zb8 (zo6 (cv:=zc6) _ _ (by omega) (fun _ _=>rfl) (fun p hp q hq=>rfl))
  have e3:zaB (elA o a) (elA o b)=some (zhv zjh (elA o a) (elA o b)) :=
   zb8 (zo6 (cv:=zc5) _ _ (by omega) (fun _ _=>rfl) (fun p hp q hq=>by
    have g1:=(ga p hp).gr; have g2:=(gb q hq).gr
    exact zct ⟨by omega,by omega⟩ rfl))
  unfold zqF
  rw [zpB ga gb]
  unfold lvl
  refine zaR e1 ?_
  by_cases h1:zhv zfJ (elA o a) (elA o b)=0
  ·rw [if_pos h1]
   refine zaF (zzg h1) (zaR e2 ?_)
   by_cases h2:zhv zhs (elA o a) (elA o b)=0
   ·rw [if_pos h2]
    refine zaF (zzg h2) (zaR e3 ?_)
    by_cases h3:zhv zjh (elA o a) (elA o b)=0
    ·rw [if_pos h3]
     refine zaF (zzg h3) ?_
     rw [if_neg (fun h=>hab (zhi (zsE h)))]
    ·rw [if_neg h3]; exact zaL (zzh h3) (zaR (zrx _) rfl)
   ·rw [if_neg h2]; exact zaL (zzh h2) (zaR (zrx _) rfl)
  ·rw [if_neg h1]; exact zaL (zzh h1) (zaR (zrx _) rfl)
def ba (l:List UInt8):zBA:=⟨l.toArray⟩
theorem zlm (l:List UInt8):(ba l).data.toList=l:=by unfold ba; simp
theorem ziJ (l:List UInt8):(ba l).size=l.length:=by rw [zbY,zlm]
theorem zyd:((List.range 1120).all fun n=>!zaS (n:Int)||(zaS (zbb (n:Int))&&decide (zbb (zbb (n:Int))=zbb (n:Int))&&!great (zbb (n:Int))&&(decide (zbK (n:Int) tabS≠none)||decide (zbK (zbb (n:Int)) tabS=none))))=true:=by decide +kernel
theorem zkc {r:Int} (h:zaS r=true):zaS (zbb r)=true∧zbb (zbb r)=zbb r∧great (zbb r)=false∧(zbK r tabS=none→zbK (zbb r) tabS=none):=by
 have h1:=zcy r h
 have:=List.all_eq_true.1 zyd r.toNat (List.mem_range.2 (by omega))
 rw [show ((r.toNat:Nat):Int)=r by omega,h] at this
 simp only [Bool.not_true,Bool.false_or,Bool.and_eq_true,decide_eq_true_eq,Bool.or_eq_true,Bool.not_eq_true'] at this
 exact ⟨this.1.1.1,this.1.1.2,this.1.2,fun hn=>this.2.resolve_left (fun h=>h hn)⟩
theorem zqB {r:Int} (h:zaS r=false):zbb r=r:=by
 unfold zbb
 have:great r=false:=by
  unfold zaS at h
  cases hg:great r with
  | false=>rfl
  | true=>rw [hg] at h; cases h
 rw [this]; rfl
def zde (x:Tk):Tk:=if zfH x then (zbb x.1,Utf8.encode (zbb x.1)) else x
def zeU (s:zBA):zBA:=zh0 ((zif s).map zde)
def gS (c:Itm×List Itm):List Int:=zbb c.1.Rune::(kLo c++kHi c)
theorem zxd:zof (mkO gS):=zrX (fun c _=>by unfold gS; simp) (fun c hc hn hm r hr=>by
 obtain ⟨h1,h2⟩:=zkz hm
 unfold gS at hr
 rcases List.mem_cons.1 hr with rfl | hr
 ·exact .inl (zkc hc).1
 ·rcases List.mem_append.1 hr with hr | hr
  ·exact .inr (h1 r hr)
  ·exact .inr (h2 r hr))
theorem zzJ:∀ c:Itm×List Itm,isL c.1=true→zbK c.1.Rune tabS=none→(∀ m∈c.2,isM m=true)→∀ t,(mkO gS c).head?=some t→mrk (zet t).Rune=false:=by
 intro c hL hn hm t ht
 have e:mkO gS c=(zbb c.1.Rune::(kLo c++kHi c)).map zhQ:=by unfold mkO; rw [hL]; rfl
 rw [e] at ht
 exact zuz (zkc hL).1 t ht
theorem zkP (s:zBA) (hs:s.size≤65536):zio s=(clT (zdP s.data.toList)).flatMap (mkO gA):=zmD zyl (zn6 s hs)
theorem zuY {r:Int} (h:vr r):tkT (zhQ r)=(r,Utf8.encode r):=by
 have hv:=zdi (zfW h)
 have e:(zhQ r).bs=(Utf8.encode r).data.toList:=(zcT r).symm
 unfold tkT
 rw [hv,if_neg (by simp),e]
 have:(((zhQ r).r:Nat):Int)=r:=by show ((r.toNat:Nat):Int)=r; unfold vr at h; omega
 rw [this]
def zgI (t:Tok):Tok:=if zfH (tkT t) then zhQ (zbb (tkT t).1) else t
theorem zot (t:Tok):tkT (zgI t)=zde (tkT t):=by
 unfold zgI zde
 cases h:zfH (tkT t) with
 | true =>
  rw [if_pos rfl,if_pos rfl]
  exact zuY (zga (zkc (show zaS (tkT t).1=true from h)).1)
 | false=>rw [if_neg (by simp),if_neg (by simp)]
theorem zvj {s:zBA} (hs:s.size≤65536):∀ c∈clT (zdP s.data.toList),(mkO gA c).map zgI=mkO gS c:=by
 intro c hc
 rcases zkG (ze3 _) c hc with ⟨g1,g2,g3⟩ | ⟨g1,g2,t,g3,g4⟩
 ·obtain ⟨h1,h2⟩:=zkz g2
  have e1:mkO gA c=(c.1.Rune::(kLo c++kHi c)).map zhQ:=by unfold mkO; rw [g1,zpJ]; rfl
  have e2:mkO gS c=(zbb c.1.Rune::(kLo c++kHi c)).map zhQ:=by unfold mkO; rw [g1]; rfl
  rw [e1,e2,List.map_cons,List.map_cons,List.map_cons]
  have hx:tkT (zhQ c.1.Rune)=(c.1.Rune,Utf8.encode c.1.Rune):=zuY (zga g1)
  congr 1
  ·unfold zgI
   rw [hx]
   exact if_pos (show zaS c.1.Rune=true from g1)
  ·rw [List.map_map]
   refine List.map_congr_left fun m hm => ?_
   have hmk:mrk m=true:=by
    rcases List.mem_append.1 hm with hm | hm
    ·exact h1 m hm
    ·exact h2 m hm
   show zgI (zhQ m)=zhQ m
   unfold zgI
   rw [zuY (zpx hmk)]
   exact if_neg (by show ¬ zaS m=true; rw [zcR hmk]; simp)
 ·have e1:∀ g,mkO g c=[t]:=fun g=>by unfold mkO; rw [g1,g4,ziE g3]; rfl
  rw [e1,e1]
  have hL:zfH (tkT t)=false:=by
   have:isL (zet t)=false:=by rw [← g4]; exact g1
   exact this
  show [zgI t]=[t]
  unfold zgI
  rw [hL,if_neg (by simp)]
theorem zl9 {α β:Type} {f g:α→List β}:∀ {l:List α},(∀ x∈l,f x=g x)→l.flatMap f=l.flatMap g
 | [],_=>rfl
 | x::l,h=>by rw [List.flatMap_cons,List.flatMap_cons,h x (List.mem_cons_self ..),zl9 fun y hy=>h y (List.mem_cons_of_mem _ hy)]
theorem zl2 {s:zBA} (hs:s.size≤65536):(zio s).map zgI=(clT (zdP s.data.toList)).flatMap (mkO gS):=by
 rw [zkP s hs,List.map_flatMap]
 exact zl9 (zvj hs)
theorem zvT (ts:List Tok):(zh0 ((ts.map tkT).map zde)).data.toList=zbp (ts.map zgI):=by
 rw [← zkH,List.map_map,List.map_map]
 congr 1; congr 1; congr 1
 exact List.map_congr_left fun t _=>(zot t).symm
theorem ziw (s:zBA) (hs:s.size≤65536):(zeU s).data.toList=zbp ((clT (zdP s.data.toList)).flatMap (mkO gS)):=by
 rw [← zl2 hs]; exact zvT _
theorem zlU (s:zBA) (hs:s.size≤65536):zdP (zeU s).data.toList=(zio s).map zgI:=by
 rw [zl2 hs]; exact zmD zxd (ziw s hs)
def smC (c:Itm×List Itm):zBA:=if isL c.1 then zeT (gS c) else c.1.Text
theorem znI (c:Itm×List Itm):kLo (zeN c)=kLo c∧kHi (zeN c)=kHi c:=by
 unfold kLo kHi
 have:=zi9 c.2
 constructor
 ·show (loI (c.2.map zeQ)).map _=_; rw [this.1,List.map_map]; rfl
 ·show (hiI (c.2.map zeQ)).map _=_; rw [this.2,List.map_map]; rfl
theorem znq (c:Itm×List Itm):smC (zeN c)=smC c:=by
 unfold smC gS
 rw [(znI c).1,(znI c).2]; rfl
theorem zrw (s:zBA) (hs:s.size≤65536):J smC (zki s)=zeU s:=by
 apply zhi
 rw [ziw s hs]
 exact zjM znq (fun c hL _ _=>by unfold smC; rw [hL]; rfl) (fun c hL _=>by unfold smC; rw [hL]; rfl) s hs
theorem zya {c:Itm×List Itm} (hL:isL c.1=true) (hm:∀ m∈c.2,isM m=true) (hn:zbK c.1.Rune tabS=none):∃ d:Itm×List Itm,clT (mkO gS c)=[d]∧isL d.1=true∧okT d.1∧(∀ m∈d.2,isM m=true∧okT m)∧d.1.Rune=zbb c.1.Rune∧kLo d=kLo c∧kHi d=kHi c:=by
 obtain ⟨h1,h2⟩:=zkz hm
 have e:mkO gS c=(zbb c.1.Rune::(kLo c++kHi c)).map zhQ:=by unfold mkO; rw [hL]; rfl
 have hp:zcW (zbb c.1.Rune)=[zbb c.1.Rune]:=by unfold zcW; rw [(zkc hL).2.2.2 hn]
 have:=zup (c:=(mkI (zbb c.1.Rune),[])) (zkc hL).1 (st:=kLo c++kHi c) (fun m hm=>by
  rcases List.mem_append.1 hm with hm | hm
  ·exact h1 m hm
  ·exact h2 m hm) hp rfl
 obtain ⟨o1,o2,o3,o4,o5⟩:=this
 rw [← e] at o1
 refine ⟨_,o1,o2,o3,o4,rfl,?_⟩
 obtain ⟨k1,k2⟩:=zuu (zbb c.1.Rune) ([]++(kLo c++kHi c))
 obtain ⟨l1,l2⟩:=zr4 c
 rw [k1,k2,List.nil_append,List.filter_append,List.filter_append,(zmG l1).1,(zmG l1).2,(zmN l2).1,(zmN l2).2]
 simp
theorem zln (s:zBA) (hs:s.size≤65536):zdc (zeU s)=zeU s:=by
 rw [← zrw s hs]
 refine znO zxd zzJ zgt znq hs (x:=J smC (zki s)) (by rw [zrw s hs]; exact ziw s hs) (fun c hL hm hn hok => ?_) (fun y hy=>by unfold smC; rw [hy]; rfl)
 obtain ⟨d,d1,d2,d3,d4,d5,d6,d7⟩:=zya hL (fun m h=>(hm m h).1) hn
 rw [d1,zdo,zlu,ByteArray.append_empty,zj0 d2 d3 d4,zpJ,d5,d6,d7]
 unfold smC
 rw [hL]; rfl
theorem zos (s:zBA) (hs:s.size≤65536):zio (zeU s)=(zio s).map zgI:=by
 unfold zio
 rw [zln s hs]; exact zlU s hs
theorem zlW (s:zBA) (hs:s.size≤65536):zif (zeU s)=(zif s).map zde:=by
 unfold zif
 rw [zos s hs,List.map_map,List.map_map]
 exact List.map_congr_left fun t _=>zot t
theorem zn2 (i:Nat) (t:Tok) (h:zeW t):zdF (pT i t)=some (zfH (tkT t)):=by
 unfold zdF
 refine zct (zeP h) ?_
 show some ((zbr t.broken (t.r:Int):Int)==1)=_
 rw [zjb,zgb]
theorem zvR (i:Nat) (t:Tok) (h:zeW t):zdS (pT i t)=some (zim (tkT t)):=by
 unfold zdS
 refine zct (zeP h) ?_
 show some ((zbr t.broken (t.r:Int):Int)==2)=_
 rw [zjb,zk6]
theorem zl6 {x:Tk} (h:x.2.size≤4):(zde x).2.size≤4:=by
 unfold zde
 split
 ·exact zdl _
 ·exact h
theorem zl3 (S:zBA) (hS:S.size≤1000000000):∀ (ts A:List Tok) (b:zBA),S.data.toList=zbp (A++ts)→(∀ t∈ts,zeW t)→b.size+4*ts.length≤100000000000 →
  zb4 (fun b8=>(some b8:Option zBA)) (zcL S) (pL (zbp A).length ts) b=some (b++zh0 ((ts.map tkT).map zde))
 | [],A,b,_,_,_=>by
  rw [pL,zfY]
  show some b=some (b++ByteArray.empty)
  rw [ByteArray.append_empty]
 | t::ts,A,b,hd,hok,hb=>by
  have ht:=hok t (List.mem_cons_self ..)
  have hlen:(zbp A).length+(t.bs.length+(zbp ts).length)=S.size:=by rw [zbY,hd,zbh,zch,List.length_append,List.length_append]
  have e:(zbp A).length+t.bs.length=(zbp (A++[t])).length:=by rw [zbh,List.length_append]; simp [zbp]
  rw [List.length_cons] at hb
  have next:∀ x:zBA,x.size≤4→zb4 (fun b8=>(some b8:Option zBA)) (zcL S) (pL ((zbp A).length+t.bs.length) ts) (b++x)=some ((b++x)++zh0 ((ts.map tkT).map zde)):=fun x hx=>by
   rw [e]
   exact zl3 S hS ts (A++[t]) (b++x) (by rw [hd,List.append_assoc]; rfl) (fun y hy=>hok y (List.mem_cons_of_mem _ hy)) (by rw [ByteArray.size_append]; omega)
  rw [pL,zbQ]
  generalize hag:zb4 (fun b8=>(some b8:Option zBA)) (zcL S) (pL ((zbp A).length+t.bs.length) ts)=ag at next ⊢
  unfold zcL
  refine zaR (zn2 _ t ht) ?_
  have hJ:zh0 (((t::ts).map tkT).map zde)=(zde (tkT t)).2++zh0 ((ts.map tkT).map zde):=by unfold zh0; rw [List.map_cons,List.map_cons,zdo]
  rw [hJ,← ByteArray.append_assoc]
  cases hl:zfH (tkT t) with
  | true =>
   obtain ⟨h1,h2,h3⟩:=zrY hl
   have e2:(zde (tkT t)).2=Utf8.encode (zbb (t.r:Int)):=by unfold zde; rw [hl,h1]; rfl
   have e4:=zdl (zbb (t.r:Int))
   rw [e2]
   exact zaL rfl (zct (zeP ht) (zct (by show b.size+(Utf8.encode (zbb (t.r:Int))).size≤_; omega) (next _ e4)))
  | false =>
   have e2:(zde (tkT t)).2=(tkT t).2:=by unfold zde; rw [hl]; rfl
   have hsz:=zgW ht
   have hq:(pT (zbp A).length t).At+(pT (zbp A).length t).Width=(((zbp A).length+t.bs.length:Nat):Int):=by
    show ((zbp A).length:Int)+(t.bs.length:Int)=_; push_cast; rfl
   have hcut:zcz S (pT (zbp A).length t).At (((zbp A).length+t.bs.length:Nat):Int)=(tkT t).2:=by
    have:=zm2 (s:=S) (A:=A) (W:=[t]) (Z:=ts) (by rw [hd]; rfl) rfl (b:=(zbp A).length+t.bs.length) (by simp [zbp])
    rw [show (pT (zbp A).length t).At=((zbp A).length:Int) from rfl,this]
    show J (·.2) [tkT t]=_
    rw [zdo,zlu,ByteArray.append_empty]
   have hs4:(tkT t).2.size≤4:=by rw [zbY]; show t.bs.toArray.toList.length≤4; simpa using hsz
   rw [e2]
   refine zaF rfl ?_
   rw [hq,hcut]
   exact zct ⟨by omega,by omega⟩ (zct ⟨by show (0:Int)≤((zbp A).length:Int); omega,by show ((zbp A).length:Int)≤_; omega,by omega⟩ (zct (by omega) (next _ hs4)))
theorem zu3 (s:zBA) (hs:s.size≤65536):zeD s=some (zeU s):=by
 have h1:=(zhz s hs).2.1
 have h2:=zhP (zdc s)
 unfold zeD
 refine zb8 (zaR (zp1 s hs) (zaR (a:=zdc s) rfl (zaR (zk0 _ (by omega)) (zb8 ?_))))
 rw [zka]
 have:=zl3 (zdc s) (by omega) (zdP (zdc s).data.toList) [] ByteArray.empty (by rw [List.nil_append,zfI]) (ze3 _) (by show 0+_≤_; omega)
 rw [ByteArray.empty_append] at this
 exact this
def okR:Nat→List Tk→Bool
 | _,[]=>true
 | k,x::l=>decide (k+1≤8)&&(zfH x||(decide (k≠0)&&zim x))&&okR (k+1) l
def zdG (s:zBA):zBA:=if okR 0 (zif s) then zeU s else ⟨#[]⟩
theorem zpG (x:Tk):zfH (zde x)=zfH x:=by
 unfold zde
 cases h:zfH x with
 | true=>rw [if_pos rfl]; exact (zkc (show zaS x.1=true from h)).1
 | false=>rw [if_neg (by simp)]; exact h
theorem ztH (x:Tk):zim (zde x)=zim x:=by
 unfold zde
 cases h:zfH x with
 | true =>
  rw [if_pos rfl]
  have h1:=zjI (zkc (show zaS x.1=true from h)).1
  have h2:=zjI (show zaS x.1=true from h)
  show mrk _=mrk _
  rw [h1,h2]
 | false=>rw [if_neg (by simp)]
theorem zoH:∀ (l:List Tk) (k:Nat),okR k (l.map zde)=okR k l
 | [],k=>rfl
 | x::l,k=>by rw [List.map_cons,okR,okR,zoH l,zpG,ztH]
theorem zl0 (r:zBA):∀ (ts:List Tok) (i k:Nat),(∀ t∈ts,zeW t)→k≤8 →
  zb4 (fun (n3:Int)=>(some r:Option zBA)) (zcY (fun (n4:Int)=>some (⟨#[]⟩:zBA))) (pL i ts) (k:Int)=some (if okR k (ts.map tkT) then r else ⟨#[]⟩)
 | [],i,k,_,_=>rfl
 | t::ts,i,k,hok,hk=>by
  have ht:=hok t (List.mem_cons_self ..)
  have next:=fun h=>zl0 r ts (i+t.bs.length) (k+1) (fun y hy=>hok y (List.mem_cons_of_mem _ hy)) h
  rw [pL,zbQ,List.map_cons,okR]
  generalize hag:zb4 (fun (n3:Int)=>(some r:Option zBA)) (zcY (fun (n4:Int)=>some (⟨#[]⟩:zBA))) (pL (i+t.bs.length) ts)=ag at next ⊢
  unfold zcY
  refine zct ⟨by omega,by omega⟩ ?_
  by_cases h8:k+1≤8
  ·refine zaF (decide_eq_false (by omega)) (zaR (zn2 i t ht) ?_)
   have nx:=next h8
   push_cast at nx
   rw [decide_eq_true h8,Bool.true_and]
   cases hl:zfH (tkT t) with
   | true=>refine zaF rfl ?_; rw [nx]; simp
   | false =>
    refine zaL rfl ?_
    by_cases h0:k=0
    ·subst h0
     refine zaL (by decide) ?_
     simp
    ·have hne:(((k:Int)+1:Int)==1)=false:=beq_eq_false_iff_ne.2 (by omega)
     refine zaF hne (zaR (zvR i t ht) ?_)
     rw [Bool.false_or,decide_eq_true h0,Bool.true_and]
     cases hm:zim (tkT t) with
     | true=>refine zaF rfl ?_; rw [nx]; simp
     | false=>refine zaL rfl ?_; simp
  ·refine zaL (decide_eq_true (by omega)) ?_
   rw [decide_eq_false h8]; simp
theorem zu0 (s:zBA) (hs:s.size≤65536):zd0 s=some (zdG s):=by
 have h1:=(zhz s hs).2.1
 have h2:=zhP (zdc s)
 have h3:(zeU s).size≤1000000000:=by
  have:(zeU s).size≤4*((zif s).map zde).length:=zjw fun y hy=>by
   obtain ⟨x,hx,rfl⟩:=List.mem_map.1 hy
   obtain ⟨t,ht,rfl⟩:=List.mem_map.1 hx
   refine zl6 ?_
   rw [zbY]
   have:=zgW (ze3 _ t ht)
   show t.bs.toArray.toList.length≤4
   simpa using this
  unfold zif zio at this
  rw [List.length_map,List.length_map] at this
  omega
 unfold zd0
 refine zb8 (zaR (zu3 s hs) (zaR (a:=zeU s) rfl (zaR (zk0 _ (by omega)) (zb8 (zb8 ?_)))))
 rw [zka]
 have:=zl0 (zeU s) (zdP (zeU s).data.toList) 0 0 (ze3 _) (by omega)
 refine this.trans ?_
 unfold zdG
 rw [zlU s hs]
 have e:((zio s).map zgI).map tkT=(zif s).map zde:=by
  unfold zif
  rw [List.map_map,List.map_map]
  exact List.map_congr_left fun t _=>zot t
 rw [e,zoH]
def wdK:List UInt8→Nat→Option (Nat×List UInt8)→List (Nat×List UInt8)
 | [],_,cur=>cur.toList
 | c::l,i,cur=>if c=32 then cur.toList++wdK l (i+1) none else match cur with
  | none=>wdK l (i+1) (some (i,[c]))
  | some (a,w)=>wdK l (i+1) (some (a,w++[c]))
theorem zrh (l:List UInt8) (i:Nat) (cur:Option (Nat×List UInt8)):wdK (32::l) i cur=cur.toList++wdK l (i+1) none:=by
 cases cur <;> rfl
theorem zop {c:UInt8} (h:c≠32) (l:List UInt8) (i:Nat):wdK (c::l) i none=wdK l (i+1) (some (i,[c])):=by
 rw [wdK,if_neg h]
theorem zrj {c:UInt8} (h:c≠32) (l:List UInt8) (i a:Nat) (w:List UInt8):wdK (c::l) i (some (a,w))=wdK l (i+1) (some (a,w++[c])):=by
 rw [wdK,if_neg h]
def zfc (at_:Int) (p:Nat×List UInt8):zau:=⟨at_+(p.1:Int),ba p.2⟩
theorem zsc {s:zBA} {k:Nat} {c:UInt8} (h:s.data.toList[k]?=some c):zlH s (k:Int)=some (c.toNat:Int):=by
 unfold zlH
 rw [if_pos (by omega),Int.toNat_natCast]
 have:s.data[k]?=some c:=by rw [← Array.getElem?_toList]; exact h
 rw [this]; rfl
theorem zvO {s:zBA} {k:Nat} {c:UInt8} (h:s.data.toList[k]?=some c):zcz s (k:Int) ((k:Int)+1)=ba [c]:=by
 apply zhi
 have hk:=(List.getElem?_eq_some_iff.1 h)
 have e:=zhG s k (k+1)
 push_cast at e
 rw [e,zlm,Nat.add_sub_cancel_left]
 obtain ⟨h1,h2⟩:=hk
 rw [List.drop_eq_getElem_cons h1,h2]; rfl
theorem zqb (line:zBA) (at_:Int) (hs:line.size≤1000000000) (ha : -1000000000≤at_∧at_≤1000000000) (J:List zau→Option (List zau)) :
  ∀ (n k:Nat) (E:List (Nat×List UInt8)) (cur:Option (Nat×List UInt8)),k≤line.size→line.size - k<n→E.length≤k→(∀ a w,cur=some (a,w)→w.length≤k)→E.length+cur.toList.length≤k →
   zaU (fun _ _ _=>none) (zcX line at_ J) n ((E++cur.toList).map (zfc at_)) cur.isSome (k:Int)=J ((E++wdK (line.data.toList.drop k) k cur).map (zfc at_)):=by
 intro n
 induction n with
 | zero=>intro k E cur _ h; omega
 | succ n ih =>
  intro k E cur hk hn hE hw hc
  rw [zfO]
  generalize hag:zaU (fun _ _ _=>none) (zcX line at_ J) n=ag
  unfold zcX
  by_cases hlt:k<line.size
  ·have hl:k<line.data.toList.length:=by rw [← zbY]; exact hlt
   obtain ⟨c,hcc⟩:∃ c,line.data.toList[k]?=some c:=⟨_,List.getElem?_eq_getElem hl⟩
   have hdrop:line.data.toList.drop k=c::line.data.toList.drop (k+1):=by
    rw [List.drop_eq_getElem_cons hl]
    have:=List.getElem?_eq_getElem hl
    rw [hcc] at this
    injection this with this
    rw [this]
   refine zaL (decide_eq_true (by omega)) (zb8 (zaR (zsc hcc) ?_))
   have e32:(((c.toNat:Int):Int)==32)=decide (c=32):=by
    rw [Bool.eq_iff_iff,beq_iff_eq,decide_eq_true_iff]
    constructor
    ·intro h; exact UInt8.toNat_inj.1 (by show c.toNat=32; omega)
    ·intro h; subst h; rfl
   have nx:=fun (E':List (Nat×List UInt8)) (cur':Option (Nat×List UInt8)) h1 h2 h3=>ih (k+1) E' cur' (by omega) (by omega) h1 h2 h3
   push_cast at nx
   rw [hag] at nx
   rw [e32,hdrop]
   by_cases h:c=32
   ·rw [decide_eq_true h,h,zrh]
    refine zaL rfl (zct ⟨by omega,by omega⟩ ?_)
    have:=nx (E++cur.toList) none (by rw [List.length_append]; omega) (by intro a w h; cases h) (by rw [List.length_append]; show _+0≤_; omega)
    rw [show (none:Option (Nat×List UInt8)).toList=[] from rfl,List.append_nil] at this
    refine this.trans ?_
    rw [List.append_assoc]
   ·rw [decide_eq_false h]
    refine zaF rfl ?_
    have hcut:=zvO hcc
    cases cur with
    | none =>
     rw [zop h]
     refine zaF rfl (zct ⟨by omega,by omega⟩ (zct ⟨by omega,by omega⟩ (zct ⟨by omega,by omega,by omega⟩ (zct (by rw [List.length_map,List.length_append]; show _+0+1≤_; omega) (zct ⟨by omega,by omega⟩ ?_)))))
     rw [hcut]
     have:=nx E (some (k,[c])) (by omega) (by intro a w h; injection h with h; injection h with _ h; rw [← h]; show 1≤_; omega) (by show _+1≤_; omega)
     refine Eq.trans ?_ this
     congr 1
     rw [List.map_append,List.map_append]
     show List.map (zfc at_) E++[]++_=_
     rw [List.append_nil]; rfl
    | some aw =>
     obtain ⟨a,w⟩:=aw
     rw [zrj h]
     have hwl:=hw a w rfl
     have hmap:(E++(some (a,w)).toList).map (zfc at_)=E.map (zfc at_)++[zfc at_ (a,w)]:=by rw [List.map_append]; rfl
     have hcl:E.length+1≤k:=hc
     rw [hmap]
     have hlen:((E.map (zfc at_)++[zfc at_ (a,w)]).length:Int) - 1=(E.length:Int):=by rw [List.length_append,List.length_map]; simp
     rw [hlen]
     refine zaL rfl (zct ⟨by omega,by omega⟩ (zaR (zdq (show (E.map (zfc at_)++[zfc at_ (a,w)])[E.length]?=some (zfc at_ (a,w)) by
      rw [List.getElem?_append_right (by rw [List.length_map]; exact Nat.le_refl _),List.length_map,Nat.sub_self]; rfl)) (zct ⟨by omega,by omega⟩ (zct ⟨by omega,by omega,by omega⟩ ?_))))
     rw [hcut]
     refine zct (by show (ba w).size+(ba [c]).size≤_; rw [ziJ,ziJ]; show _+1≤_; omega) (zct ⟨by omega,by omega⟩ ?_)
     have:=nx E (some (a,w++[c])) (by omega) (by intro a' w' h; injection h with h; injection h with _ h; rw [← h,List.length_append]; show _+1≤_; omega) (by show _+1≤_; omega)
     refine Eq.trans ?_ this
     congr 1
     rw [Int.toNat_natCast,List.set_append_right _ _ (by rw [List.length_map]; exact Nat.le_refl _),List.length_map,Nat.sub_self,List.map_append]
     have e2:(zfc at_ (a,w)).text++ba [c]=ba (w++[c]):=by
      apply zhi
      rw [zgF,zlm,zlm]
      show (ba w).data.toList++_=_
      rw [zlm]
     show _++[(⟨(zfc at_ (a,w)).at_,(zfc at_ (a,w)).text++ba [c]⟩:zau)]=_++[zfc at_ (a,w++[c])]
     rw [e2]; rfl
  ·have:k=line.size:=by omega
   refine zaF (decide_eq_false (by omega)) ?_
   rw [List.drop_eq_nil_of_le (by rw [← zbY]; omega)]; rfl
theorem zuS (line:zBA) (at_:Int) (hs:line.size≤1000000000) (ha : -1000000000≤at_∧at_≤1000000000):zeC line at_=some ((wdK line.data.toList 0 none).map (zfc at_)):=by
 unfold zeC
 refine zb8 ?_
 have:=zqb line at_ hs ha some zcG 0 [] none (Nat.zero_le _) (by unfold zcG; omega) (Nat.zero_le _) (by intro a w h; cases h) (Nat.zero_le _)
 exact this
def zca (o1:zab) (l1:List zau) (j1:zBA→zBA→(List zBA)→Option (zaJ×zab)) (q2:zau) (ag1:zBA→(List zBA)→Int→Option (zaJ×zab)) (said4:zBA) (forms4:List zBA) (x4:Int):Option (zaJ×zab) := zat (decide ((x4:Int)<(l1.length:Int))) ( zbF (fun (j2:zBA→(List zBA)→Option (zaJ×zab)) => zbF (fun (j3:Int→zBA→Bool→Bool→Option (zaJ×zab)) => zak (zd7 l1 x4) fun (q3:zau) => zat ((x4:Int)==0) ( zbF (fun (j4:zBA→Option (zaJ×zab)) => zat (decide ((0:Int)<x4)) ( grd (said4.size+(⟨#[32,97,102,116,101,114]⟩:zBA).size≤9223372036854775807) <| j4 (said4++(⟨#[32,97,102,116,101,114]⟩:zBA))
) ( j4 said4
)
) (fun (said6:zBA) => j2 said6 forms4
)
) ( zat (decide (q2.text=(⟨#[112,117,116]⟩:zBA))) ( zat ((x4:Int)==2) ( zbF (fun (j5:zBA→Option (zaJ×zab)) => zat (decide ((0:Int)<x4)) ( grd (said4.size+(⟨#[32,97,102,116,101,114]⟩:zBA).size≤9223372036854775807) <| j5 (said4++(⟨#[32,97,102,116,101,114]⟩:zBA))
) ( j5 said4
)
) (fun (said7:zBA) => j2 said7 forms4
)
) ( j3 q3.at_ q3.text true ((x4:Int)==2)
)
) ( j3 q3.at_ q3.text false false
)
)
) (fun (wv1:Int) (wv2:zBA) (x5:Bool) (x6:Bool) => zak (zd0 wv2) fun (r2:zBA) => zak (zd7 forms4 x4) fun (q4:zBA) => zak (zd7 (forms4.set (x4:Int).toNat r2) x4) fun (q5:zBA) => zat (decide (q5=(⟨#[]⟩:zBA))) ( some ((⟨221,wv1⟩:zaJ),o1)
) ( zak (zd7 (forms4.set (x4:Int).toNat r2) x4) fun (q6:zBA) => zak (zc8 q6) fun (r3:zBA) => grd ((⟨#[32]⟩:zBA).size+r3.size≤9223372036854775807) <| grd (said4.size+((⟨#[32]⟩:zBA)++r3).size≤9223372036854775807) <| j2 (said4++((⟨#[32]⟩:zBA)++r3)) (forms4.set (x4:Int).toNat r2)
)
)
) (fun (said5:zBA) (forms5:List zBA) => grd (I64 (x4+1)) <| ag1 said5 forms5 (x4+1)
)
) ( j1 q2.text said4 forms4
)
def zb9 (o1:zab) (l1:List zau) (forms1:List zBA) (j6:Option (zaJ×zab)) (ag2:Int→Option (zaJ×zab)) (x9:Int):Option (zaJ×zab) := zat (decide ((x9:Int)<(forms1.length:Int))) ( zbF (fun (j7:Option (zaJ×zab)) => zak (zd7 forms1 x9) fun (q11:zBA) => zat (decide ((1:Int)<x9)) ( zat (!decide (q11=(⟨#[]⟩:zBA))) ( zat (!((zbK q11 o1.place).isSome)) ( zak (zd7 l1 x9) fun (q12:zau) => some ((⟨223,q12.at_⟩:zaJ),o1)
) ( j7
)
) ( j7
)
) ( j7
)
) ( grd (I64 (x9+1)) <| ag2 (x9+1)
)
) ( j6
)
def zdm (o1:zab) (l1:List zau) (end1:Int):Option (zaJ×zab) := zat (((o1.lines.length:Int):Int)==256) ( zak (zd7 l1 0) fun (q1:zau) => some ((⟨3,q1.at_⟩:zaJ),o1)
) ( zak (zeE l1 end1) fun (r1:Int) => zat (decide ((0:Int)≤r1)) ( some ((⟨220,r1⟩:zaJ),o1)
) ( zbF (fun (j1:zBA→zBA→(List zBA)→Option (zaJ×zab)) => zak (zd7 l1 0) fun (q2:zau) => grd (0≤(l1.length:Int)∧(l1.length:Int)≤2147483648) <| zaU (fun _ _ _=>none) (zca o1 l1 j1 q2) zcG q2.text (List.replicate ((l1.length:Int):Int).toNat ByteArray.empty:List zBA) 0
) (fun (verb1:zBA) (said1:zBA) (forms1:List zBA) => zat (decide (verb1=(⟨#[115,107,105,112]⟩:zBA))) ( zak (zd7 forms1 1) fun (q7:zBA) => zak (zcN q7) fun (r4:zBA) => zat (((zbK r4 o1.skips).getD false)) ( zak (zd7 l1 1) fun (q8:zau) => some ((⟨222,q8.at_⟩:zaJ),o1)
) ( grd (o1.lines.length+1≤2147483648) <| some ((⟨0,0⟩:zaJ),(⟨o1.units,o1.place,o1.fors,zgw r4 true o1.skips,o1.lines++[said1]⟩:zab))
)
) ( zak (zd7 forms1 1) fun (q9:zBA) => zak (zdL o1 q9) fun (r5:Bool) => zat (r5) ( zak (zd7 l1 1) fun (q10:zau) => some ((⟨222,q10.at_⟩:zaJ),o1)
) ( zbF (fun (j6:Option (zaJ×zab)) => zaU (fun _=>none) (zb9 o1 l1 forms1 j6) zcG 0
) ( zbF (fun (j8:(List zBA)→(List (zBA×Int))→(List (zBA×List zBA))→(List (zBA×Bool))→(List zBA)→Option (zaJ×zab)) => zat (decide (verb1=(⟨#[112,117,116]⟩:zBA))) ( zak (zd7 forms1 3) fun (q13:zBA) => grd (I64 (((zbK q13 o1.place).getD 0)+1)) <| zak (zd7 forms1 1) fun (q14:zBA) => grd (0≤(((zbK q13 o1.place).getD 0)+1:Int)∧(((zbK q13 o1.place).getD 0)+1:Int)≤(o1.units.length:Int)∧o1.units.length≤2147483648) <| zak (zcH (⟨zia o1.units (((zbK q13 o1.place).getD 0)+1) q14,o1.place,o1.fors,o1.skips,o1.lines⟩:zab)) fun (r6:zab) => j8 r6.units r6.place r6.fors r6.skips r6.lines
) ( zak (zd7 forms1 1) fun (q15:zBA) => grd (0≤(2:Int)∧(2:Int)≤(forms1.length:Int)∧((forms1.length:Int):Int)≤(forms1.length:Int)) <| j8 o1.units o1.place (zgw q15 (zhl forms1 2 (forms1.length:Int)) o1.fors) o1.skips o1.lines
)
) (fun (l2:List zBA) (m1:List (zBA×Int)) (m2:List (zBA×List zBA)) (m3:List (zBA×Bool)) (l3:List zBA) => grd (l3.length+1≤2147483648) <| some ((⟨0,0⟩:zaJ),(⟨l2,m1,m2,m3,l3++[said1]⟩:zab))
)
)
)
)
)
)
)
theorem zhJ {bo1:Nat} {o1:zab} {o1_h0 o1_h1 o1_h2 o1_h3 o1_h4:Hd} {vvl1 vl1:Value} {Ll1:List zau} {kl1:Nat} {l1:List zau} (hwl1:Vw vvl1 Ll1 2 kl1 vl1 l1) {end1:Int} {r:(zaJ×zab)} (h:zdm o1 l1 end1=some r):FnR prog 38 [zP bo1,vl1,zI end1] [ze5 zc3 2 vvl1 kl1 Ll1] [cells bo1 [o1_h0.v,.map (some (zaw o1_h1)),.map (some (zaw o1_h2)),.map (some (zaw o1_h3)),o1_h4.v] 79,zv0 o1_h0.v o1.units,za5 (fun n:zBA=>Value.string n) (fun n:Int=>Value.int .i64 n) (zaw o1_h1) o1.place,zbe (zaw o1_h2) o1.fors,za5 (fun n:zBA=>Value.string n) (fun n:Bool=>Value.bool n) (zaw o1_h3) o1.skips,zv0 o1_h4.v o1.lines] (fun b:Hd×Hd×Hd×Hd×Hd=>.agg (zr2 r.1).toArray) (fun b=>[cells bo1 [b.1.v,.map (some (zaw b.2.1)),.map (some (zaw b.2.2.1)),.map (some (zaw b.2.2.2.1)),b.2.2.2.2.v] 79,zv0 b.1.v r.2.units,za5 (fun n:zBA=>Value.string n) (fun n:Int=>Value.int .i64 n) (zaw b.2.1) r.2.place,zbe (zaw b.2.2.1) r.2.fors,za5 (fun n:zBA=>Value.string n) (fun n:Bool=>Value.bool n) (zaw b.2.2.2.1) r.2.skips,zv0 b.2.2.2.2.v r.2.lines]):=by
 unfold zdm at h
 refine FnR.intro func38 rfl ntmps38 (by simp) ?_
 intro w0 K hrd
 refine zyG ?_
 refine za4 zom rfl dc (fun b1 => ?_)
 refine zyN (zaM (zyG (zyR 1 rfl (za1 rfl dc rfl (zag zjN rfl dc rfl (show _=4 from rfl) (zan (k:=0) zgY rfl dc rfl rfl rfl (zdB (k:=5) rfl dc rfl rfl underlying38 (zaW rfl zbn (zyN ?_)))))))))
 refine zyB rfl h (fun h => ?_) (fun h => ?_)
 ·
  refine zyG (zyR 1 rfl ?_)
  obtain ⟨q1,hq1,h⟩:=zbx h
  refine zbc hwl1 hq1 underlying86 zgo rfl dc rfl rfl rfl (zag zgr rfl dc rfl (show _=(kl1+(0:Int).toNat)*2 from rfl) (zcD (n:=kl1+(0:Int).toNat) (j:=0) (i:=0) (q:=q1) hrd rfl (by omega) zd8 rfl dc rfl (Vw.get hwl1 hq1) rfl rfl ?_))
  refine zck (v:=.agg #[zI 3,zI q1.at_]) (ps:=[(0,.const (zI 3)),(1,.tmp 27)]) rfl dc rfl (fun _=>by kernel_rfl) ?_
  refine za6 (k:=6) (vs:=[zI 3,zI q1.at_]) (l':=[zI 3,zI q1.at_]) zh7 rfl rfl rfl rfl rfl (show _≤_ by simp) rfl rfl ?_
  refine zyN (zaD (zai ?_))
  cases h
  exact zcu (rs:=[.cell 6 35]) (o1_h0,o1_h1,o1_h2,o1_h3,o1_h4) (.inl rfl) results38 (.cons (.cells zi1 (k:=6) rfl rfl rfl) .nil) rfl (zaa [0,1,2,3,4,5] kr rfl)
 refine zaq (zaG (zaM (zyG (zyR 2 rfl ?_))))
 obtain ⟨r1,hq2,h⟩:=zbx h
 refine zdn (v:=zI r1) (vs:=[vl1,zI end1]) hrd rfl dc rfl rfl rfl zyL (zkr hwl1 hq2) (.ro 0 rfl .nil) (zyR 1 rfl (zyH (zyR 1 rfl (zaW rfl zbN (zyN ?_)))))
 refine zyB rfl h (fun h => ?_) (fun h => ?_)
 ·
  refine zyG (zyR 1 rfl ?_)
  refine zck (v:=.agg #[zI 220,zI r1]) (ps:=[(0,.const (zI 220)),(1,.tmp 34)]) rfl dc rfl (fun _=>by kernel_rfl) ?_
  refine za6 (k:=6) (vs:=[zI 220,zI r1]) (l':=[zI 220,zI r1]) zh7 rfl rfl rfl rfl rfl (show _≤_ by simp) rfl rfl ?_
  refine zyN (zaD (zai ?_))
  cases h
  exact zcu (rs:=[.cell 6 35]) (o1_h0,o1_h1,o1_h2,o1_h3,o1_h4) (.inl rfl) results38 (.cons (.cells zi1 (k:=6) rfl rfl rfl) .nil) rfl (zaa [0,1,2,3,4,5] kr rfl)
 refine zaq (zaG ?_)
 obtain ⟨j1,hj1,h⟩:=zbT h
 refine za2 (β:=zBA×zBA×(List zBA)×Value) 3 rfl (fun b=>j1 b.1 b.2.1 b.2.2.1=some r) (fun b=>[]) (fun b=>[(0,zP bo1),(1,vl1),(6,zP b1),(8,.string b.1),(9,.string b.2.1),(10,b.2.2.2)]) (fun b=>[cells bo1 [o1_h0.v,.map (some (zaw o1_h1)),.map (some (zaw o1_h2)),.map (some (zaw o1_h3)),o1_h4.v] 79,zv0 o1_h0.v o1.units,za5 (fun n:zBA=>Value.string n) (fun n:Int=>Value.int .i64 n) (zaw o1_h1) o1.place,zbe (zaw o1_h2) o1.fors,za5 (fun n:zBA=>Value.string n) (fun n:Bool=>Value.bool n) (zaw o1_h3) o1.skips,zv0 o1_h4.v o1.lines,cells b1 [zI 0,zI 0] 35,zv0 b.2.2.2 b.2.2.1]) (fun cut => ?_) ?_
 ·
  refine zyG (zyR 1 rfl ?_)
  obtain ⟨q2,hq3,h⟩:=zbx h
  refine zbc hwl1 hq3 underlying86 zgo rfl dc rfl rfl rfl (zag zhW rfl dc rfl (show _=(kl1+(0:Int).toNat)*2+1 from rfl) (zcD (n:=kl1+(0:Int).toNat) (j:=1) (i:=0) (q:=q2) hrd rfl (by omega) ze4 rfl dc rfl (Vw.get hwl1 hq3) rfl rfl (zyR 1 rfl (zyH (zyR 2 rfl (zyH ?_))))))
  refine zyR 1 rfl (zcs hwl1 rfl dc rfl underlying86 ?_)
  obtain ⟨hg1,h⟩:=zcg h
  refine zq5 (z:=ByteArray.empty) underlying38 zvL zzm zcq rfl dc rfl hg1 (fun v2 => ?_)
  refine zyR 1 rfl (zyN (cut (zyG (zyR 1 rfl (zcs hwl1 rfl dc rfl underlying86 (zyR 1 rfl (zyN (zaA ?_))))))))
  refine zbS (β:=Nat×zBA×(List zBA)×Int) (fun b=>zaU (fun _ _ _=>none) (zca o1 l1 j1 q2) b.1 b.2.1 b.2.2.1 b.2.2.2=some r) (fun b=>[]) (fun b=>[(0,zP bo1),(1,vl1),(6,zP b1),(8,.string q2.text),(9,.string b.2.1),(10,v2),(44,vl1),(45,zI (l1.length:Int)),(46,zI b.2.2.2)]) (fun b=>[cells bo1 [o1_h0.v,.map (some (zaw o1_h1)),.map (some (zaw o1_h2)),.map (some (zaw o1_h3)),o1_h4.v] 79,zv0 o1_h0.v o1.units,za5 (fun n:zBA=>Value.string n) (fun n:Int=>Value.int .i64 n) (zaw o1_h1) o1.place,zbe (zaw o1_h2) o1.fors,za5 (fun n:zBA=>Value.string n) (fun n:Bool=>Value.bool n) (zaw o1_h3) o1.skips,zv0 o1_h4.v o1.lines,cells b1 [zI 0,zI 0] 35,zv0 v2 b.2.2.1]) (fun b=>b.1) (zcG,q2.text,(List.replicate ((l1.length:Int):Int).toNat ByteArray.empty:List zBA),0) h rfl (za9 rfl) (zaa [0,1,2,3,4,5,6,7] kr rfl) ?_
  rintro ⟨n1,said4,forms4,x4⟩ h
  cases n1 with
  | zero=>exact zez h
  | succ n1 =>
   obtain ⟨ag1,hag1⟩:∃ ag,ag=zaU (fun _ _ _=>none) (zca o1 l1 j1 q2) n1:=⟨_,rfl⟩
   have h:zca o1 l1 j1 q2 ag1 said4 forms4 x4=some r:=by rw [hag1]; exact h
   unfold zca at h
   refine zyG (zaW rfl zbE (zyN (zaM ?_)))
   refine zyB rfl h (fun h => ?_) (fun h => ?_)
   ·
    refine zaq (zaG ?_)
    obtain ⟨j2,hj2,h⟩:=zbT h
    refine za2 (β:=zBA×(List zBA)) 0 rfl (fun b=>j2 b.1 b.2=some r) (fun b=>[]) (fun b=>[(0,zP bo1),(1,vl1),(6,zP b1),(8,.string q2.text),(9,.string b.1),(10,v2),(44,vl1),(45,zI (l1.length:Int)),(46,zI x4)]) (fun b=>[cells bo1 [o1_h0.v,.map (some (zaw o1_h1)),.map (some (zaw o1_h2)),.map (some (zaw o1_h3)),o1_h4.v] 79,zv0 o1_h0.v o1.units,za5 (fun n:zBA=>Value.string n) (fun n:Int=>Value.int .i64 n) (zaw o1_h1) o1.place,zbe (zaw o1_h2) o1.fors,za5 (fun n:zBA=>Value.string n) (fun n:Bool=>Value.bool n) (zaw o1_h3) o1.skips,zv0 o1_h4.v o1.lines,cells b1 [zI 0,zI 0] 35,zv0 v2 b.2]) (fun cut => ?_) ?_
    ·
     refine cut (zaA ?_)
     obtain ⟨j3,hj3,h⟩:=zbT h
     refine za2 (β:=Int×zBA×Bool×Bool×Nat) 1 rfl (fun b=>j3 b.1 b.2.1 b.2.2.1 b.2.2.2.1=some r) (fun b=>[]) (fun b=>[(0,zP bo1),(1,vl1),(6,zP b1),(8,.string q2.text),(9,.string said4),(10,v2),(11,zI x4),(12,zP b.2.2.2.2),(44,vl1),(45,zI (l1.length:Int)),(46,zI x4),(54,.string q2.text),(55,.bool (decide (q2.text=(⟨#[112,117,116]⟩:zBA)))),(56,.bool b.2.2.1),(59,.bool b.2.2.2.1)]) (fun b=>[cells bo1 [o1_h0.v,.map (some (zaw o1_h1)),.map (some (zaw o1_h2)),.map (some (zaw o1_h3)),o1_h4.v] 79,zv0 o1_h0.v o1.units,za5 (fun n:zBA=>Value.string n) (fun n:Int=>Value.int .i64 n) (zaw o1_h1) o1.place,zbe (zaw o1_h2) o1.fors,za5 (fun n:zBA=>Value.string n) (fun n:Bool=>Value.bool n) (zaw o1_h3) o1.skips,zv0 o1_h4.v o1.lines,cells b1 [zI 0,zI 0] 35,zv0 v2 forms4,cells b.2.2.2.2 [zI b.1,.string b.2.1] 116]) (fun cut => ?_) ?_
     ·
      refine zyG (zyR 1 rfl ?_)
      obtain ⟨q3,hq4,h⟩:=zbx h
      refine zbc hwl1 hq4 underlying86 zgo rfl dc rfl rfl rfl (zcM (m:=kl1+(x4:Int).toNat) (j:=0) (i:=0) (q:=q3) (cs:=[zI q3.at_,.string q3.text]) hrd rfl (by omega) zwZ rfl dc rfl (Vw.get hwl1 hq4) rfl rfl rfl ?_)
      refine za4 zwF rfl dc (fun b3 => ?_)
      refine zyR 1 rfl (za6 (k:=8) (vs:=[zI q3.at_,.string q3.text]) (l':=[zI q3.at_,.string q3.text]) zgo rfl rfl rfl rfl rfl (show _≤_ by simp) rfl rfl ?_)
      refine zyN (cut (zyG (zyR 1 rfl (zaW rfl zbn (zyR 1 rfl ?_)))))
      refine zyS (s:=53) rfl h (fun h => ?_) (fun h => ?_)
      ·
       refine zyR 7 rfl (zyN (zcf rfl ?_))
       obtain ⟨j4,hj4,h⟩:=zbT h
       refine za2 (β:=zBA) 0 rfl (fun b=>j4 b=some r) (fun b=>[]) (fun b=>[(0,zP bo1),(1,vl1),(6,zP b1),(8,.string q2.text),(9,.string b),(10,v2),(44,vl1),(45,zI (l1.length:Int)),(46,zI x4),(54,undef),(55,undef),(56,undef),(57,undef),(58,undef),(59,undef)]) (fun b=>[cells bo1 [o1_h0.v,.map (some (zaw o1_h1)),.map (some (zaw o1_h2)),.map (some (zaw o1_h3)),o1_h4.v] 79,zv0 o1_h0.v o1.units,za5 (fun n:zBA=>Value.string n) (fun n:Int=>Value.int .i64 n) (zaw o1_h1) o1.place,zbe (zaw o1_h2) o1.fors,za5 (fun n:zBA=>Value.string n) (fun n:Bool=>Value.bool n) (zaw o1_h3) o1.skips,zv0 o1_h4.v o1.lines,cells b1 [zI 0,zI 0] 35,zv0 v2 forms4]) (fun cut => ?_) ?_
       ·
        refine cut (zyG (zyR 1 rfl (zaW rfl zeR (zyN ?_))))
        refine zyB rfl h (fun h => ?_) (fun h => ?_)
        ·
         refine zao (zyR 1 rfl ?_)
         obtain ⟨hg2,h⟩:=zcg h
         refine zaW rfl (zfq hg2) (zyR 1 rfl (zaE ?_))
         exact zaj (said4++(⟨#[32,97,102,116,101,114]⟩:zBA)) h rfl (za9 rfl) (zaa [0,1,2,3,4,5,6,7] kr rfl)
        refine zaq ?_
        exact zaj said4 h rfl (za9 rfl) (zaa [0,1,2,3,4,5,6,7] kr rfl)
       rintro said6 h
       rw [hj4] at h
       refine zbG (zap (zaI ?_))
       exact zaj (said6,forms4) h rfl (za9 rfl) (zaa [0,1,2,3,4,5,6,7] kr rfl)
      refine zyR 1 rfl (zaW rfl zeL (zyR 1 rfl ?_))
      refine zyS (s:=56) rfl h (fun h => ?_) (fun h => ?_)
      ·
       refine zyR 1 rfl (zaW rfl zbn (zyR 2 rfl (zyN ?_)))
       refine zyB rfl h (fun h => ?_) (fun h => ?_)
       ·
        obtain ⟨j5,hj5,h⟩:=zbT h
        refine za2 (β:=zBA) 0 rfl (fun b=>j5 b=some r) (fun b=>[]) (fun b=>[(0,zP bo1),(1,vl1),(6,zP b1),(8,.string q2.text),(9,.string b),(10,v2),(44,vl1),(45,zI (l1.length:Int)),(46,zI x4),(54,.string q2.text),(55,.bool (decide (q2.text=(⟨#[112,117,116]⟩:zBA)))),(56,.bool true),(57,zI x4),(58,.bool ((x4:Int)==2)),(59,.bool ((x4:Int)==2))]) (fun b=>[cells bo1 [o1_h0.v,.map (some (zaw o1_h1)),.map (some (zaw o1_h2)),.map (some (zaw o1_h3)),o1_h4.v] 79,zv0 o1_h0.v o1.units,za5 (fun n:zBA=>Value.string n) (fun n:Int=>Value.int .i64 n) (zaw o1_h1) o1.place,zbe (zaw o1_h2) o1.fors,za5 (fun n:zBA=>Value.string n) (fun n:Bool=>Value.bool n) (zaw o1_h3) o1.skips,zv0 o1_h4.v o1.lines,cells b1 [zI 0,zI 0] 35,zv0 v2 forms4]) (fun cut => ?_) ?_
        ·
         refine cut (zyG (zyR 1 rfl (zaW rfl zeR (zyN ?_))))
         refine zyB rfl h (fun h => ?_) (fun h => ?_)
         ·
          refine zao (zyR 1 rfl ?_)
          obtain ⟨hg3,h⟩:=zcg h
          refine zaW rfl (zfq hg3) (zyR 1 rfl (zaE ?_))
          exact zaj (said4++(⟨#[32,97,102,116,101,114]⟩:zBA)) h rfl (za9 rfl) (zaa [0,1,2,3,4,5,6,7] kr rfl)
         refine zaq ?_
         exact zaj said4 h rfl (za9 rfl) (zaa [0,1,2,3,4,5,6,7] kr rfl)
        rintro said7 h
        rw [hj5] at h
        refine zbG (zap (zaI ?_))
        exact zaj (said7,forms4) h rfl (za9 rfl) (zaa [0,1,2,3,4,5,6,7] kr rfl)
       refine zaq ?_
       exact zaj (q3.at_,q3.text,true,(x4:Int)==2,b3) h rfl (za9 rfl) (zaa [0,1,2,3,4,5,6,7,8] kr rfl)
      refine zyR 4 rfl (zyN (za3 rfl (zaq ?_)))
      exact zaj (q3.at_,q3.text,false,false,b3) h rfl (za9 rfl) (zaa [0,1,2,3,4,5,6,7,8] kr rfl)
     rintro ⟨wv1,wv2,x5,x6,b2⟩ h
     rw [hj3] at h
     refine zaM (zyG (zyR 2 rfl (zag zhW rfl dc rfl (show _=1 from rfl) (zan (k:=8) ze4 rfl dc rfl rfl rfl ?_))))
     obtain ⟨r2,hq5,h⟩:=zbx h
     refine zaQ (v:=.string r2) (vs:=[.string wv2]) rfl dc rfl rfl rfl zyK (zkp hq5) ?_
     obtain ⟨q4,hq6,h⟩:=zbx h
     refine zbo (k:=7) hq6 underlying38 ziS rfl dc rfl rfl rfl rfl ?_
     refine zgi (i:=(x4:Int).toNat) (j:=0) (k:=7) (q:=q4) (q':=r2) ziS zcq rfl rfl rfl rfl (zcj hq6) rfl dc rfl (fun _ _=>rfl) ?_
     refine zyH (zyR 2 rfl ?_)
     obtain ⟨q5,hq7,h⟩:=zbx h
     refine zbo (k:=7) hq7 underlying38 ziS rfl dc rfl rfl rfl rfl (zcv (i:=(x4:Int).toNat) (j:=0) (k:=7) (q:=q5) ze4 zcq rfl dc rfl rfl (zcj hq7) rfl dc rfl (zaW rfl zeL (zyN ?_)))
     refine zyB rfl h (fun h => ?_) (fun h => ?_)
     ·
      refine zyG (zag zgr rfl dc rfl (show _=0 from rfl) (zan (k:=8) zd8 rfl dc rfl rfl rfl ?_))
      refine zck (v:=.agg #[zI 221,zI wv1]) (ps:=[(0,.const (zI 221)),(1,.tmp 77)]) rfl dc rfl (fun _=>by kernel_rfl) ?_
      refine za6 (k:=6) (vs:=[zI 221,zI wv1]) (l':=[zI 221,zI wv1]) zh7 rfl rfl rfl rfl rfl (show _≤_ by simp) rfl rfl ?_
      refine zyN (zaD (zai (zal (zai (zai (zal (zai ?_)))))))
      cases h
      exact zcu (rs:=[.cell 6 35]) (o1_h0,o1_h1,o1_h2,o1_h3,o1_h4) (.inl rfl) results38 (.cons (.cells zi1 (k:=6) rfl rfl rfl) .nil) rfl (zaa [0,1,2,3,4,5] kr rfl)
     refine zaq (zaG (zao (zyR 3 rfl ?_)))
     obtain ⟨q6,hq8,h⟩:=zbx h
     refine zbo (k:=7) hq8 underlying38 ziS rfl dc rfl rfl rfl rfl (zcv (i:=(x4:Int).toNat) (j:=0) (k:=7) (q:=q6) ze4 zcq rfl dc rfl rfl (zcj hq8) rfl dc rfl ?_)
     obtain ⟨r3,hq9,h⟩:=zbx h
     refine zaQ (v:=.string r3) (vs:=[.string q6]) rfl dc rfl rfl rfl zvJ (zfP hq9) ?_
     obtain ⟨hg4,h⟩:=zcg h
     refine zaW rfl (zfq hg4) ?_
     obtain ⟨hg5,h⟩:=zcg h
     refine zaW rfl (zfq hg5) (zyR 1 rfl (zaE (zae ?_)))
     exact zaj (said4++((⟨#[32]⟩:zBA)++r3),forms4.set (x4:Int).toNat r2) h rfl (za9 rfl) (zaa [0,1,2,3,4,5,6,7] kr rfl)
    rintro ⟨said5,forms5⟩ h
    rw [hj2] at h
    refine zao ?_
    obtain ⟨hg6,h⟩:=zcg h
    refine zaW rfl (zbi (r:=x4+1) (IntWalk.i64_in _ hg6)) (zyR 1 rfl (zaE ?_))
    subst hag1
    exact zbv (n1,said5,forms5,x4+1) h (Nat.lt_succ_self _) rfl (za9 rfl) (zaa [0,1,2,3,4,5,6,7] kr rfl)
   refine zbG (zap (zap (zaI ?_)))
   exact zaj (q2.text,said4,forms4,v2) h rfl (za9 rfl) (zaa [0,1,2,3,4,5,6,7] kr rfl)
 rintro ⟨verb1,said1,forms1,v1⟩ h
 rw [hj1] at h
 refine zaM (zyG (zyR 1 rfl (zaW rfl zeL (zyN ?_))))
 refine zyB rfl h (fun h => ?_) (fun h => ?_)
 ·
  refine zyG (zyR 1 rfl ?_)
  obtain ⟨q7,hq10,h⟩:=zbx h
  refine zbo (k:=7) hq10 underlying38 ziS rfl dc rfl rfl rfl rfl (zcv (i:=(1:Int).toNat) (j:=0) (k:=7) (q:=q7) ze4 zcq rfl dc rfl rfl (zcj hq10) rfl dc rfl ?_)
  obtain ⟨r4,hq11,h⟩:=zbx h
  refine zaQ (v:=.string r4) (vs:=[.string q7]) rfl dc rfl rfl rfl zlK (zdt hq11) (zyR 1 rfl (zyN (zaM (zyG (zyR 1 rfl (za1 rfl dc rfl (zag zgB rfl dc rfl (show _=3 from rfl) (zan (k:=0) zly rfl dc rfl rfl rfl (zyR 1 rfl ?_)))))))))
  refine zmh (k:=4) (ek:=(fun n:zBA=>Value.string n)) (ev':=(fun n:Bool=>Value.bool n)) (kk:=r4) (z0:=false) (zcV underlying9) underlying77 kr rfl dc rfl rfl rfl ?_
  refine zyN ?_
  refine zyB rfl h (fun h => ?_) (fun h => ?_)
  ·
   refine zyG (zyR 1 rfl ?_)
   obtain ⟨q8,hq12,h⟩:=zbx h
   refine zbc hwl1 hq12 underlying86 zgo rfl dc rfl rfl rfl (zag zgr rfl dc rfl (show _=(kl1+(1:Int).toNat)*2 from rfl) (zcD (n:=kl1+(1:Int).toNat) (j:=0) (i:=0) (q:=q8) hrd rfl (by omega) zd8 rfl dc rfl (Vw.get hwl1 hq12) rfl rfl ?_))
   refine zck (v:=.agg #[zI 222,zI q8.at_]) (ps:=[(0,.const (zI 222)),(1,.tmp 103)]) rfl dc rfl (fun _=>by kernel_rfl) ?_
   refine za6 (k:=6) (vs:=[zI 222,zI q8.at_]) (l':=[zI 222,zI q8.at_]) zh7 rfl rfl rfl rfl rfl (show _≤_ by simp) rfl rfl (zyN (zaD (zai (zai ?_))))
   cases h
   exact zcu (rs:=[.cell 6 35]) (o1_h0,o1_h1,o1_h2,o1_h3,o1_h4) (.inl rfl) results38 (.cons (.cells zi1 (k:=6) rfl rfl rfl) .nil) rfl (zaa [0,1,2,3,4,5] kr rfl)
  refine zaq (zaG (zyG (zyR 1 rfl (za1 rfl dc rfl (zag zgB rfl dc rfl (show _=3 from rfl) (zan (k:=0) zly rfl dc rfl rfl rfl (zyR 1 rfl ?_)))))))
  refine zfK (k:=4) (ek:=(fun n:zBA=>Value.string n)) (ev':=(fun n:Bool=>Value.bool n)) (kk:=r4) (vv:=true) (zcV underlying9) underlying77 rfl rfl rfl rfl rfl ?_
  refine zyH (zyR 2 rfl (za1 rfl dc rfl (zag zjN rfl dc rfl (show _=4 from rfl) (zan (k:=0) zgY rfl dc rfl rfl rfl (zyR 1 rfl ?_)))))
  refine zaX (cs:=[.string said1]) (te:=9) (ps:=[(0,.tmp 115)]) rfl dc rfl (fun _=>by kernel_rfl) (fun b4 => ?_)
  obtain ⟨hg7,h⟩:=zcg h
  refine zbP (k:=5) (k2:=8) (ys:=[said1]) underlying38 zvL zcq zhX rfl dc rfl rfl rfl rfl rfl rfl hg7 (fun v3 => ?_)
  refine zcr (k:=5) rfl (fun hd1 he1 => ?_)
  subst he1
  refine za1 rfl dc rfl (zag zjN rfl dc rfl (show _=4 from rfl) ?_)
  refine zaP (k:=0) (l':=[o1_h0.v,.map (some (zaw o1_h1)),.map (some (zaw o1_h2)),.map (some (zaw o1_h3)),hd1.v]) zqf rfl rfl rfl rfl rfl (fun _ _=>rfl) rfl ?_
  refine zyH ?_
  refine zck (v:=.agg #[zI 0,zI 0]) (ps:=[]) rfl dc rfl (fun _=>by kernel_rfl) ?_
  refine za6 (k:=6) (vs:=[zI 0,zI 0]) (l':=[zI 0,zI 0]) zh7 rfl rfl rfl rfl rfl (show _≤_ by simp) rfl rfl (zyN (zaD (zai ?_)))
  cases h
  exact zcu (rs:=[.cell 6 35]) (o1_h0,o1_h1,o1_h2,o1_h3,hd1) (.inl rfl) results38 (.cons (.cells zi1 (k:=6) rfl rfl rfl) .nil) rfl (zaa [0,1,2,3,4,5] kr rfl)
 refine zaq (zaG (zaM (zyG (zyR 2 rfl ?_))))
 obtain ⟨q9,hq13,h⟩:=zbx h
 refine zbo (k:=7) hq13 underlying38 ziS rfl dc rfl rfl rfl rfl (zcv (i:=(1:Int).toNat) (j:=0) (k:=7) (q:=q9) ze4 zcq rfl dc rfl rfl (zcj hq13) rfl dc rfl ?_)
 obtain ⟨r5,hq14,h⟩:=zbx h
 refine zdn (v:=.bool r5) (vs:=[zP bo1,.string q9]) hrd rfl dc rfl rfl rfl zyJ (ziG (bo1:=bo1) (o1:=o1) (o1_h0:=o1_h0) (o1_h1:=o1_h1) (o1_h2:=o1_h2) (o1_h3:=o1_h3) (o1_h4:=o1_h4) hq14) (.own (zaa [0] kr rfl) (fun _ _ h=>sepL.one1.1 h) (.own (zaa [1] kr rfl) (fun _ _ h=>sepL.one1.1 h) (.own (zaa [2] kr rfl) (fun _ _ h=>sepL.one1.1 h) (.own (zaa [3] kr rfl) (fun _ _ h=>sepL.one1.1 h) (.own (zaa [4] kr rfl) (fun _ _ h=>sepL.one1.1 h) (.own (zaa [5] kr rfl) (fun _ _ h=>sepL.one1.1 h) .nil)))))) ?_
 refine zyN ?_
 refine zyB rfl h (fun h => ?_) (fun h => ?_)
 ·
  refine zyG (zyR 1 rfl ?_)
  obtain ⟨q10,hq15,h⟩:=zbx h
  refine zbc hwl1 hq15 underlying86 zgo rfl dc rfl rfl rfl (zag zgr rfl dc rfl (show _=(kl1+(1:Int).toNat)*2 from rfl) (zcD (n:=kl1+(1:Int).toNat) (j:=0) (i:=0) (q:=q10) hrd rfl (by omega) zd8 rfl dc rfl (Vw.get hwl1 hq15) rfl rfl ?_))
  refine zck (v:=.agg #[zI 222,zI q10.at_]) (ps:=[(0,.const (zI 222)),(1,.tmp 129)]) rfl dc rfl (fun _=>by kernel_rfl) ?_
  refine za6 (k:=6) (vs:=[zI 222,zI q10.at_]) (l':=[zI 222,zI q10.at_]) zh7 rfl rfl rfl rfl rfl (show _≤_ by simp) rfl rfl (zyN (zaD (zai ?_)))
  cases h
  exact zcu (rs:=[.cell 6 35]) (o1_h0,o1_h1,o1_h2,o1_h3,o1_h4) (.inl rfl) results38 (.cons (.cells zi1 (k:=6) rfl rfl rfl) .nil) rfl (zaa [0,1,2,3,4,5] kr rfl)
 refine zaq (zaG ?_)
 obtain ⟨j6,hj6,h⟩:=zbT h
 refine za2 (β:=Unit) 0 rfl (fun b=>j6=some r) (fun b=>[]) (fun b=>[(0,zP bo1),(6,zP b1),(8,.string verb1),(9,.string said1),(10,v1)]) (fun b=>[cells bo1 [o1_h0.v,.map (some (zaw o1_h1)),.map (some (zaw o1_h2)),.map (some (zaw o1_h3)),o1_h4.v] 79,zv0 o1_h0.v o1.units,za5 (fun n:zBA=>Value.string n) (fun n:Int=>Value.int .i64 n) (zaw o1_h1) o1.place,zbe (zaw o1_h2) o1.fors,za5 (fun n:zBA=>Value.string n) (fun n:Bool=>Value.bool n) (zaw o1_h3) o1.skips,zv0 o1_h4.v o1.lines,cells b1 [zI 0,zI 0] 35,zv0 v1 forms1]) (fun cut => ?_) ?_
 ·
  refine cut (zyG (zyR 1 rfl (zdB (k:=7) rfl dc rfl rfl underlying38 (zyR 1 rfl (zyN (zaA ?_))))))
  refine zbS (β:=Nat×Int) (fun b=>zaU (fun _=>none) (zb9 o1 l1 forms1 j6) b.1 b.2=some r) (fun b=>[]) (fun b=>[(0,zP bo1),(1,vl1),(6,zP b1),(8,.string verb1),(9,.string said1),(10,v1),(131,v1),(132,zI (forms1.length:Int)),(133,zI b.2)]) (fun b=>[cells bo1 [o1_h0.v,.map (some (zaw o1_h1)),.map (some (zaw o1_h2)),.map (some (zaw o1_h3)),o1_h4.v] 79,zv0 o1_h0.v o1.units,za5 (fun n:zBA=>Value.string n) (fun n:Int=>Value.int .i64 n) (zaw o1_h1) o1.place,zbe (zaw o1_h2) o1.fors,za5 (fun n:zBA=>Value.string n) (fun n:Bool=>Value.bool n) (zaw o1_h3) o1.skips,zv0 o1_h4.v o1.lines,cells b1 [zI 0,zI 0] 35,zv0 v1 forms1]) (fun b=>b.1) (zcG,0) h rfl (za9 rfl) (zaa [0,1,2,3,4,5,6,7] kr rfl) ?_
  rintro ⟨n2,x9⟩ h
  cases n2 with
  | zero=>exact zez h
  | succ n2 =>
   obtain ⟨ag2,hag2⟩:∃ ag,ag=zaU (fun _=>none) (zb9 o1 l1 forms1 j6) n2:=⟨_,rfl⟩
   have h:zb9 o1 l1 forms1 j6 ag2 x9=some r:=by rw [hag2]; exact h
   unfold zb9 at h
   refine zyG (zaW rfl zbE (zyN (zaM ?_)))
   refine zyB rfl h (fun h => ?_) (fun h => ?_)
   ·
    refine zaq (zaG ?_)
    obtain ⟨j7,hj7,h⟩:=zbT h
    refine za2 (β:=Unit) 0 rfl (fun b=>j7=some r) (fun b=>[]) (fun b=>[(0,zP bo1),(1,vl1),(6,zP b1),(8,.string verb1),(9,.string said1),(10,v1),(131,v1),(132,zI (forms1.length:Int)),(133,zI x9)]) (fun b=>[cells bo1 [o1_h0.v,.map (some (zaw o1_h1)),.map (some (zaw o1_h2)),.map (some (zaw o1_h3)),o1_h4.v] 79,zv0 o1_h0.v o1.units,za5 (fun n:zBA=>Value.string n) (fun n:Int=>Value.int .i64 n) (zaw o1_h1) o1.place,zbe (zaw o1_h2) o1.fors,za5 (fun n:zBA=>Value.string n) (fun n:Bool=>Value.bool n) (zaw o1_h3) o1.skips,zv0 o1_h4.v o1.lines,cells b1 [zI 0,zI 0] 35,zv0 v1 forms1]) (fun cut => ?_) ?_
    ·
     refine cut (zaA (zyG (zyR 1 rfl ?_)))
     obtain ⟨q11,hq16,h⟩:=zbx h
     refine zbo (k:=7) hq16 underlying38 ziS rfl dc rfl rfl rfl rfl (zcv (i:=(x9:Int).toNat) (j:=0) (k:=7) (q:=q11) ze4 zcq rfl dc rfl rfl (zcj hq16) rfl dc rfl (zyR 2 rfl (zyH (zyR 1 rfl (za1 rfl dc rfl (zag zjO rfl dc rfl (show _=1 from rfl) (zan (k:=0) zqk rfl dc rfl rfl rfl (zyR 1 rfl ?_))))))))
     refine zha (k:=2) (ek:=(fun n:zBA=>Value.string n)) (ev':=(fun n:Int=>Value.int .i64 n)) (kk:=q11) (z0:=0) (zcV underlying9) underlying75 kr rfl dc rfl rfl rfl ?_
     refine zyR 1 rfl (zaH rfl dc rfl rfl (zaH rfl dc rfl rfl (zyR 2 rfl (zyH (zyR 1 rfl (zaW rfl zeR (zyR 1 rfl ?_)))))))
     refine zyS (s:=149) rfl h (fun h => ?_) (fun h => ?_)
     ·
      refine zyR 1 rfl (zaW rfl zjx (zyR 2 rfl ?_))
      refine zyS (s:=153) rfl h (fun h => ?_) (fun h => ?_)
      ·
       refine zyR 1 rfl (zgG rfl dc rfl zeS (zyR 1 rfl (zyN ?_)))
       refine zyB rfl h (fun h => ?_) (fun h => ?_)
       ·
        refine zyG (zyR 2 rfl ?_)
        obtain ⟨q12,hq17,h⟩:=zbx h
        refine zbc hwl1 hq17 underlying86 zgo rfl dc rfl rfl rfl (zag zgr rfl dc rfl (show _=(kl1+(x9:Int).toNat)*2 from rfl) (zcD (n:=kl1+(x9:Int).toNat) (j:=0) (i:=0) (q:=q12) hrd rfl (by omega) zd8 rfl dc rfl (Vw.get hwl1 hq17) rfl rfl ?_))
        refine zck (v:=.agg #[zI 223,zI q12.at_]) (ps:=[(0,.const (zI 223)),(1,.tmp 161)]) rfl dc rfl (fun _=>by kernel_rfl) ?_
        refine za6 (k:=6) (vs:=[zI 223,zI q12.at_]) (l':=[zI 223,zI q12.at_]) zh7 rfl rfl rfl rfl rfl (show _≤_ by simp) rfl rfl (zyN (zaD (zal (zai (zai (zal (zai ?_)))))))
        cases h
        exact zcu (rs:=[.cell 6 35]) (o1_h0,o1_h1,o1_h2,o1_h3,o1_h4) (.inl rfl) results38 (.cons (.cells zi1 (k:=6) rfl rfl rfl) .nil) rfl (zaa [0,1,2,3,4,5] kr rfl)
       refine zaq (zae ?_)
       exact zaj () h rfl (za9 rfl) (zaa [0,1,2,3,4,5,6,7] kr rfl)
      refine zyR 3 rfl (zyN (za3 rfl (zaq (zae ?_))))
      exact zaj () h rfl (za9 rfl) (zaa [0,1,2,3,4,5,6,7] kr rfl)
     refine zyR 7 rfl (zyN (za3 rfl (zaq (zae ?_))))
     exact zaj () h rfl (za9 rfl) (zaa [0,1,2,3,4,5,6,7] kr rfl)
    rintro _ h
    rw [hj7] at h
    refine zao ?_
    obtain ⟨hg8,h⟩:=zcg h
    refine zaW rfl (zbi (r:=x9+1) (IntWalk.i64_in _ hg8)) (zyR 1 rfl (zaE ?_))
    subst hag2
    exact zbv (n2,x9+1) h (Nat.lt_succ_self _) rfl (za9 rfl) (zaa [0,1,2,3,4,5,6,7] kr rfl)
   refine zbG (zap (zap (zaI ?_)))
   exact zaj () h rfl (za9 rfl) (zaa [0,1,2,3,4,5,6,7] kr rfl)
 rintro _ h
 rw [hj6] at h
 obtain ⟨j8,hj8,h⟩:=zbT h
 refine za2 (β:=(List zBA)×(List (zBA×Int))×(List (zBA×List zBA))×(List (zBA×Bool))×(List zBA)×Hd×Nat×Nat×Nat×Hd) 0 rfl (fun b=>j8 b.1 b.2.1 b.2.2.1 b.2.2.2.1 b.2.2.2.2.1=some r) (fun b=>[]) (fun b=>[(0,zP bo1),(6,zP b1),(9,.string said1)]) (fun b=>[cells bo1 [b.2.2.2.2.2.1.v,.map (some b.2.2.2.2.2.2.1),.map (some b.2.2.2.2.2.2.2.1),.map (some b.2.2.2.2.2.2.2.2.1),b.2.2.2.2.2.2.2.2.2.v] 79,zv0 b.2.2.2.2.2.1.v b.1,za5 (fun n:zBA=>Value.string n) (fun n:Int=>Value.int .i64 n) b.2.2.2.2.2.2.1 b.2.1,zbe b.2.2.2.2.2.2.2.1 b.2.2.1,za5 (fun n:zBA=>Value.string n) (fun n:Bool=>Value.bool n) b.2.2.2.2.2.2.2.2.1 b.2.2.2.1,zv0 b.2.2.2.2.2.2.2.2.2.v b.2.2.2.2.1,cells b1 [zI 0,zI 0] 35]) (fun cut => ?_) ?_
 ·
  refine cut (zyG (zyR 1 rfl (zaW rfl zeL (zyN ?_))))
  refine zyB rfl h (fun h => ?_) (fun h => ?_)
  ·
   refine zaM ?_
   obtain ⟨q13,hq18,h⟩:=zbx h
   obtain ⟨hg9,h⟩:=zcg h
   obtain ⟨q14,hq19,h⟩:=zbx h
   obtain ⟨hg10,h⟩:=zcg h
   refine zuK 2 ?_
   refine let vals1:(Nat×Hd)→List (Nat×Nat×Value):=fun b=>[(0,166,zP bo1),(1,167,zP bo1),(2,168,zP bo1),(3,169,zP bo1),(4,170,o1_h0.v),(5,171,zP bo1),(6,172,zP bo1),(7,173,.pointer (some ⟨bo1,1,none⟩)),(8,174,.map (some (zaw o1_h1))),(9,175,v1),(10,176,.pointer (some ⟨zh6 v1,(3:Int).toNat*1,none⟩)),(11,177,.string q13),(12,178,zI ((zbK q13 o1.place).getD 0)),(13,179,zI (((zbK q13 o1.place).getD 0)+1)),(14,180,v1),(15,181,.pointer (some ⟨zh6 v1,(1:Int).toNat*1,none⟩)),(16,182,.string q14),(17,183,.slice (some ⟨b.1,0,none⟩) 1 1),(18,184,b.2.v)]; let LL1:(Nat→Prop)→(Nat×Hd)→List Asn:=fun D b=>[cells bo1 [o1_h0.v,.map (some (zaw o1_h1)),.map (some (zaw o1_h2)),.map (some (zaw o1_h3)),o1_h4.v] 79,eD D (zv0 o1_h0.v o1.units) [(18,emp)],za5 (fun n:zBA=>Value.string n) (fun n:Int=>Value.int .i64 n) (zaw o1_h1) o1.place,zbe (zaw o1_h2) o1.fors,za5 (fun n:zBA=>Value.string n) (fun n:Bool=>Value.bool n) (zaw o1_h3) o1.skips,zv0 o1_h4.v o1.lines,cells b1 [zI 0,zI 0] 35,zv0 v1 forms1,eD D emp [(18,emp),(17,cells b.1 [.string q14] 9)],eD D emp [(18,zv0 b.2.v (zia o1.units (((zbK q13 o1.place).getD 0)+1) q14))]]; ?_
   have zhq:zyQ [17,18] LL1:=fun i h D b=>zaV rfl (zaV (zwu rfl h) (zaV rfl (zaV rfl (zaV rfl (zaV rfl (zaV rfl (zaV rfl (zaV (zwu rfl h) (zaV (zwu rfl h) rfl)))))))))
   refine zp6 (β:=Nat×Hd) 19 ((0:Nat),Hd.nil) vals1 LL1 mixed kr kr dc (fun _=>rfl) (zaV rfl (zaV zjV (zp9 (zaV zjV (zaV zjV rfl))))) (zwv zhq (fun _=>rfl) (fun _=>rfl) 2 0 (fun _=>rfl) rfl (zyq zhq rfl (fun _=>rfl) (fun _=>rfl) ?_ (zyq zhq rfl (fun _=>rfl) (fun _=>rfl) ?_ (zre zhq rfl (fun _=>rfl) (fun _=>rfl) ?_ (zwv zhq (fun _=>rfl) (fun _=>rfl) 1 5 (fun _=>rfl) rfl (zyq zhq rfl (fun _=>rfl) (fun _=>rfl) ?_ (zyq zhq rfl (fun _=>rfl) (fun _=>rfl) ?_ (zre zhq rfl (fun _=>rfl) (fun _=>rfl) ?_ (zwv zhq (fun _=>rfl) (fun _=>rfl) 1 9 (fun _=>rfl) rfl (zre zhq rfl (fun _=>rfl) (fun _=>rfl) ?_ (zre zhq rfl (fun _=>rfl) (fun _=>rfl) ?_ (zre zhq rfl (fun _=>rfl) (fun _=>rfl) ?_ (zyq zhq rfl (fun _=>rfl) (fun _=>rfl) ?_ (zwv zhq (fun _=>rfl) (fun _=>rfl) 1 14 (fun _=>rfl) rfl (zre zhq rfl (fun _=>rfl) (fun _=>rfl) ?_ (zre zhq rfl (fun _=>rfl) (fun _=>rfl) ?_ (zgT ?_ (zgT ?_ DrawG.nil)))))))))))))))))) ?_
   · exact fun D ⟨b8,hd4⟩ n d c u i=>za1 rfl dc (zaT 1 u d) (zaK 2 u i)
   · exact fun D ⟨b8,hd4⟩ n d c u i=>zag ziF rfl dc (zaT 2 u d) (show _=0 from rfl) (zaK 3 u i)
   · exact fun D ⟨b8,hd4⟩ n d c u i=>⟨_,(zaV rfl (zaV (zcc (fun hD=>n (c 18 _ rfl hD 4 dc)) zdK) (zp9 (zaV (zcc (fun hD=>n (c 18 _ rfl hD 4 dc)) rfl) (zaV (zcc (fun hD=>n (c 18 _ rfl hD 4 dc)) zdK) rfl))))),zan (k:=0) zgY rfl dc (zaT 3 u d) rfl rfl (zaK 4 u i)⟩
   · exact fun D ⟨b8,hd4⟩ n d c u i=>za1 rfl dc (zaT 5 u d) (zaK 6 u i)
   · exact fun D ⟨b8,hd4⟩ n d c u i=>zag zjO rfl dc (zaT 6 u d) (show _=1 from rfl) (zaK 7 u i)
   · exact fun D ⟨b8,hd4⟩ n d c u i=>⟨_,(zaV rfl (zaV (zcc (fun hD=>n (c 12 _ rfl (c 13 _ rfl (c 18 _ rfl hD 13 dc) 12 dc) 8 dc)) zdK) (zp9 (zaV (zcc (fun hD=>n (c 12 _ rfl (c 13 _ rfl (c 18 _ rfl hD 13 dc) 12 dc) 8 dc)) rfl) (zaV (zcc (fun hD=>n (c 12 _ rfl (c 13 _ rfl (c 18 _ rfl hD 13 dc) 12 dc) 8 dc)) zdK) rfl))))),zan (k:=0) zqk rfl dc (zaT 7 u d) rfl rfl (zaK 8 u i)⟩
   · exact fun D ⟨b8,hd4⟩ n d c u i=>⟨_,(zaV rfl (zaV (zcc (fun hD=>n (c 11 _ rfl (c 12 _ rfl (c 13 _ rfl (c 18 _ rfl hD 13 dc) 12 dc) 11 dc) 10 dc)) zdK) (zp9 (zaV (zcc (fun hD=>n (c 11 _ rfl (c 12 _ rfl (c 13 _ rfl (c 18 _ rfl hD 13 dc) 12 dc) 11 dc) 10 dc)) rfl) (zaV (zcc (fun hD=>n (c 11 _ rfl (c 12 _ rfl (c 13 _ rfl (c 18 _ rfl hD 13 dc) 12 dc) 11 dc) 10 dc)) zdK) rfl))))),zbo (k:=7) hq18 underlying38 ziS rfl dc (zaT 9 u d) rfl rfl rfl (zaK 10 u i)⟩
   · exact fun D ⟨b8,hd4⟩ n d c u i=>⟨_,(zaV rfl (zaV (zcc (fun hD=>n (c 12 _ rfl (c 13 _ rfl (c 18 _ rfl hD 13 dc) 12 dc) 11 dc)) zdK) (zp9 (zaV (zcc (fun hD=>n (c 12 _ rfl (c 13 _ rfl (c 18 _ rfl hD 13 dc) 12 dc) 11 dc)) rfl) (zaV (zcc (fun hD=>n (c 12 _ rfl (c 13 _ rfl (c 18 _ rfl hD 13 dc) 12 dc) 11 dc)) zdK) rfl))))),zcv (i:=(3:Int).toNat) (j:=0) (k:=7) (q:=q13) ze4 zcq rfl dc (zaT 10 u d) rfl (zcj hq18) rfl dc rfl (zaK 11 u i)⟩
   · exact fun D ⟨b8,hd4⟩ n d c u i=>⟨_,(zaV rfl (zaV (zcc (fun hD=>n (c 13 _ rfl (c 18 _ rfl hD 13 dc) 12 dc)) zdK) (zp9 (zaV (zcc (fun hD=>n (c 13 _ rfl (c 18 _ rfl hD 13 dc) 12 dc)) rfl) (zaV (zcc (fun hD=>n (c 13 _ rfl (c 18 _ rfl hD 13 dc) 12 dc)) zdK) rfl))))),zmh (k:=2) (ek:=(fun n:zBA=>Value.string n)) (ev':=(fun n:Int=>Value.int .i64 n)) (kk:=q13) (z0:=0) (zcV underlying9) underlying75 kr rfl dc (zaT 8 u d) (zaT 11 u d) rfl (zaK 12 u i)⟩
   · exact fun D ⟨b8,hd4⟩ n d c u i=>zhj rfl dc (zaT 12 u d) rfl (zbi (r:=((zbK q13 o1.place).getD 0)+1) (IntWalk.i64_in _ hg9)) (zaK 13 u i)
   · exact fun D ⟨b8,hd4⟩ n d c u i=>⟨_,(zaV rfl (zaV (zcc (fun hD=>n (c 16 _ rfl (c 17 _ rfl (c 18 _ rfl hD 17 dc) 16 dc) 15 dc)) zdK) (zp9 (zaV (zcc (fun hD=>n (c 16 _ rfl (c 17 _ rfl (c 18 _ rfl hD 17 dc) 16 dc) 15 dc)) (zcc (fun hD=>n (c 16 _ rfl (c 17 _ rfl hD 16 dc) 15 dc)) zdK)) (zaV (zcc (fun hD=>n (c 16 _ rfl (c 17 _ rfl (c 18 _ rfl hD 17 dc) 16 dc) 15 dc)) zdK) rfl))))),zbo (k:=7) hq19 underlying38 ziS rfl dc (zaT 14 u d) rfl rfl rfl (zaK 15 u i)⟩
   · exact fun D ⟨b8,hd4⟩ n d c u i=>⟨_,(zaV rfl (zaV (zcc (fun hD=>n (c 17 _ rfl (c 18 _ rfl hD 17 dc) 16 dc)) zdK) (zp9 (zaV (zcc (fun hD=>n (c 17 _ rfl (c 18 _ rfl hD 17 dc) 16 dc)) (zcc (fun hD=>n (c 17 _ rfl hD 16 dc)) zdK)) (zaV (zcc (fun hD=>n (c 17 _ rfl (c 18 _ rfl hD 17 dc) 16 dc)) zdK) rfl))))),zcv (i:=(1:Int).toNat) (j:=0) (k:=7) (q:=q14) ze4 zcq rfl dc (zaT 15 u d) rfl (zcj hq19) rfl dc rfl (zaK 16 u i)⟩
   ·
    intro D b hn hd hcl
    obtain ⟨zb0,hd4⟩:=b
    refine zj3 (zaV rfl (zaV (zcc (fun hD=>hn (hcl 18 _ rfl hD 17 dc)) zdK) (zp9 (zaV (zcc (fun hD=>hn (hcl 18 _ rfl hD 17 dc)) (zcc hn zdK)) (zaV (zcc (fun hD=>hn (hcl 18 _ rfl hD 17 dc)) zdK) rfl))))) ?_
    refine zaX (cs:=[.string q14]) (te:=9) (ps:=[(0,.tmp 182)]) rfl dc (evP.cons (zdZ (m:=16) rfl rfl (hd 16 dc)) evP.nil) (fun _=>by kernel_rfl) (fun b8 => ?_)
    refine zkK 8 rfl rfl ?_
    exact znc (b:=(zb0,hd4)) (b8,hd4) 17 (by rfl) (by rfl) rfl (zzA (zww (zay (fun hD=>absurd hD hn) (zay (fun _=>rfl) rfl)))) (zaV rfl (zaV ((zjU (by rfl)).trans (zcc (fun hD=>hn (hcl 18 _ rfl hD 17 dc)) zdK)) (zp9 (zaV (zcc (fun h=>h.elim (fun hD=>hn (hcl 18 _ rfl hD 17 dc)) (fun h=>absurd h dc)) (zhh (Or.inr rfl) rfl)) (zaV ((zjU (by rfl)).trans (zcc (fun hD=>hn (hcl 18 _ rfl hD 17 dc)) zdK)) rfl)))))
   ·
    intro D b hn hd hcl
    obtain ⟨b8,zb1⟩:=b
    refine zj3 (zaV rfl (zaV (zcc hn zdK) (zp9 (zaV (zcc hn (zhh (hd 17 dc) rfl)) (zaV (zcc hn zdK) rfl))))) ?_
    refine zb3 (vs:=[o1_h0.v,zI (((zbK q13 o1.place).getD 0)+1),.slice (some ⟨b8,0,none⟩) 1 1]) rfl dc rfl (evL.cons (zdZ (m:=4) rfl rfl (hd 4 dc)) (evL.cons (zdZ (m:=13) rfl rfl (hd 13 dc)) (evL.cons (zdZ (m:=17) rfl rfl (hd 17 dc)) evL.nil))) rfl zyI (zr7 (x:=q14) hg10) (zaa [1,8] kr rfl) ?_
    rintro v4
    refine zcr (k:=10) rfl (fun hd4 he2 => ?_)
    subst he2
    refine zkK 9 rfl rfl ?_
    exact znc (b:=(b8,zb1)) (b8,hd4) 18 (by rfl) (by rfl) rfl (zzk (zww (zay (fun hD=>absurd hD hn) rfl))) (zaV rfl (zaV (zhh (Or.inr rfl) rfl) (zp9 (zaV (zhh (Or.inr rfl) rfl) (zaV (zhh (Or.inr rfl) rfl) rfl)))))
   intro D b hall
   obtain ⟨b8,hd4⟩:=b
   refine zj3 (zaV rfl (zaV (zhh (hall 18 dc) rfl) (zp9 (zaV (zhh (hall 18 dc) rfl) (zaV (zhh (hall 18 dc) rfl) rfl))))) ?_
   refine za1 rfl dc rfl (zag ziF rfl dc rfl (show _=0 from rfl) ?_)
   refine zaP (k:=0) (l':=[hd4.v,.map (some (zaw o1_h1)),.map (some (zaw o1_h2)),.map (some (zaw o1_h3)),o1_h4.v]) zqf rfl rfl rfl rfl rfl (fun _ _=>rfl) rfl ?_
   refine zyN (zao (zyR 1 rfl ?_))
   obtain ⟨r6,hq20,h⟩:=zbx h
   refine zb3 (vs:=[zP bo1]) rfl dc rfl rfl rfl zxh (zfn (bo1:=bo1) (o1:=(⟨zia o1.units (((zbK q13 o1.place).getD 0)+1) q14,o1.place,o1.fors,o1.skips,o1.lines⟩:zab)) (o1_h0:=hd4) (o1_h1:=o1_h1) (o1_h2:=o1_h2) (o1_h3:=o1_h3) (o1_h4:=o1_h4) hq20) (zaa [0,9,2,3,4,5] kr rfl) ?_
   rintro ⟨hd5,hd6,hd7,hd8,hd9⟩
   refine zcI (L':=[cells bo1 [hd5.v,.map (some (zaw hd6)),.map (some (zaw hd7)),.map (some (zaw hd8)),hd9.v] 79,emp,za5 (fun n:zBA=>Value.string n) (fun n:Int=>Value.int .i64 n) (zaw hd6) r6.place,zbe (zaw hd7) r6.fors,za5 (fun n:zBA=>Value.string n) (fun n:Bool=>Value.bool n) (zaw hd8) r6.skips,zv0 hd9.v r6.lines,cells b1 [zI 0,zI 0] 35,zv0 v1 forms1,emp,zv0 hd5.v r6.units]) (zaa [10,1,12,13,14,15,6,7,8,11] kr rfl) ?_
   refine zaE ?_
   exact zaj (r6.units,r6.place,r6.fors,r6.skips,r6.lines,hd5,(zaw hd6),(zaw hd7),(zaw hd8),hd9) h rfl (za9 rfl) (zaa [0,9,2,3,4,5,6] kr rfl)
  obtain ⟨q15,hq21,h⟩:=zbx h
  obtain ⟨hg11,h⟩:=zcg h
  refine zua (k:=7) rfl (fun hw1 => ?_)
  obtain ⟨v5,hv1,hs1⟩:=ziX (lo:=some (zI 2)) (hi:=none) hw1 underlying38 ziS (.inr rfl) (.inl ⟨rfl,rfl⟩) hg11
  refine zdh 9 [(0,189,zP bo1),(1,190,zP bo1),(2,191,.pointer (some ⟨bo1,2,none⟩)),(3,192,.map (some (zaw o1_h2))),(4,193,v1),(5,194,.pointer (some ⟨zh6 v1,(1:Int).toNat*1,none⟩)),(6,195,.string q15),(7,196,v1),(8,197,v5)] mixed kr kr dc (by rfl) kr kr (zyP 1 0 rfl (zad ?_ (zad ?_ (zad ?_ (zyP 1 4 rfl (zad ?_ (zad ?_ (zyP 1 7 rfl (zad ?_ DrawPre.nil))))))))) ?_
  · exact fun D n d c u i=>za1 rfl dc (zaT 0 u d) (zaK 1 u i)
  · exact fun D n d c u i=>zag zoV rfl dc (zaT 1 u d) (show _=2 from rfl) (zaK 2 u i)
  · exact fun D n d c u i=>zan (k:=0) zu6 rfl dc (zaT 2 u d) rfl rfl (zaK 3 u i)
  · exact fun D n d c u i=>zbo (k:=7) hq21 underlying38 ziS rfl dc (zaT 4 u d) rfl rfl rfl (zaK 5 u i)
  · exact fun D n d c u i=>zcv (i:=(1:Int).toNat) (j:=0) (k:=7) (q:=q15) ze4 zcq rfl dc (zaT 5 u d) rfl (zcj hq21) rfl dc rfl (zaK 6 u i)
  · exact fun D n d c u i=>zce rfl dc (zaT 7 u d) (evO.some rfl) zpR hs1 (zaK 8 u i)
  obtain ⟨hdn1,hd11⟩:=Vw.head hv1
  have hkp:=h
  subst hd11
  have h:=hkp
  refine zj5 (As:=[zbe (zaw o1_h2) o1.fors]) (zaa [3] kr rfl) znj ?_
  rintro Lf1 hLf1
  refine zfK (k:=8) (ek:=(fun s:zBA=>Value.string s)) (ev':=fsV) (kk:=q15) (vv:=(zhl forms1 2 (forms1.length:Int),hdn1)) (zcV underlying9) underlying76 rfl rfl rfl rfl rfl ?_
  refine zlq (k:=7) rfl (zuh zcq hv1) ?_
  refine zj5 (As:=[fsM (zaw o1_h2) (zgw q15 (zhl forms1 2 (forms1.length:Int),hdn1) Lf1),fsO Lf1,zmC zgU 1 hdn1 (zhl forms1 2 (forms1.length:Int))]) (zaa [8,9,7] kr rfl) (zoi q15 (zhl forms1 2 (forms1.length:Int)) hdn1 hLf1) ?_
  rintro _ _
  refine zaE ?_
  exact zaj (o1.units,o1.place,zgw q15 (zhl forms1 2 (forms1.length:Int)) o1.fors,o1.skips,o1.lines,o1_h0,(zaw o1_h1),(zaw o1_h2),(zaw o1_h3),o1_h4) h rfl (za9 rfl) (zaa [0,1,2,10,4,5,6] kr rfl)
 rintro ⟨l2,m1,m2,m3,l3,hd2,b5,b6,b7,hd3⟩ h
 rw [hj8] at h
 refine zyG (zyR 2 rfl (za1 rfl dc rfl (zag zjN rfl dc rfl (show _=4 from rfl) (zan (k:=0) zgY rfl dc rfl rfl rfl (zyR 1 rfl ?_)))))
 refine zaX (cs:=[.string said1]) (te:=9) (ps:=[(0,.tmp 203)]) rfl dc rfl (fun _=>by kernel_rfl) (fun b9 => ?_)
 obtain ⟨hg12,h⟩:=zcg h
 refine zbP (k:=5) (k2:=7) (ys:=[said1]) underlying38 zvL zcq zhX rfl dc rfl rfl rfl rfl rfl rfl hg12 (fun v6 => ?_)
 refine zcr (k:=5) rfl (fun hd12 he3 => ?_)
 subst he3
 refine za1 rfl dc rfl (zag zjN rfl dc rfl (show _=4 from rfl) ?_)
 refine zaP (k:=0) (l':=[hd2.v,.map (some b5),.map (some b6),.map (some b7),hd12.v]) zqf rfl rfl rfl rfl rfl (fun _ _=>rfl) rfl ?_
 refine zyH ?_
 refine zck (v:=.agg #[zI 0,zI 0]) (ps:=[]) rfl dc rfl (fun _=>by kernel_rfl) ?_
 refine za6 (k:=6) (vs:=[zI 0,zI 0]) (l':=[zI 0,zI 0]) zh7 rfl rfl rfl rfl rfl (show _≤_ by simp) rfl rfl ?_
 refine zyN (zaD ?_)
 cases h
 exact zcu (rs:=[.cell 6 35]) (hd2,(⟨some ⟨b5,0,none⟩,0,0⟩:Hd),(⟨some ⟨b6,0,none⟩,0,0⟩:Hd),(⟨some ⟨b7,0,none⟩,0,0⟩:Hd),hd12) (.inl rfl) results38 (.cons (.cells zi1 (k:=6) rfl rfl rfl) .nil) rfl (zaa [0,1,2,3,4,5] kr rfl)
def zdz (ek1:Int→Int→(List zBA)→(List (zBA×Int))→(List (zBA×List zBA))→(List (zBA×Bool))→(List zBA)→Int→Option ((Option zab)×zaJ)) (x1:zBA) (ag1:(List zBA)→(List (zBA×Int))→(List (zBA×List zBA))→(List (zBA×Bool))→(List zBA)→Int→Option ((Option zab)×zaJ)) (o16:List zBA) (o17:List (zBA×Int)) (o18:List (zBA×List zBA)) (o19:List (zBA×Bool)) (o20:List zBA) (at3:Int):Option ((Option zab)×zaJ) := grd (I64 ((x1.size:Int)+1)) <| grd (I64 (at3+((x1.size:Int)+1))) <| zak (zeC x1 at3) fun (r3:(List zau)) => zat (((r3.length:Int):Int)==0) ( ag1 o16 o17 o18 o19 o20 (at3+((x1.size:Int)+1))
) ( grd (I64 (at3+(x1.size:Int))) <| zak (zdm (⟨o16,o17,o18,o19,o20⟩:zab) r3 (at3+(x1.size:Int))) fun (r4:(zaJ×zab)) => zat ((r4.1.Err:Int) != 0) ( ek1 r4.1.Err r4.1.At r4.2.units r4.2.place r4.2.fors r4.2.skips r4.2.lines (at3+((x1.size:Int)+1))
) ( ag1 r4.2.units r4.2.place r4.2.fors r4.2.skips r4.2.lines (at3+((x1.size:Int)+1))
)
)
def zdv (text1:zBA):Option ((Option zab)×zaJ) := zat (decide ((65536:Int)<(text1.size:Int))) ( some (none,(⟨3,65536⟩:zaJ))
) ( zbF (fun (j1:(List zBA)→(List (zBA×Int))→(List (zBA×List zBA))→(List (zBA×Bool))→(List zBA)→Option ((Option zab)×zaJ)) => zak (zd2) fun (r1:zab) => zak (zff text1 (⟨#[10]⟩:zBA)) fun (r2:(zBA×zBA×Int)) => zak (zdX r2.1 r2.2.1 r2.2.2) fun (its1:(List zBA)) => zbF (fun (ek1:Int→Int→(List zBA)→(List (zBA×Int))→(List (zBA×List zBA))→(List (zBA×Bool))→(List zBA)→Int→Option ((Option zab)×zaJ)) => zbF (fun (dn1:(List zBA)→(List (zBA×Int))→(List (zBA×List zBA))→(List (zBA×Bool))→(List zBA)→Int→Option ((Option zab)×zaJ)) => zb4 dn1 (zdz ek1) its1 r1.units r1.place r1.fors r1.skips r1.lines 0
) (fun (o16:List zBA) (o17:List (zBA×Int)) (o18:List (zBA×List zBA)) (o19:List (zBA×Bool)) (o20:List zBA) (at3:Int) => j1 o16 o17 o18 o19 o20
)
) (fun (x2:Int) (x3:Int) (o21:List zBA) (o22:List (zBA×Int)) (o23:List (zBA×List zBA)) (o24:List (zBA×Bool)) (o25:List zBA) (at4:Int) => some (none,(⟨x2,x3⟩:zaJ))
)
) (fun (o1:List zBA) (o2:List (zBA×Int)) (o3:List (zBA×List zBA)) (o4:List (zBA×Bool)) (o5:List zBA) => some ((some (⟨o1,o2,o3,o4,o5⟩:zab)),(⟨0,0⟩:zaJ))
)
)
theorem zfm {text1:zBA} {r:((Option zab)×zaJ)} (h:zdv text1=some r):Fn prog 14 [.string text1] [] (fun v0:Value=>.tuple #[v0,.agg (zr2 r.2).toArray]) (fun v0=>[zkZ zaZ zaY 79 v0 r.1]):=by
 unfold zdv at h
 refine Fn.intro func14 rfl ntmps14 (by simp) ?_
 intro w0 K
 refine zfV ?_
 show TC _ _ _ _ _ _ _ _ _ [zej ((([]:List Nat):List Nat).map zdW)]
 refine zyG ?_
 refine za4 zwE rfl dc (fun b1 => ?_)
 refine za4 zom rfl dc (fun b2 => ?_)
 show TO _ _ _ _ _ _ _ _ _ _ [zej ((([]:List Nat):List Nat).map zdW),cells b1 [.pointer none] 23,cells b2 [zI 0,zI 0] 35]
 refine zyN ?_
 refine zp3 (β:=Unit) (l:=0) (fun _=>False) (fun _=>[]) (fun _=>[]) rfl ?_ ?_
 ·
  refine zaM (zyG (zyR 1 rfl (zcU rfl dc rfl underlying9 (zaW rfl zeR (zyN ?_)))))
  refine zyB rfl h (fun h => ?_) (fun h => ?_)
  ·
   refine zyG ?_
   refine zck (v:=.agg #[zI 3,zI 65536]) (ps:=[(0,.const (zI 3)),(1,.const (zI 65536))]) rfl dc rfl (fun _=>by kernel_rfl) ?_
   refine zaP (k:=1) (l':=[.pointer none]) ztn rfl rfl rfl rfl rfl (fun _ _=>rfl) rfl ?_
   refine za6 (k:=2) (vs:=[zI 3,zI 65536]) (l':=[zI 3,zI 65536]) zh7 rfl rfl rfl rfl rfl (show _≤_ by simp) rfl rfl ?_
   show TO _ _ _ _ _ _ _ _ _ _ [zej ((([]:List Nat):List Nat).map zdW),cells b1 [.pointer none] 23,cells b2 [zI 3,zI 65536] 35]
   refine zyN (zaD (zai (zjz (by simp) (zoc zaZ zaY 79 ?_))))
   show TX _ _ _ _ _ _ _ [zej ((([]:List Nat):List Nat).map zdW),cells b1 [.pointer none] 23,cells b2 [zI 3,zI 65536] 35,zkZ zaZ zaY 79 (.pointer none) none]
   cases h
   exact zdj (rs:=[.cell 2 23,.cell 3 35]) ([]:List Nat) (.pointer none) (.inl rfl) (zbf (k:=0) rfl) results14 (.cons (.cell zix (k:=1) rfl rfl) (.cons (.cells zi1 (k:=2) rfl rfl rfl) .nil)) rfl (zaa [3] kr rfl)
  refine zaq (zaG ?_)
  obtain ⟨j1,hj1,h⟩:=zbT h
  refine za2 (β:=(List zBA)×(List (zBA×Int))×(List (zBA×List zBA))×(List (zBA×Bool))×(List zBA)×Nat×Nat×Hd×Nat×Nat×Nat×Hd×(List Nat)) 3 rfl (fun b=>j1 b.1 b.2.1 b.2.2.1 b.2.2.2.1 b.2.2.2.2.1=some r) (fun b=>zdp b.2.2.2.2.2.2.2.2.2.2.2.2) (fun b=>[(2,zP b1),(3,zP b2),(4,zP b.2.2.2.2.2.1)]) (fun b=>[cells b1 [.pointer none] 23,cells b2 [zI 0,zI 0] 35,cells b.2.2.2.2.2.1 [zP b.2.2.2.2.2.2.1] 23,cells b.2.2.2.2.2.2.1 [b.2.2.2.2.2.2.2.1.v,.map (some b.2.2.2.2.2.2.2.2.1),.map (some b.2.2.2.2.2.2.2.2.2.1),.map (some b.2.2.2.2.2.2.2.2.2.2.1),b.2.2.2.2.2.2.2.2.2.2.2.1.v] 79,zv0 b.2.2.2.2.2.2.2.1.v b.1,za5 (fun n:zBA=>Value.string n) (fun n:Int=>Value.int .i64 n) b.2.2.2.2.2.2.2.2.1 b.2.1,zbe b.2.2.2.2.2.2.2.2.2.1 b.2.2.1,za5 (fun n:zBA=>Value.string n) (fun n:Bool=>Value.bool n) b.2.2.2.2.2.2.2.2.2.2.1 b.2.2.2.1,zv0 b.2.2.2.2.2.2.2.2.2.2.2.1.v b.2.2.2.2.1,zej ((b.2.2.2.2.2.2.2.2.2.2.2.2:List Nat).map zdW)]) (fun cut => ?_) ?_
  ·
   refine zyG ?_
   obtain ⟨r1,hq1,h⟩:=zbx h
   refine zb3 (vs:=[]) rfl dc rfl rfl rfl zy5 (zkt hq1) Splits.nil ?_
   rintro ⟨b8,hd3,hd4,hd5,hd6,hd7⟩
   show TO _ _ _ _ _ _ _ _ _ _ [zej ((([]:List Nat):List Nat).map zdW),cells b1 [.pointer none] 23,cells b2 [zI 0,zI 0] 35,cells b8 [hd3.v,.map (some (zaw hd4)),.map (some (zaw hd5)),.map (some (zaw hd6)),hd7.v] 79,zv0 hd3.v r1.units,za5 (fun n:zBA=>Value.string n) (fun n:Int=>Value.int .i64 n) (zaw hd4) r1.place,zbe (zaw hd5) r1.fors,za5 (fun n:zBA=>Value.string n) (fun n:Bool=>Value.bool n) (zaw hd6) r1.skips,zv0 hd7.v r1.lines]
   refine za4 zwE rfl dc (fun b9 => ?_)
   refine zaP (k:=9) (l':=[zP b8]) ztn rfl rfl rfl rfl rfl (fun _ _=>rfl) rfl ?_
   show TO _ _ _ _ _ _ _ _ _ _ [zej ((([]:List Nat):List Nat).map zdW),cells b1 [.pointer none] 23,cells b2 [zI 0,zI 0] 35,cells b8 [hd3.v,.map (some (zaw hd4)),.map (some (zaw hd5)),.map (some (zaw hd6)),hd7.v] 79,zv0 hd3.v r1.units,za5 (fun n:zBA=>Value.string n) (fun n:Int=>Value.int .i64 n) (zaw hd4) r1.place,zbe (zaw hd5) r1.fors,za5 (fun n:zBA=>Value.string n) (fun n:Bool=>Value.bool n) (zaw hd6) r1.skips,zv0 hd7.v r1.lines,cells b9 [zP b8] 23]
   refine zyH ?_
   refine za4 zwD rfl dc (fun b10 => ?_)
   refine zaP (k:=10) (l':=[zI 0]) zir rfl rfl rfl rfl rfl (fun _ _=>rfl) rfl ?_
   show TO _ _ _ _ _ _ _ _ _ _ [zej ((([]:List Nat):List Nat).map zdW),cells b1 [.pointer none] 23,cells b2 [zI 0,zI 0] 35,cells b8 [hd3.v,.map (some (zaw hd4)),.map (some (zaw hd5)),.map (some (zaw hd6)),hd7.v] 79,zv0 hd3.v r1.units,za5 (fun n:zBA=>Value.string n) (fun n:Int=>Value.int .i64 n) (zaw hd4) r1.place,zbe (zaw hd5) r1.fors,za5 (fun n:zBA=>Value.string n) (fun n:Bool=>Value.bool n) (zaw hd6) r1.skips,zv0 hd7.v r1.lines,cells b9 [zP b8] 23,cells b10 [zI 0] 3]
   refine zyN (zaM (zp5 (zaG (cut (zyG (zyR 1 rfl ?_))))))
   obtain ⟨r2,hq2,h⟩:=zbx h
   refine zb3 (vs:=[.string text1,.string (⟨#[10]⟩:zBA)]) rfl dc rfl rfl rfl zy4 (zit hq2) Splits.nil ?_
   rintro ⟨b11,b12,b13⟩
   show TO _ _ _ _ _ _ _ _ _ _ [zej ((([]:List Nat):List Nat).map zdW),cells b1 [.pointer none] 23,cells b2 [zI 0,zI 0] 35,cells b8 [hd3.v,.map (some (zaw hd4)),.map (some (zaw hd5)),.map (some (zaw hd6)),hd7.v] 79,zv0 hd3.v r1.units,za5 (fun n:zBA=>Value.string n) (fun n:Int=>Value.int .i64 n) (zaw hd4) r1.place,zbe (zaw hd5) r1.fors,za5 (fun n:zBA=>Value.string n) (fun n:Bool=>Value.bool n) (zaw hd6) r1.skips,zv0 hd7.v r1.lines,cells b9 [zP b8] 23,cells b10 [zI 0] 3,cells b11 [.string r2.1] 9,cells b12 [.string r2.2.1] 9,cells b13 [zI r2.2.2] 3]
   refine zyN (zaA ?_)
   obtain ⟨its1,hq3,h⟩:=zbx h
   obtain ⟨ek1,hek1,h⟩:=zbT h
   obtain ⟨dn1,hdn1,h⟩:=zbT h
   refine zsY (α:=zBA) (β:=(List zBA)×(List (zBA×Int))×(List (zBA×List zBA))×(List (zBA×Bool))×(List zBA)×Int×Hd×Nat×Nat×Nat×Hd) (γ:=(Int×Int×(List zBA)×(List (zBA×Int))×(List (zBA×List zBA))×(List (zBA×Bool))×(List zBA)×Int×Hd×Nat×Nat×Nat×Hd)) (δ:=Unit) (ps:=[17]) Ro.nil rfl zyv (zhk hq3) (fun pre b=>∀ post,its1=pre++post→zb4 dn1 (zdz ek1) post b.1 b.2.1 b.2.2.1 b.2.2.2.1 b.2.2.2.2.1 b.2.2.2.2.2.1=some r) (fun pre b=>[cells b1 [.pointer none] 23,cells b2 [zI 0,zI 0] 35,cells b9 [zP b8] 23,cells b8 [b.2.2.2.2.2.2.1.v,.map (some b.2.2.2.2.2.2.2.1),.map (some b.2.2.2.2.2.2.2.2.1),.map (some b.2.2.2.2.2.2.2.2.2.1),b.2.2.2.2.2.2.2.2.2.2.v] 79,zv0 b.2.2.2.2.2.2.1.v b.1,za5 (fun n:zBA=>Value.string n) (fun n:Int=>Value.int .i64 n) b.2.2.2.2.2.2.2.1 b.2.1,zbe b.2.2.2.2.2.2.2.2.1 b.2.2.1,za5 (fun n:zBA=>Value.string n) (fun n:Bool=>Value.bool n) b.2.2.2.2.2.2.2.2.2.1 b.2.2.2.1,zv0 b.2.2.2.2.2.2.2.2.2.2.v b.2.2.2.2.1,cells b10 [zI b.2.2.2.2.2.1] 3]) (fun c pre g=>(fun g=>c=.ret∧ek1 g.1 g.2.1 g.2.2.1 g.2.2.2.1 g.2.2.2.2.1 g.2.2.2.2.2.1 g.2.2.2.2.2.2.1 g.2.2.2.2.2.2.2.1=some r) g) (fun c pre g=>(fun g=>[cells b1 [.pointer none] 23,cells b2 [zI g.1,zI g.2.1] 35,cells b9 [zP b8] 23,cells b8 [g.2.2.2.2.2.2.2.2.1.v,.map (some g.2.2.2.2.2.2.2.2.2.1),.map (some g.2.2.2.2.2.2.2.2.2.2.1),.map (some g.2.2.2.2.2.2.2.2.2.2.2.1),g.2.2.2.2.2.2.2.2.2.2.2.2.v] 79,zv0 g.2.2.2.2.2.2.2.2.1.v g.2.2.1,za5 (fun n:zBA=>Value.string n) (fun n:Int=>Value.int .i64 n) g.2.2.2.2.2.2.2.2.2.1 g.2.2.2.1,zbe g.2.2.2.2.2.2.2.2.2.2.1 g.2.2.2.2.1,za5 (fun n:zBA=>Value.string n) (fun n:Bool=>Value.bool n) g.2.2.2.2.2.2.2.2.2.2.2.1 g.2.2.2.2.2.1,zv0 g.2.2.2.2.2.2.2.2.2.2.2.2.v g.2.2.2.2.2.2.1,cells b10 [zI g.2.2.2.2.2.2.2.1] 3]) g) (fun pre x b j=>[(2,zP b1),(3,zP b2),(4,zP b9),(5,zP b10),(16,.func (.func 81) #[] #[zP b11,zP b12,zP b13]),(6,.string x)]) (fun pre x b j=>[cells b1 [.pointer none] 23,cells b2 [zI 0,zI 0] 35,cells b9 [zP b8] 23,cells b8 [b.2.2.2.2.2.2.1.v,.map (some b.2.2.2.2.2.2.2.1),.map (some b.2.2.2.2.2.2.2.2.1),.map (some b.2.2.2.2.2.2.2.2.2.1),b.2.2.2.2.2.2.2.2.2.2.v] 79,zv0 b.2.2.2.2.2.2.1.v b.1,za5 (fun n:zBA=>Value.string n) (fun n:Int=>Value.int .i64 n) b.2.2.2.2.2.2.2.1 b.2.1,zbe b.2.2.2.2.2.2.2.2.1 b.2.2.1,za5 (fun n:zBA=>Value.string n) (fun n:Bool=>Value.bool n) b.2.2.2.2.2.2.2.2.2.1 b.2.2.2.1,zv0 b.2.2.2.2.2.2.2.2.2.2.v b.2.2.2.2.1,cells b10 [zI b.2.2.2.2.2.1] 3]) (r1.units,r1.place,r1.fors,r1.skips,r1.lines,0,hd3,(zaw hd4),(zaw hd5),(zaw hd6),hd7) (fun post e=>by rw [List.nil_append] at e; subst e; exact h) (zaa [1,2,9,3,4,5,6,7,8,10] kr rfl) (zaa [11,12,13] kr rfl) (fun _=>rfl) dc ?_ ?_ ?_ ?_
   ·
    rintro lp rc pre x1 post ⟨o16,o17,o18,o19,o20,at3,hd12,b20,b21,b22,hd13⟩ w1 K1 hxs1 hext hro hinv
    refine zao (zyR 1 rfl (zaE ?_))
    exact fun a w ha hw=>⟨(),(za9 rfl) _ _ _ ha,hw.weaken (zaa [0,1,2,3,4,5,6,7,8,9] kr rfl)⟩
   ·
    rintro lp rc pre x1 post1 ⟨o16,o17,o18,o19,o20,at3,hd12,b20,b21,b22,hd13⟩ _ w1 K1 hxs1 hext hro hinv
    have h:=hinv (x1::post1) hxs1
    obtain ⟨ag1,hag1⟩:∃ ag,ag=zb4 dn1 (zdz ek1) post1:=⟨_,rfl⟩
    have h:zdz ek1 x1 ag1 o16 o17 o18 o19 o20 at3=some r:=by have h2:=h; rw [zbQ,← hag1] at h2; exact h2
    unfold zdz at h
    show TC _ _ _ _ _ _ _ _ [(2,zP b1),(3,zP b2),(4,zP b9),(5,zP b10),(16,.func (.func 81) #[] #[zP b11,zP b12,zP b13]),(6,.string x1)] [cells b1 [.pointer none] 23,cells b2 [zI 0,zI 0] 35,cells b9 [zP b8] 23,cells b8 [hd12.v,.map (some b20),.map (some b21),.map (some b22),hd13.v] 79,zv0 hd12.v o16,za5 (fun n:zBA=>Value.string n) (fun n:Int=>Value.int .i64 n) b20 o17,zbe b21 o18,za5 (fun n:zBA=>Value.string n) (fun n:Bool=>Value.bool n) b22 o19,zv0 hd13.v o20,cells b10 [zI at3] 3]
    refine zaA (zyG (zan (k:=9) zd8 rfl dc rfl rfl rfl (zyR 1 rfl (zyH (zan (k:=9) zd8 rfl dc rfl rfl rfl (zyR 1 rfl (zcU rfl dc rfl underlying9 ?_)))))))
    obtain ⟨hg1,h⟩:=zcg h
    refine zaW rfl (zbi (r:=(x1.size:Int)+1) (IntWalk.i64_in _ hg1)) ?_
    obtain ⟨hg2,h⟩:=zcg h
    refine zaW rfl (zbi (r:=at3+((x1.size:Int)+1)) (IntWalk.i64_in _ hg2)) ?_
    refine zaP (k:=9) (l':=[zI (at3+((x1.size:Int)+1))]) zir rfl rfl rfl rfl rfl (fun _ _=>rfl) rfl ?_
    refine zyH (zyR 2 rfl ?_)
    obtain ⟨r3,hq4,h⟩:=zbx h
    refine zb3 (vs:=[.string x1,zI at3]) rfl dc rfl rfl rfl zy3 (zko hq4) Splits.nil ?_
    rintro v1
    show TO _ _ _ _ _ _ _ _ _ _ [cells b1 [.pointer none] 23,cells b2 [zI 0,zI 0] 35,cells b9 [zP b8] 23,cells b8 [hd12.v,.map (some b20),.map (some b21),.map (some b22),hd13.v] 79,zv0 hd12.v o16,za5 (fun n:zBA=>Value.string n) (fun n:Int=>Value.int .i64 n) b20 o17,zbe b21 o18,za5 (fun n:zBA=>Value.string n) (fun n:Bool=>Value.bool n) b22 o19,zv0 hd13.v o20,cells b10 [zI (at3+((x1.size:Int)+1))] 3,zv4 v1 r3]
    refine zcr (k:=10) rfl (fun hd16 he1 => ?_)
    subst he1
    refine zyR 1 rfl (zyN (zaM (zyG (zyR 1 rfl (zdB (k:=10) rfl dc rfl rfl underlying86 (zaW rfl zbn (zyN ?_)))))))
    refine zyB rfl h (fun h => ?_) (fun h => ?_)
    ·
     refine zbG (zap (zaI ?_))
     exact zcC (o16,o17,o18,o19,o20,at3+((x1.size:Int)+1),hd12,b20,b21,b22,hd13) (fun post2 e2=>by have e9:=zb7 hxs1 e2; subst e9; subst hag1; exact h) (zaa [0,1,2,3,4,5,6,7,8,9] kr rfl)
    refine zaq (zaG (zyG (zan (k:=2) zix rfl dc rfl rfl rfl (zyR 3 rfl (zcU rfl dc rfl underlying9 ?_)))))
    obtain ⟨hg3,h⟩:=zcg h
    refine zaW rfl (zbi (r:=at3+(x1.size:Int)) (IntWalk.i64_in _ hg3)) ?_
    refine zes (k:=10) rfl (fun hw1 => ?_)
    obtain ⟨r4,hq5,h⟩:=zbx h
    refine zh4 (vs:=[zP b8,hd16.v,zI (at3+(x1.size:Int))]) (Rd.nil:Rd _ _ []) rfl dc rfl rfl rfl zy2 (zhJ (bo1:=b8) (o1:=(⟨o16,o17,o18,o19,o20⟩:zab)) (o1_h0:=hd12) (o1_h1:=(⟨some ⟨b20,0,none⟩,0,0⟩:Hd)) (o1_h2:=(⟨some ⟨b21,0,none⟩,0,0⟩:Hd)) (o1_h3:=(⟨some ⟨b22,0,none⟩,0,0⟩:Hd)) (o1_h4:=hd13) hw1 hq5) (zaa [3,4,5,6,7,8] kr rfl) (.own (As:=[zv4 hd16.v r3]) (zaa [10] kr rfl) (fun _ _ h=>zek zdJ (sepL.one1.1 h)) .nil) ?_
    rintro ⟨hd17,hd18,hd19,hd20,hd21⟩
    refine zcI (L':=[cells b1 [.pointer none] 23,cells b2 [zI 0,zI 0] 35,cells b9 [zP b8] 23,cells b8 [hd17.v,.map (some (zaw hd18)),.map (some (zaw hd19)),.map (some (zaw hd20)),hd21.v] 79,zv0 hd17.v r4.2.units,za5 (fun n:zBA=>Value.string n) (fun n:Int=>Value.int .i64 n) (zaw hd18) r4.2.place,zbe (zaw hd19) r4.2.fors,za5 (fun n:zBA=>Value.string n) (fun n:Bool=>Value.bool n) (zaw hd20) r4.2.skips,zv0 hd21.v r4.2.lines,cells b10 [zI (at3+((x1.size:Int)+1))] 3,zv4 hd16.v r3]) (zaa [0,1,2,11,12,13,14,15,16,9,10] kr rfl) ?_
    refine za4 zom rfl dc (fun b26 => ?_)
    refine za6 (k:=11) (vs:=(zr2 r4.1)) (l':=(zr2 r4.1)) zh7 rfl rfl rfl rfl rfl (show _≤_ by simp) rfl rfl ?_
    show TO _ _ _ _ _ _ _ _ _ _ [cells b1 [.pointer none] 23,cells b2 [zI 0,zI 0] 35,cells b9 [zP b8] 23,cells b8 [hd17.v,.map (some (zaw hd18)),.map (some (zaw hd19)),.map (some (zaw hd20)),hd21.v] 79,zv0 hd17.v r4.2.units,za5 (fun n:zBA=>Value.string n) (fun n:Int=>Value.int .i64 n) (zaw hd18) r4.2.place,zbe (zaw hd19) r4.2.fors,za5 (fun n:zBA=>Value.string n) (fun n:Bool=>Value.bool n) (zaw hd20) r4.2.skips,zv0 hd21.v r4.2.lines,cells b10 [zI (at3+((x1.size:Int)+1))] 3,zv4 hd16.v r3,cells b26 (zr2 r4.1) 35]
    refine zyH (zag zsl rfl dc rfl (show _=0 from rfl) (zan (k:=11) zwX rfl dc rfl rfl rfl (zaW rfl zfr (zyN ?_))))
    refine zyB rfl h (fun h => ?_) (fun h => ?_)
    ·
     refine zaM ?_
     refine zdh 2 [(0,40,.agg (zr2 r4.1).toArray)] mixed kr kr dc (by rfl) kr kr (zad ?_ (zad ?_ DrawPre.nil)) ?_
     · exact fun D n d c u i=>zbW (k:=11) (cs:=(zr2 r4.1)) zi1 rfl dc (za8 (by rfl) rfl) rfl rfl rfl (zaK 0 u i)
     · exact fun D n d c u i=>zaP (k:=0) (l':=[.pointer none]) ztn rfl (za8 (by rfl) rfl) rfl rfl rfl (fun _ _=>rfl) rfl (zsR (by rfl))
     refine za6 (k:=1) (vs:=(zr2 r4.1)) (l':=(zr2 r4.1)) zh7 rfl rfl rfl rfl rfl (show _≤_ by simp) rfl rfl (zyN (zaD (zal ?_)))
     exact zb2 (r4.1.Err,r4.1.At,r4.2.units,r4.2.place,r4.2.fors,r4.2.skips,r4.2.lines,at3+((x1.size:Int)+1),hd17,(zaw hd18),(zaw hd19),(zaw hd20),hd21) (show _∧_ from ⟨rfl,h⟩) (zaa [0,1,2,3,4,5,6,7,8,9] kr rfl)
    refine zaq (zae ?_)
    exact zcC (r4.2.units,r4.2.place,r4.2.fors,r4.2.skips,r4.2.lines,at3+((x1.size:Int)+1),hd17,(zaw hd18),(zaw hd19),(zaw hd20),hd21) (fun post2 e2=>by have e9:=zb7 hxs1 e2; subst e9; subst hag1; exact h) (zaa [0,1,2,3,4,5,6,7,8,9] kr rfl)
   ·
    rintro dm1 ⟨o16,o17,o18,o19,o20,at3,hd12,b20,b21,b22,hd13⟩ hinv
    have h:dn1 o16 o17 o18 o19 o20 at3=some r:=hinv [] (List.append_nil _).symm
    rw [hdn1] at h
    show TX _ _ _ _ _ _ _ [zej ((([]:List Nat):List Nat).map zdW),emp,emp,emp,emp,emp,emp,emp,emp,emp,emp,emp,emp,emp,cells b1 [.pointer none] 23,cells b2 [zI 0,zI 0] 35,cells b9 [zP b8] 23,cells b8 [hd12.v,.map (some b20),.map (some b21),.map (some b22),hd13.v] 79,zv0 hd12.v o16,za5 (fun n:zBA=>Value.string n) (fun n:Int=>Value.int .i64 n) b20 o17,zbe b21 o18,za5 (fun n:zBA=>Value.string n) (fun n:Bool=>Value.bool n) b22 o19,zv0 hd13.v o20,cells b10 [zI at3] 3,zdW dm1]
    refine zdU (k:=24) (j:=0) rfl rfl dc ?_
    show TX _ _ _ _ _ _ _ [zej ((dm1::([]:List Nat):List Nat).map zdW),emp,emp,emp,emp,emp,emp,emp,emp,emp,emp,emp,emp,emp,cells b1 [.pointer none] 23,cells b2 [zI 0,zI 0] 35,cells b9 [zP b8] 23,cells b8 [hd12.v,.map (some b20),.map (some b21),.map (some b22),hd13.v] 79,zv0 hd12.v o16,za5 (fun n:zBA=>Value.string n) (fun n:Int=>Value.int .i64 n) b20 o17,zbe b21 o18,za5 (fun n:zBA=>Value.string n) (fun n:Bool=>Value.bool n) b22 o19,zv0 hd13.v o20,cells b10 [zI at3] 3,emp]
    refine zae ?_
    exact zaj (o16,o17,o18,o19,o20,b9,b8,hd12,b20,b21,b22,hd13,dm1::([]:List Nat)) h rfl (za9 rfl) (zaa [14,15,16,17,18,19,20,21,22,0] kr rfl)
   rintro dm1 c pre x1 post g hxs hX
   obtain ⟨rfl,h⟩:=(show _∧_ from hX)
   obtain ⟨x2,x3,o21,o22,o23,o24,o25,at4,hd14,b23,b24,b25,hd15⟩:=g
   rw [hek1] at h
   show TC _ _ _ _ _ _ _ _ _ [zej ((([]:List Nat):List Nat).map zdW),emp,emp,emp,emp,emp,emp,emp,emp,emp,emp,emp,emp,emp,cells b1 [.pointer none] 23,cells b2 [zI x2,zI x3] 35,cells b9 [zP b8] 23,cells b8 [hd14.v,.map (some b23),.map (some b24),.map (some b25),hd15.v] 79,zv0 hd14.v o21,za5 (fun n:zBA=>Value.string n) (fun n:Int=>Value.int .i64 n) b23 o22,zbe b24 o23,za5 (fun n:zBA=>Value.string n) (fun n:Bool=>Value.bool n) b25 o24,zv0 hd15.v o25,cells b10 [zI at4] 3,zdW dm1]
   refine ziO (k:=24) (j:=0) rfl rfl dc ?_
   show TC _ _ _ _ _ _ _ _ _ [zej ((dm1::([]:List Nat):List Nat).map zdW),emp,emp,emp,emp,emp,emp,emp,emp,emp,emp,emp,emp,emp,cells b1 [.pointer none] 23,cells b2 [zI x2,zI x3] 35,cells b9 [zP b8] 23,cells b8 [hd14.v,.map (some b23),.map (some b24),.map (some b25),hd15.v] 79,zv0 hd14.v o21,za5 (fun n:zBA=>Value.string n) (fun n:Int=>Value.int .i64 n) b23 o22,zbe b24 o23,za5 (fun n:zBA=>Value.string n) (fun n:Bool=>Value.bool n) b25 o24,zv0 hd15.v o25,cells b10 [zI at4] 3,emp]
   refine zaD (zal (zai (zjz (by simp) (zoc zaZ zaY 79 ?_))))
   show TX _ _ _ _ _ _ _ [zej ((dm1::([]:List Nat):List Nat).map zdW),emp,emp,emp,emp,emp,emp,emp,emp,emp,emp,emp,emp,emp,cells b1 [.pointer none] 23,cells b2 [zI x2,zI x3] 35,cells b9 [zP b8] 23,cells b8 [hd14.v,.map (some b23),.map (some b24),.map (some b25),hd15.v] 79,zv0 hd14.v o21,za5 (fun n:zBA=>Value.string n) (fun n:Int=>Value.int .i64 n) b23 o22,zbe b24 o23,za5 (fun n:zBA=>Value.string n) (fun n:Bool=>Value.bool n) b25 o24,zv0 hd15.v o25,cells b10 [zI at4] 3,emp,zkZ zaZ zaY 79 (.pointer none) none]
   cases h
   exact zdj (rs:=[.cell 2 23,.cell 3 35]) (dm1::([]:List Nat)) (.pointer none) (.inl rfl) (zbf (k:=0) rfl) results14 (.cons (.cell zix (k:=14) rfl rfl) (.cons (.cells zi1 (k:=15) rfl rfl rfl) .nil)) rfl (zaa [25] kr rfl)
  rintro ⟨o1,o2,o3,o4,o5,b3,b4,hd1,b5,b6,b7,hd2,ds1⟩ h
  rw [hj1] at h
  show TC _ _ _ _ _ (zdp ds1) _ _ [(2,zP b1),(3,zP b2),(4,zP b3)] [cells b1 [.pointer none] 23,cells b2 [zI 0,zI 0] 35,cells b3 [zP b4] 23,cells b4 [hd1.v,.map (some b5),.map (some b6),.map (some b7),hd2.v] 79,zv0 hd1.v o1,za5 (fun n:zBA=>Value.string n) (fun n:Int=>Value.int .i64 n) b5 o2,zbe b6 o3,za5 (fun n:zBA=>Value.string n) (fun n:Bool=>Value.bool n) b7 o4,zv0 hd2.v o5,zej ((ds1:List Nat).map zdW)]
  refine zyG (zan (k:=2) zix rfl dc rfl rfl rfl ?_)
  refine zck (v:=.agg #[zI 0,zI 0]) (ps:=[]) rfl dc rfl (fun _=>by kernel_rfl) ?_
  refine zaP (k:=0) (l':=[zP b4]) ztn rfl rfl rfl rfl rfl (fun _ _=>rfl) rfl ?_
  refine za6 (k:=1) (vs:=[zI 0,zI 0]) (l':=[zI 0,zI 0]) zh7 rfl rfl rfl rfl rfl (show _≤_ by simp) rfl rfl ?_
  show TO _ _ _ _ _ _ _ _ _ _ [cells b1 [zP b4] 23,cells b2 [zI 0,zI 0] 35,cells b3 [zP b4] 23,cells b4 [hd1.v,.map (some b5),.map (some b6),.map (some b7),hd2.v] 79,zv0 hd1.v o1,za5 (fun n:zBA=>Value.string n) (fun n:Int=>Value.int .i64 n) b5 o2,zbe b6 o3,za5 (fun n:zBA=>Value.string n) (fun n:Bool=>Value.bool n) b7 o4,zv0 hd2.v o5,zej ((ds1:List Nat).map zdW)]
  refine zyN (zaD (zjz (by simp) ?_))
  refine zv9 (As:=[cells b4 [hd1.v,.map (some b5),.map (some b6),.map (some b7),hd2.v] 79,zv0 hd1.v o1,za5 (fun n:zBA=>Value.string n) (fun n:Int=>Value.int .i64 n) b5 o2,zbe b6 o3,za5 (fun n:zBA=>Value.string n) (fun n:Bool=>Value.bool n) b7 o4,zv0 hd2.v o5]) (zaa [3,4,5,6,7,8] kr rfl) (zq8 (enc:=zaZ) (nest:=zaY) (t:=79) (x:=(⟨o1,o2,o3,o4,o5⟩:zab)) (b:=b4) (hd:=(hd1,(⟨some ⟨b5,0,none⟩,0,0⟩:Hd),(⟨some ⟨b6,0,none⟩,0,0⟩:Hd),(⟨some ⟨b7,0,none⟩,0,0⟩:Hd),hd2))) (fun _ _ => ?_)
  show TX _ _ _ _ _ _ _ [cells b1 [zP b4] 23,cells b2 [zI 0,zI 0] 35,cells b3 [zP b4] 23,emp,emp,emp,emp,emp,emp,zej ((ds1:List Nat).map zdW),zkZ zaZ zaY 79 (zP b4) (some (⟨o1,o2,o3,o4,o5⟩:zab))]
  cases h
  exact zdj (rs:=[.cell 2 23,.cell 3 35]) ds1 (zP b4) (.inl rfl) (zbf (k:=9) rfl) results14 (.cons (.cell zix (k:=0) rfl rfl) (.cons (.cells zi1 (k:=1) rfl rfl rfl) .nil)) rfl (zaa [10] kr rfl)
 exact fun b hb=>hb.elim
def zbV (o1:zab) (j1:zBA→Option zBA) (ag1:zBA→Int→Option zBA) (b6:zBA) (x3:Int):Option zBA := zat (decide ((x3:Int)<(o1.lines.length:Int))) ( zak (zd7 o1.lines x3) fun (q1:zBA) => grd (q1.size+(⟨#[10]⟩:zBA).size≤9223372036854775807) <| grd (b6.size+(q1++(⟨#[10]⟩:zBA)).size≤140737488355328) <| grd (I64 (x3+1)) <| ag1 (b6++(q1++(⟨#[10]⟩:zBA))) (x3+1)
) ( j1 b6
)
def zcP (o1:zab):Option zBA := zbF (fun (j1:zBA→Option zBA) => zaU (fun _ _=>none) (zbV o1 j1) zcG (⟨#[]⟩:zBA) 0
) (fun (b2:zBA) => some b2
)
theorem zfx {bo1:Nat} {o1:zab} {o1_h0 o1_h1 o1_h2 o1_h3 o1_h4:Hd} {r:zBA} (h:zcP o1=some r):FnR prog 13 [zP bo1] [cells bo1 [o1_h0.v,.map (some (zaw o1_h1)),.map (some (zaw o1_h2)),.map (some (zaw o1_h3)),o1_h4.v] 79,zv0 o1_h0.v o1.units,za5 (fun n:zBA=>Value.string n) (fun n:Int=>Value.int .i64 n) (zaw o1_h1) o1.place,zbe (zaw o1_h2) o1.fors,za5 (fun n:zBA=>Value.string n) (fun n:Bool=>Value.bool n) (zaw o1_h3) o1.skips,zv0 o1_h4.v o1.lines] [] (fun _:Unit=>(.string r)) (fun _=>[]):=by
 unfold zcP at h
 refine FnR.intro func13 rfl ntmps13 (by simp) ?_
 intro w0 K hrd
 refine zyG (zyR 1 rfl (zyN (zaM (zyG (zyR 1 rfl (zaW rfl (zfE underlying23) (zyN (za3 rfl (zaq ?_)))))))))
 refine zaG ?_
 obtain ⟨j1,hj1,h⟩:=zbT h
 refine za2 (β:=zBA×Nat) 1 rfl (fun b=>j1 b.1=some r) (fun b=>[]) (fun b=>[(3,zP b.2)]) (fun b=>[zsH b.2 b.1]) (fun cut => ?_) ?_
 ·
  refine zyG ?_
  refine za4 zwz rfl dc (fun b3 => ?_)
  refine zlq (k:=0) rfl zmk ?_
  refine zyN (cut (zyG (zyR 1 rfl (za1 rfl dc rfl (zag zjN rfl dc rfl (show _=4 from rfl) (zc2 (i:=0) hrd rfl zgY rfl dc rfl rfl (zcs (hrd.vw (i:=5) rfl) rfl dc rfl underlying38 (zyR 1 rfl (zyN (zaA ?_))))))))))
  refine zbS (β:=Nat×zBA×Int) (fun b=>zaU (fun _ _=>none) (zbV o1 j1) b.1 b.2.1 b.2.2=some r) (fun b=>[]) (fun b=>[(3,zP b3),(11,o1_h4.v),(12,zI (o1.lines.length:Int)),(13,zI b.2.2)]) (fun b=>[zsH b3 b.2.1]) (fun b=>b.1) (zcG,(⟨#[]⟩:zBA),0) (by exact h) rfl (za9 rfl) (zaa [0] kr rfl) ?_
  rintro ⟨n1,b6,x3⟩ h
  cases n1 with
  | zero=>exact zez h
  | succ n1 =>
   obtain ⟨ag1,hag1⟩:∃ ag,ag=zaU (fun _ _=>none) (zbV o1 j1) n1:=⟨_,rfl⟩
   have h:zbV o1 j1 ag1 b6 x3=some r:=by rw [hag1]; exact h
   unfold zbV at h
   refine zyG (zaW rfl zbE (zyN (zaM ?_)))
   refine zyB rfl h (fun h => ?_) (fun h => ?_)
   ·
    refine zaq (zaG (zaM (zaA (zyG ?_))))
    obtain ⟨q1,hq1,h⟩:=zbx h
    refine zbc (hrd.vw (i:=5) rfl) hq1 underlying38 ziS rfl dc rfl rfl rfl (zhL (n:=0+(x3:Int).toNat) (j:=0) (i:=5) (q:=q1) hrd rfl ze4 zcq rfl dc rfl (Vw.get (hrd.vw (i:=5) rfl) hq1) rfl dc rfl (zyR 1 rfl (zyN (zao (zyR 1 rfl ?_)))))
    obtain ⟨hg1,h⟩:=zcg h
    refine zaW rfl (zfq hg1) ?_
    obtain ⟨hg2,h⟩:=zcg h
    refine zb3 (vs:=[zP b3,.string (q1++(⟨#[10]⟩:zBA))]) rfl dc rfl rfl rfl zvA (zon b3 b6 (q1++(⟨#[10]⟩:zBA)) hg2) (zaa [0] kr rfl) ?_
    rintro u1
    refine zaE (zae (zaG (zao ?_)))
    obtain ⟨hg3,h⟩:=zcg h
    refine zaW rfl (zbi (r:=x3+1) (IntWalk.i64_in _ hg3)) (zyR 1 rfl (zaE ?_))
    subst hag1
    exact zbv (n1,b6++(q1++(⟨#[10]⟩:zBA)),x3+1) h (Nat.lt_succ_self _) rfl (za9 rfl) (zaa [1] kr rfl)
   refine zbG (zap (zap (zaI ?_)))
   exact zaj (b6,b3) h rfl (za9 rfl) (zaa [0] kr rfl)
 rintro ⟨b2,b1⟩ h
 rw [hj1] at h
 refine zyG (zb3 (vs:=[zP b1]) rfl dc rfl rfl rfl zxm (zsG b1 b2) (zaa [0] kr rfl) ?_)
 rintro _
 refine zyR 1 rfl (zyN (zaD ?_))
 cases h
 exact zba 2 results13
abbrev Wd:=zau
abbrev zh1:zBA:=⟨#[112,117,116]⟩
abbrev zmf:zBA:=⟨#[97,102,116,101,114]⟩
abbrev cAs:zBA:=⟨#[97,115]⟩
abbrev zll:zBA:=⟨#[115,107,105,112]⟩
abbrev zfv:zBA:=⟨#[]⟩
def w0:Wd:=⟨0,zfv⟩
def wAt (l:List Wd) (k:Nat):Int:=(l.getD k w0).at_
def ziY (l:List Wd) (e:Int) (least most:Nat):Int:=if l.length<least then e else if most<l.length then wAt l most else -1
def zgJ (l:List Wd) (e:Int):Int :=
 if (l.getD 0 w0).text=zh1 then (if 2<l.length∧(l.getD 2 w0).text≠zmf then wAt l 2 else ziY l e 4 4)
 else if (l.getD 0 w0).text=cAs then ziY l e 3 6
 else if (l.getD 0 w0).text=zll then ziY l e 2 2
 else wAt l 0
theorem zg0 {α:Type} {l:List α} {k:Nat} {d:α} (h:k<l.length):l[k]?=some (l.getD k d):=by
 rw [List.getD_eq_getElem?_getD,List.getElem?_eq_getElem h]; rfl
theorem zhe {α:Type} {l:List α} {k:Nat} (d:α) (h:k<l.length):zd7 l (k:Int)=some (l.getD k d):=zdq (zg0 h)
theorem zvo (l:List Wd) (e:Int) (h0:0<l.length):zeE l e=some (zgJ l e):=by
 have hsh:∀ (least most:Nat),(zat (decide (((l.length:Int):Int)<(least:Int))) (some e) (zat (decide (((most:Int):Int)<(l.length:Int))) (zak (zd7 l (most:Int)) fun (q5:Wd)=>some q5.at_) (some (-1))))=some (ziY l e least most):=by
  intro least most
  unfold ziY
  by_cases h1:l.length<least
  ·rw [if_pos h1]; exact zaL (decide_eq_true (by omega)) rfl
  ·rw [if_neg h1]
   refine zaF (decide_eq_false (by omega)) ?_
   by_cases h2:most<l.length
   ·rw [if_pos h2]; exact zaL (decide_eq_true (by omega)) (zaR (zhe w0 h2) rfl)
   ·rw [if_neg h2]; exact zaF (decide_eq_false (by omega)) rfl
 unfold zeE zgJ
 refine zb8 (zaR (zhe (k:=0) w0 h0) ?_)
 by_cases h1:(l.getD 0 w0).text=zh1
 ·rw [if_pos h1]
  refine zaL (decide_eq_true h1) (zb8 ?_)
  by_cases h2:2<l.length
  ·refine zaL (decide_eq_true (by omega)) (zaR (zhe (k:=2) w0 h2) ?_)
   by_cases h3:(l.getD 2 w0).text=zmf
   ·rw [if_neg (fun h=>h.2 h3)]
    exact zaF (by rw [decide_eq_true h3]; rfl) (hsh 4 4)
   ·rw [if_pos ⟨h2,h3⟩]
    exact zaL (by rw [decide_eq_false h3]; rfl) (zaR (zhe (k:=2) w0 h2) rfl)
  ·rw [if_neg (fun h=>h2 h.1)]
   exact zaF (decide_eq_false (by omega)) (hsh 4 4)
 ·rw [if_neg h1]
  refine zaF (decide_eq_false h1) ?_
  by_cases h2:(l.getD 0 w0).text=cAs
  ·rw [if_pos h2]; exact zaL (decide_eq_true h2) (hsh 3 6)
  ·rw [if_neg h2]
   refine zaF (decide_eq_false h2) ?_
   by_cases h3:(l.getD 0 w0).text=zll
   ·rw [if_pos h3]; exact zaL (decide_eq_true h3) (hsh 2 2)
   ·rw [if_neg h3]; exact zaF (decide_eq_false h3) (zaR (zhe (k:=0) w0 h0) rfl)
abbrev zrD:zBA:=⟨#[32,97,102,116,101,114]⟩
abbrev zum:zBA:=⟨#[32]⟩
def fmS (put:Bool):Nat→List Wd→Int ⊕ (List zBA×zBA)
 | _,[]=>.inr ([],zfv)
 | i,w::ws =>
  if i=0∨(put=true∧i=2) then (match fmS put (i+1) ws with | .inl a=>.inl a | .inr (f,s)=>.inr (zfv::f,(if i=0 then zfv else zrD)++s))
  else if zdG w.text=zfv then .inl w.at_
  else match fmS put (i+1) ws with | .inl a=>.inl a | .inr (f,s)=>.inr (zdG w.text::f,(zum++zie (zdG w.text))++s)
theorem zmE:∀ (l:List Tk) (k:Nat),k≤8→okR k l=true→k+l.length≤8
 | [],k,hk,_=>hk
 | x::l,k,hk,h=>by
  rw [okR,Bool.and_eq_true,Bool.and_eq_true] at h
  have h8:=of_decide_eq_true h.1.1
  have:=zmE l (k+1) h8 h.2
  rw [List.length_cons]; omega
theorem ztj (s:zBA):∀ y∈zif s,y.2.size≤4:=by
 intro y hy
 obtain ⟨x,hx,rfl⟩:=List.mem_map.1 hy
 have:=zgW (ze3 _ x hx)
 show (⟨x.bs.toArray⟩:zBA).size≤4
 rw [zbY]
 simpa using this
theorem zjH (s:zBA):(zdG s).size≤32:=by
 unfold zdG
 by_cases h:okR 0 (zif s)=true
 ·rw [if_pos h]
  have h1:=zmE _ 0 (by omega) h
  have h2:(zeU s).size≤4*((zif s).map zde).length:=zjw fun y hy=>by
   obtain ⟨x,hx,rfl⟩:=List.mem_map.1 hy
   exact zl6 (ztj s x hx)
  rw [List.length_map] at h2
  omega
 ·rw [if_neg h]; show 0≤32; omega
theorem zu4 {α:Type} (D:List α) (x y:α) (R:List α):(D++x::R).set ((D.length:Int)).toNat y=D++y::R:=by
 rw [Int.toNat_natCast,List.set_append_right _ _ (Nat.le_refl _),Nat.sub_self]; rfl
theorem zqP (o:zab) (l:List Wd) (q2:Wd) (J:zBA→zBA→List zBA→Option (zaJ×zab)) (hl:l.length≤2147483648) (hw:∀ w∈l,w.text.size≤65536) :
  ∀ (n:Nat) (B A:List Wd) (D:List zBA) (said:zBA),l=A++B→D.length=A.length→B.length<n→said.size≤65536+1000*A.length →
   zaU (fun _ _ _=>none) (zca o l J q2) n said (D++List.replicate B.length zfv) (A.length:Int) =
    match fmS (decide (q2.text=zh1)) A.length B with
    | .inl a=>some ((⟨221,a⟩:zaJ),o)
    | .inr (f,s)=>J q2.text (said++s) (D++f):=by
 intro n
 induction n with
 | zero=>intro B A D said _ _ h; omega
 | succ n ih =>
  intro B A D said hA hD hn hs
  rw [zfO]
  generalize hag:zaU (fun _ _ _=>none) (zca o l J q2) n=ag
  unfold zca
  cases B with
  | nil =>
   refine zaF (decide_eq_false (by rw [hA]; simp)) ?_
   show J q2.text said (D++[])=J q2.text (said++zfv) (D++[])
   rw [show zfv=ByteArray.empty from rfl,ByteArray.append_empty]
  | cons w B =>
   have hAl:A.length≤2147483648:=by rw [hA,List.length_append] at hl; omega
   have hget:l[A.length]?=some w:=by rw [hA]; simp
   have hA':l=(A++[w])++B:=by rw [hA,List.append_assoc]; rfl
   have hlen':(A++[w]).length=A.length+1:=by simp
   have nx:=fun (x said':zBA) (hs':said'.size≤65536+1000*(A.length+1))=>ih B (A++[w]) (D++[x]) said' hA' (by rw [List.length_append,hlen',hD]; rfl) (by rw [List.length_cons] at hn; omega) (by rw [hlen']; exact hs')
   rw [hag,hlen'] at nx
   have h64:I64 ((A.length:Int)+1):=⟨by omega,by omega⟩
   have hrep:List.replicate (w::B).length zfv=zfv::List.replicate B.length zfv:=rfl
   have hDx:∀ (x:zBA) (R:List zBA),(D++[x])++R=D++x::R:=fun x R=>by rw [List.append_assoc]; rfl
   have skipW:∀ (z:zBA),z.size≤6→(A.length=0∨(decide (q2.text=zh1)=true∧A.length=2))→z=(if A.length=0 then zfv else zrD) →
     (grd (I64 ((A.length:Int)+1))<|ag (said++z) (D++zfv::List.replicate B.length zfv) ((A.length:Int)+1))=match fmS (decide (q2.text=zh1)) A.length (w::B) with | .inl a=>some ((⟨221,a⟩:zaJ),o) | .inr (f,s)=>J q2.text (said++s) (D++f):=by
    intro z hz hc hze
    refine zct h64 ?_
    have:=nx zfv (said++z) (by rw [ByteArray.size_append]; omega)
    rw [hDx] at this
    push_cast at this
    rw [this,fmS,if_pos hc]
    cases fmS (decide (q2.text=zh1)) (A.length+1) B with
    | inl a=>rfl
    | inr fs =>
     obtain ⟨f,s⟩:=fs
     show J q2.text ((said++z)++s) ((D++[zfv])++f)=J q2.text (said++(_++s)) (D++zfv::f)
     rw [hDx,ByteArray.append_assoc,hze]
   have spellW:¬ (A.length=0∨(decide (q2.text=zh1)=true∧A.length=2)) →
     (zak (zd0 w.text) fun (r2:zBA)=>zak (zd7 (D++zfv::List.replicate B.length zfv) (A.length:Int)) fun (q4:zBA)=>zak (zd7 ((D++zfv::List.replicate B.length zfv).set ((A.length:Int):Int).toNat r2) (A.length:Int)) fun (q5:zBA) =>
      zat (decide (q5=(⟨#[]⟩:zBA))) (some ((⟨221,w.at_⟩:zaJ),o)) (
       zak (zd7 ((D++zfv::List.replicate B.length zfv).set ((A.length:Int):Int).toNat r2) (A.length:Int)) fun (q6:zBA)=>zak (zc8 q6) fun (r3:zBA) =>
        grd ((⟨#[32]⟩:zBA).size+r3.size≤9223372036854775807)<|grd (said.size+((⟨#[32]⟩:zBA)++r3).size≤9223372036854775807) <|
         grd (I64 ((A.length:Int)+1))<|ag (said++((⟨#[32]⟩:zBA)++r3)) ((D++zfv::List.replicate B.length zfv).set ((A.length:Int):Int).toNat r2) ((A.length:Int)+1)))=match fmS (decide (q2.text=zh1)) A.length (w::B) with | .inl a=>some ((⟨221,a⟩:zaJ),o) | .inr (f,s)=>J q2.text (said++s) (D++f):=by
    intro hc
    have hws:w.text.size≤65536:=hw w (by rw [hA]; simp)
    have h32:=zjH w.text
    have hset:=zu4 D zfv (zdG w.text) (List.replicate B.length zfv)
    rw [hD] at hset
    have hg:∀ (x:zBA) (R:List zBA),zd7 (D++x::R) (A.length:Int)=some x:=fun x R=>zdq (by rw [← hD]; simp)
    refine zaR (zu0 w.text hws) (zaR (hg _ _) ?_)
    rw [hset,fmS,if_neg hc]
    refine zaR (hg _ _) ?_
    by_cases he:zdG w.text=zfv
    ·rw [if_pos he]; exact zaL (decide_eq_true he) rfl
    ·rw [if_neg he]
     have ht:=(zhz (zdG w.text) (by omega)).2.2.2
     have hb1:(⟨#[32]⟩:zBA).size=1:=rfl
     refine zaF (decide_eq_false he) (zaR (hg _ _) (zaR (zuX _ (by omega)) (zct (by omega) (zct (by rw [ByteArray.size_append]; omega) (zct h64 ?_)))))
     have:=nx (zdG w.text) (said++(zum++zie (zdG w.text))) (by rw [ByteArray.size_append,ByteArray.size_append]; show _+(1+_)≤_; omega)
     rw [hDx] at this
     push_cast at this
     rw [this]
     cases fmS (decide (q2.text=zh1)) (A.length+1) B with
     | inl a=>rfl
     | inr fs =>
      obtain ⟨f,s⟩:=fs
      show J q2.text ((said++_)++s) ((D++[_])++f)=J q2.text (said++(_++s)) (D++_::f)
      rw [hDx,ByteArray.append_assoc]
   rw [hrep]
   refine zaL (decide_eq_true (by rw [hA]; simp; omega)) (zb8 (zb8 (zaR (zdq hget) ?_)))
   by_cases h0:A.length=0
   ·refine zaL (by rw [h0]; rfl) (zb8 (zaF (by rw [h0]; rfl) ?_))
    have:=skipW zfv (by show 0≤6; omega) (.inl h0) (by rw [if_pos h0])
    rw [show zfv=ByteArray.empty from rfl,ByteArray.append_empty] at this
    exact this
   ·refine zaF (beq_eq_false_iff_ne.2 (by omega)) ?_
    by_cases hp:q2.text=zh1
    ·refine zaL (decide_eq_true hp) ?_
     by_cases h2:A.length=2
     ·refine zaL (by rw [h2]; rfl) (zb8 (zaL (decide_eq_true (by omega)) (zct (by show said.size+6≤_; omega) ?_)))
      exact skipW zrD (by show 6≤6; omega) (.inr ⟨decide_eq_true hp,h2⟩) (by rw [if_neg h0])
     ·exact zaF (beq_eq_false_iff_ne.2 (by omega)) (spellW (fun h=>by rcases h with h | h; exact h0 h; exact h2 h.2))
    ·exact zaF (decide_eq_false hp) (spellW (fun h=>by rcases h with h | h; exact h0 h; exact hp (of_decide_eq_true h.1)))
section
variable {κ ν:Type} [DecidableEq κ]
theorem zji (k:κ) (v:ν) (q:κ):∀ L:List (κ×ν),zbK q (zgw k v L)=if q=k then some v else zbK q L
 | []=>rfl
 | p::L=>by
  have ih:=zji k v q L
  unfold zgw
  by_cases h:k=p.1
  ·rw [if_pos h]
   unfold zbK
   by_cases hq:q=k
   ·rw [if_pos hq,if_pos hq]
   ·rw [if_neg hq,if_neg hq,if_neg (by rw [← h]; exact hq)]
  ·rw [if_neg h]
   unfold zbK
   by_cases hq:q=p.1
   ·rw [if_pos hq,if_pos hq,if_neg (by rw [hq]; exact fun e=>h e.symm)]
   ·rw [if_neg hq,if_neg hq,ih]
end
def zmM:List zBA→zBA→Option Int
 | [],_=>none
 | x::l,u=>if u=x then some 0 else (zmM l u).map (· + 1)
theorem zje:∀ {l:List zBA} {u:zBA} {i:Int},zmM l u=some i→0≤i∧i<(l.length:Int)∧l[i.toNat]?=some u
 | [],u,i,h=>by cases h
 | x::l,u,i,h=>by
  rw [zmM] at h
  split at h
  ·rename_i e
   injection h with h
   subst h
   exact ⟨Int.le_refl _,by rw [List.length_cons]; push_cast; omega,by rw [e]; rfl⟩
  ·cases h1:zmM l u with
   | none=>rw [h1] at h; cases h
   | some j =>
    rw [h1] at h
    injection h with h
    subst h
    obtain ⟨a,b,c⟩:=zje h1
    show 0≤j+1∧_
    refine ⟨by omega,by rw [List.length_cons]; push_cast; omega,?_⟩
    rw [show (j+1).toNat=j.toNat+1 by omega,List.getElem?_cons_succ]
    exact c
theorem idxU_mem:∀ {l:List zBA} {u:zBA},(zmM l u).isSome=true↔u∈l
 | [],u=>by simp [zmM]
 | x::l,u=>by
  rw [zmM]
  by_cases h:u=x
  ·rw [if_pos h]; simp [h]
  ·rw [if_neg h,Option.isSome_map,idxU_mem]; simp [h]
def zrd:List zBA→Int→List (zBA×Int)→List (zBA×Int)
 | [],_,m=>m
 | u::us,i,m=>zrd us (i+1) (zgw u i m)
theorem zmF:∀ (us:List zBA) (i:Int) (m:List (zBA×Int)) (u:zBA),us.Nodup→zbK u (zrd us i m)=match zmM us u with | some k=>some (i+k) | none=>zbK u m
 | [],i,m,u,_=>rfl
 | x::us,i,m,u,h=>by
  rw [List.nodup_cons] at h
  rw [zrd,zmF us (i+1) _ u h.2,zmM,zji]
  by_cases hu:u=x
  ·subst hu
   have:zmM us u=none:=by
    cases hi:zmM us u with
    | none=>rfl
    | some j =>
     exact absurd (idxU_mem.1 (by rw [hi]; rfl)) h.1
   rw [this,if_pos rfl]
   simp
  ·rw [if_neg hu,if_neg hu]
   cases zmM us u with
   | none=>rfl
   | some j =>
    show some (i+1+j)=some (i+(j+1))
    congr 1; omega
theorem ztC (o:zab) (h:o.units.length≤1000000000):zcH o=some ⟨o.units,zrd o.units 0 o.place,o.fors,o.skips,o.lines⟩:=by
 unfold zcH
 have key:∀ (n k:Nat) (m:List (zBA×Int)),k≤o.units.length→o.units.length - k<n→zaU (fun _ _=>none) (zbO o) n m (k:Int)=some ⟨o.units,zrd (o.units.drop k) (k:Int) m,o.fors,o.skips,o.lines⟩:=by
  intro n
  induction n with
  | zero=>intro k m _ h; omega
  | succ n ih =>
   intro k m hk hn
   rw [zfO]
   generalize hag:zaU (fun _ _=>none) (zbO o) n=ag
   unfold zbO
   by_cases hlt:k<o.units.length
   ·refine zaL (decide_eq_true (by omega)) (zaR (zhe zfv hlt) (zct ⟨by omega,by omega⟩ ?_))
    have:=ih (k+1) (zgw (o.units.getD k zfv) (k:Int) m) (by omega) (by omega)
    rw [hag] at this
    push_cast at this
    rw [this,List.drop_eq_getElem_cons hlt,zrd]
    congr 3
    rw [List.getD_eq_getElem?_getD,List.getElem?_eq_getElem hlt]; rfl
   ·refine zaF (decide_eq_false (by omega)) ?_
    rw [List.drop_eq_nil_of_le (by omega)]; rfl
 have:=key zcG 0 o.place (Nat.zero_le _) (by unfold zcG; omega)
 rw [List.drop_zero] at this
 exact this
def ztG (o:zab) (u:zBA):Bool:=(zbK u o.place).isSome||(zbK u o.fors).isSome
theorem zzH (o:zab) (u:zBA):zdL o u=some (ztG o u):=by
 unfold zdL ztG
 cases (zbK u o.place).isSome with
 | true=>exact zaL rfl rfl
 | false=>exact zaF rfl (by rw [Bool.false_or])
def ziD (o:zab):Nat→List zBA→List Wd→Option Int
 | i,f::fs,w::ws=>if 1<i∧f≠zfv∧(zbK f o.place).isSome=false then some w.at_ else ziD o (i+1) fs ws
 | _,_,_=>none
def ziZ (l:List Wd) (s:zBA):zBA:=(l.getD 0 w0).text++s
def fD (fs:List zBA) (k:Nat):zBA:=fs.getD k zfv
def zxF (o:zab) (fs:List zBA) (sd:zBA):zab :=
 let us:=zia o.units ((zbK (fD fs 3) o.place).getD 0+1) (fD fs 1)
 ⟨us,zrd us 0 o.place,o.fors,o.skips,o.lines++[sd]⟩
def zf9 (o:zab) (l:List Wd) (e:Int):zaJ×zab :=
 if o.lines.length=256 then (⟨3,wAt l 0⟩,o)
 else if 0≤zgJ l e then (⟨220,zgJ l e⟩,o)
 else match fmS (decide ((l.getD 0 w0).text=zh1)) 0 l with
  | .inl a=>(⟨221,a⟩,o)
  | .inr (fs,s) =>
   if (l.getD 0 w0).text=zll then
    (if (zbK (zfQ (fD fs 1)) o.skips).getD false=true then (⟨222,wAt l 1⟩,o) else (⟨0,0⟩,⟨o.units,o.place,o.fors,zgw (zfQ (fD fs 1)) true o.skips,o.lines++[ziZ l s]⟩))
   else if ztG o (fD fs 1)=true then (⟨222,wAt l 1⟩,o)
   else match ziD o 0 fs l with
    | some a=>(⟨223,a⟩,o)
    | none=>(⟨0,0⟩,if (l.getD 0 w0).text=zh1 then zxF o fs (ziZ l s) else ⟨o.units,o.place,zgw (fD fs 1) (fs.drop 2) o.fors,o.skips,o.lines++[ziZ l s]⟩)
theorem zr3 (o:zab) (l:List Wd) (fs:List zBA) (J:Option (zaJ×zab)) (hl:fs.length=l.length) (hb:l.length≤2147483648):∀ (n:Nat) (A B:List zBA) (C D:List Wd),fs=A++B→l=C++D→A.length=C.length→B.length<n →
  zaU (fun _=>none) (zb9 o l fs J) n (A.length:Int)=match ziD o A.length B D with | some a=>some ((⟨223,a⟩:zaJ),o) | none=>J:=by
 intro n
 induction n with
 | zero=>intro A B C D _ _ _ h; omega
 | succ n ih =>
  intro A B C D hA hC hAC hn
  rw [zfO]
  generalize hag:zaU (fun _=>none) (zb9 o l fs J) n=ag
  unfold zb9
  have hBD:B.length=D.length:=by
   rw [hA,hC,List.length_append,List.length_append] at hl; omega
  cases B with
  | nil=>exact zaF (decide_eq_false (by rw [hA]; simp)) rfl
  | cons f B =>
   cases D with
   | nil=>cases hBD
   | cons w D =>
    have hAl:A.length≤2147483648:=by rw [hC,List.length_append] at hb; omega
    have hgf:fs[A.length]?=some f:=by rw [hA]; simp
    have hgw:l[A.length]?=some w:=by rw [hC,hAC]; simp
    have nx:=ih (A++[f]) B (C++[w]) D (by rw [hA,List.append_assoc]; rfl) (by rw [hC,List.append_assoc]; rfl) (by simp [hAC]) (by rw [List.length_cons] at hn; omega)
    rw [hag,show (A++[f]).length=A.length+1 by simp] at nx
    push_cast at nx
    have go:(grd (I64 ((A.length:Int)+1))<|ag ((A.length:Int)+1))=match ziD o (A.length+1) B D with | some a=>some ((⟨223,a⟩:zaJ),o) | none=>J:=zct ⟨by omega,by omega⟩ nx
    refine zaL (decide_eq_true (by rw [hA]; simp; omega)) (zb8 (zaR (zdq hgf) ?_))
    rw [ziD]
    by_cases h1:1<A.length
    ·refine zaL (decide_eq_true (by omega)) ?_
     by_cases h2:f=zfv
     ·rw [if_neg (fun h=>h.2.1 h2)]
      exact zaF (by rw [decide_eq_true h2]; rfl) go
     ·refine zaL (by rw [decide_eq_false h2]; rfl) ?_
      cases h3:(zbK f o.place).isSome with
      | true=>rw [if_neg (fun h=>by cases h.2.2)]; exact zaF rfl go
      | false=>rw [if_pos ⟨h1,h2,rfl⟩]; exact zaL rfl (zaR (zdq hgw) rfl)
    ·rw [if_neg (fun h=>h1 h.1)]
     exact zaF (decide_eq_false (by omega)) go
theorem zmS (put:Bool):∀ (l:List Wd) (i:Nat) (f:List zBA) (s:zBA),fmS put i l=.inr (f,s)→f.length=l.length
 | [],i,f,s,h=>by
  rw [fmS] at h
  injection h with h
  injection h with h1 h2
  rw [← h1]; rfl
 | w::l,i,f,s,h=>by
  rw [fmS] at h
  cases hr:fmS put (i+1) l with
  | inl a =>
   rw [hr] at h
   split at h
   ·cases h
   ·split at h <;> cases h
  | inr fs =>
   obtain ⟨f',s'⟩:=fs
   have ih:=zmS put l (i+1) f' s' hr
   rw [hr] at h
   split at h
   ·injection h with h
    injection h with h1 h2
    rw [← h1,List.length_cons,List.length_cons,ih]
   ·split at h
    ·cases h
    ·injection h with h
     injection h with h1 h2
     rw [← h1,List.length_cons,List.length_cons,ih]
theorem ziC {l:List Wd} {e:Int} (he:0≤e) (ha:∀ w∈l,0≤w.at_) (h0:0<l.length) (h:¬ 0≤zgJ l e) :
  ((l.getD 0 w0).text=zh1∧l.length=4∧(l.getD 2 w0).text=zmf)∨((l.getD 0 w0).text=cAs∧3≤l.length∧l.length≤6)∨((l.getD 0 w0).text=zll∧l.length=2):=by
 have hat:∀ k,k<l.length→0≤wAt l k:=fun k hk=>ha _ (List.mem_of_getElem? (zg0 hk))
 have hsh:∀ a b,¬ 0≤ziY l e a b→a≤l.length∧l.length≤b:=by
  intro a b hh
  unfold ziY at hh
  by_cases h1:l.length<a
  ·rw [if_pos h1] at hh; exact absurd he hh
  ·rw [if_neg h1] at hh
   by_cases h2:b<l.length
   ·rw [if_pos h2] at hh; exact absurd (hat b h2) hh
   ·omega
 unfold zgJ at h
 by_cases h1:(l.getD 0 w0).text=zh1
 ·rw [if_pos h1] at h
  by_cases h2:2<l.length∧(l.getD 2 w0).text≠zmf
  ·rw [if_pos h2] at h; exact absurd (hat 2 h2.1) h
  ·rw [if_neg h2] at h
   have:=hsh 4 4 h
   refine .inl ⟨h1,by omega,?_⟩
   exact Decidable.byContradiction fun hh=>h2 ⟨by omega,hh⟩
 ·rw [if_neg h1] at h
  by_cases h2:(l.getD 0 w0).text=cAs
  ·rw [if_pos h2] at h; exact .inr (.inl ⟨h2,hsh 3 6 h⟩)
  ·rw [if_neg h2] at h
   by_cases h3:(l.getD 0 w0).text=zll
   ·rw [if_pos h3] at h
    have:=hsh 2 2 h
    exact .inr (.inr ⟨h3,by omega⟩)
   ·rw [if_neg h3] at h; exact absurd (hat 0 h0) h
theorem zvl (x:Tk):zde (zde x)=zde x:=by
 cases h:zfH x with
 | true =>
  have e:zde x=(zbb x.1,Utf8.encode (zbb x.1)):=by unfold zde; rw [h]; rfl
  have h1:zfH (zde x)=true:=by rw [zpG]; exact h
  rw [e] at h1 ⊢
  unfold zde
  rw [h1,if_pos rfl]
  show (zbb (zbb x.1),Utf8.encode (zbb (zbb x.1)))=_
  rw [(zkc (show zaS x.1=true from h)).2.1]
 | false =>
  have e:zde x=x:=by unfold zde; rw [h]; rfl
  rw [e,e]
def SpU (u:zBA):Prop:=u≠zfv∧zdG u=u
theorem zoy (s:zBA) (hs:s.size≤65536):zeU (zeU s)=zeU s:=by
 show zh0 ((zif (zeU s)).map zde)=zh0 ((zif s).map zde)
 rw [zlW s hs,List.map_map]
 exact congrArg zh0 (List.map_congr_left fun x _=>zvl x)
theorem zmw (s:zBA) (hs:s.size≤65536) (h:zdG s≠zfv):SpU (zdG s):=by
 refine ⟨h,?_⟩
 unfold zdG at h ⊢
 by_cases hk:okR 0 (zif s)=true
 ·rw [if_pos hk,zlW s hs,zoH,if_pos hk,zoy s hs]
 ·rw [if_neg hk] at h; exact absurd rfl h
theorem zsj (put:Bool):∀ (l:List Wd) (i:Nat) (f:List zBA) (s:zBA),fmS put i l=.inr (f,s)→∀ k w,l[k]?=some w →
  f[k]?=some (if i+k=0∨(put=true∧i+k=2) then zfv else zdG w.text)∧(¬ (i+k=0∨(put=true∧i+k=2))→zdG w.text≠zfv)
 | [],i,f,s,_,k,w,hk=>by simp at hk
 | w'::l,i,f,s,h,k,w,hk=>by
  rw [fmS] at h
  cases hr:fmS put (i+1) l with
  | inl a =>
   rw [hr] at h
   split at h
   ·cases h
   ·split at h <;> cases h
  | inr fs =>
   obtain ⟨f',s'⟩:=fs
   have ih:=zsj put l (i+1) f' s' hr
   rw [hr] at h
   by_cases hc:i=0∨(put=true∧i=2)
   ·rw [if_pos hc] at h
    injection h with h
    injection h with h1 h2
    subst h1
    cases k with
    | zero =>
     injection hk with hk
     subst hk
     rw [Nat.add_zero,if_pos hc]
     exact ⟨rfl,fun h=>absurd hc h⟩
    | succ k =>
     have:=ih k w hk
     rw [show i+1+k=i+(k+1) by omega] at this
     exact this
   ·rw [if_neg hc] at h
    by_cases he:zdG w'.text=zfv
    ·rw [if_pos he] at h; cases h
    ·rw [if_neg he] at h
     injection h with h
     injection h with h1 h2
     subst h1
     cases k with
     | zero =>
      injection hk with hk
      subst hk
      rw [Nat.add_zero,if_neg hc]
      exact ⟨rfl,fun _=>he⟩
     | succ k =>
      have:=ih k w hk
      rw [show i+1+k=i+(k+1) by omega] at this
      exact this
theorem zjJ (o:zab):∀ (fs:List zBA) (ws:List Wd) (i:Nat),fs.length=ws.length→ziD o i fs ws=none→∀ k f,fs[k]?=some f→1<i+k→f≠zfv→(zbK f o.place).isSome=true
 | [],ws,i,_,_,k,f,hk,_,_=>by simp at hk
 | f'::fs,[],i,hl,_,_,_,_,_,_=>by cases hl
 | f'::fs,w::ws,i,hl,h,k,f,hk,h1,hf=>by
  rw [ziD] at h
  split at h
  ·cases h
  ·rename_i hn
   cases k with
   | zero =>
    injection hk with hk
    subst hk
    cases hp:(zbK f' o.place).isSome with
    | true=>rfl
    | false=>exact absurd ⟨by omega,hf,hp⟩ hn
   | succ k=>exact zjJ o fs ws (i+1) (by simpa using hl) h k f hk (by omega) hf
structure InvO (o:zab):Prop where
 pl:∀ u,zbK u o.place=zmM o.units u
 nd:o.units.Nodup
 ul:o.units.length≤90+o.lines.length
 ll:o.lines.length≤256
 fo:∀ u xs,zbK u o.fors=some xs→xs≠[]∧xs.length≤4∧∀ x∈xs,x∈o.units
 dj:∀ u,(zbK u o.fors).isSome=true→u ∉ o.units
 us:∀ u∈o.units,SpU u
 fk:∀ u,(zbK u o.fors).isSome=true→SpU u
 lw:26≤o.units.length
theorem InvO.ok {o:zab} (h:InvO o):zwi o where
 fo:=fun u xs hx=>⟨(h.fo u xs hx).1,(h.fo u xs hx).2.1⟩
 pl:=fun u i hi=>by
  have hi:zbK u o.place=some i:=hi
  rw [h.pl] at hi
  have:=zje hi
  have h1:=h.ul; have h2:=h.ll
  omega
theorem zsm {fs:List zBA} {k:Nat} (h:k<fs.length):fs[k]?=some (fD fs k):=zg0 h
theorem zkD {l:List Wd} {put:Bool} {f:List zBA} {s:zBA} (h:fmS put 0 l=.inr (f,s)) (k:Nat) (hk:k<l.length) (hn:¬ (k=0∨(put=true∧k=2))):fD f k=zdG (l.getD k w0).text∧fD f k≠zfv:=by
 have hl:=zmS put l 0 f s h
 obtain ⟨h1,h2⟩:=zsj put l 0 f s h k _ (zg0 hk)
 rw [Nat.zero_add,if_neg hn,zsm (by omega)] at h1
 injection h1 with h1
 rw [Nat.zero_add] at h2
 exact ⟨h1,by rw [h1]; exact h2 hn⟩
theorem zoJ {o:zab} (h:InvO o) {u:zBA} (hu:(zbK u o.place).isSome=false):u ∉ o.units:=by
 intro hm
 have:=idxU_mem.2 hm
 rw [← h.pl,hu] at this
 cases this
theorem ztJ {o:zab} (h:InvO o) {u:zBA} (hu:(zbK u o.place).isSome=true):u∈o.units:=by
 rw [h.pl] at hu
 exact idxU_mem.1 hu
theorem zw5 {o:zab} (h:InvO o) (l:List Wd) (e:Int) (he:0≤e) (h0:0<l.length) (hl:l.length≤1000000000) (ha:∀ w∈l,0≤w.at_) (hw:∀ w∈l,w.text.size≤65536):zdm o l e=some (zf9 o l e):=by
 have hul:=h.ul; have hll:=h.ll
 unfold zdm zf9
 by_cases h1:o.lines.length=256
 ·rw [if_pos h1]
  exact zaL (by rw [h1]; rfl) (zaR (zhe (k:=0) w0 h0) rfl)
 rw [if_neg h1]
 refine zaF (beq_eq_false_iff_ne.2 (by omega)) (zaR (zvo l e h0) ?_)
 by_cases h2:0≤zgJ l e
 ·rw [if_pos h2]; exact zaL (decide_eq_true h2) rfl
 rw [if_neg h2]
 have hsh:=ziC he ha h0 h2
 refine zaF (decide_eq_false h2) (zb8 (zaR (zhe (k:=0) w0 h0) (zct ⟨by omega,by omega⟩ ?_)))
 have hq:(l.getD 0 w0).text.size≤65536:=hw _ (List.mem_of_getElem? (zg0 h0))
 have hloop:=fun J=>zqP o l (l.getD 0 w0) J (by omega) hw zcG l [] [] (l.getD 0 w0).text rfl rfl (by unfold zcG; omega) (by show _≤_+1000*0; omega)
 rw [Int.toNat_natCast]
 refine (hloop _).trans ?_
 cases hf:fmS (decide ((l.getD 0 w0).text=zh1)) ([]:List Wd).length l with
 | inl a=>rfl
 | inr fs =>
  obtain ⟨fs,s⟩:=fs
  have hf:fmS (decide ((l.getD 0 w0).text=zh1)) 0 l=.inr (fs,s):=hf
  have hlen:=zmS _ _ _ _ _ hf
  have h2l:2≤l.length:=by rcases hsh with h | h | h <;> omega
  have hg:=fun (k:Nat) (hk:k<l.length)=>zhe (l:=fs) (k:=k) zfv (by omega)
  show zat (decide ((l.getD 0 w0).text=zll)) _ _=some (ite ((l.getD 0 w0).text=zll) _ _)
  by_cases hsk:(l.getD 0 w0).text=zll
  ·rw [if_pos hsk]
   have h32:(fD fs 1).size≤65536:=by
    have:=(zkD hf 1 (by omega) (by omega)).1
    rw [this]; have:=zjH (l.getD 1 w0).text; omega
   refine zaL (decide_eq_true hsk) (zaR (hg 1 (by omega)) (zaR (zpK _ h32) ?_))
   show zat ((zbK (zfQ (fD fs 1)) o.skips).getD false) _ _=_
   cases hb:(zbK (zfQ (fD fs 1)) o.skips).getD false with
   | true=>rw [if_pos rfl]; exact zaL rfl (zaR (zhe (k:=1) w0 (by omega)) rfl)
   | false=>rw [if_neg (by simp)]; exact zaF rfl (zct (by omega) rfl)
  ·rw [if_neg hsk]
   refine zaF (decide_eq_false hsk) (zaR (hg 1 (by omega)) (zaR (zzH o _) ?_))
   show zat (ztG o (fD fs 1)) _ _=_
   cases hb:ztG o (fD fs 1) with
   | true=>rw [if_pos rfl]; exact zaL rfl (zaR (zhe (k:=1) w0 (by omega)) rfl)
   | false =>
    rw [if_neg (by simp)]
    refine zaF rfl (zb8 ?_)
    have hlk:=fun J=>zr3 o l fs J hlen (by omega) zcG [] fs [] l rfl rfl rfl (by unfold zcG; omega)
    refine (hlk _).trans ?_
    cases hla:ziD o ([]:List zBA).length fs l with
    | some a=>rfl
    | none =>
     have hla:ziD o 0 fs l=none:=hla
     show zbF _ _=some ((⟨0,0⟩:zaJ),ite ((l.getD 0 w0).text=zh1) _ _)
     refine zb8 ?_
     by_cases hp:(l.getD 0 w0).text=zh1
     ·rw [if_pos hp]
      have h4:l.length=4:=by
       rcases hsh with h | h | h
       ·exact h.2.1
       ·rw [h.1] at hp; exact absurd hp (by decide)
       ·exact absurd h.1 hsk
      have hn3:=(zkD hf 3 (by omega) (by omega)).2
      have h3:=zjJ o fs l 0 hlen hla 3 _ (zsm (by omega)) (by omega) hn3
      obtain ⟨p,hp3⟩:=Option.isSome_iff_exists.1 h3
      have hr:=hp3
      rw [h.pl] at hr
      have hrng:=zje hr
      have hD3:fs.getD 3 zfv=fD fs 3:=rfl
      have hins:(zia o.units (p+1) (fD fs 1)).length=o.units.length+1:=by
       unfold zia
       rw [List.length_append,List.length_cons,List.length_take,List.length_drop]; omega
      refine zaL (decide_eq_true hp) (zaR (hg 3 (by omega)) ?_)
      rw [hD3,hp3,Option.getD_some]
      refine zct ⟨by omega,by omega⟩ (zaR (hg 1 (by omega)) (zct ⟨by omega,by omega,by omega⟩ (zaR (ztC _ (by show (zia o.units (p+1) (fD fs 1)).length≤_; omega)) ?_)))
      show (grd (o.lines.length+1≤2147483648) _)=_
      refine zct (by omega) ?_
      unfold zxF
      rw [hp3,Option.getD_some]; rfl
     ·rw [if_neg hp]
      have hcut:zhl ([]++fs) 2 ((([]++fs:List zBA).length:Nat):Int)=fs.drop 2:=zsx fs 2
      refine zaF (decide_eq_false hp) (zaR (hg 1 (by omega)) (zct ⟨by omega,by show (2:Int)≤(fs.length:Int); omega,Int.le_refl _⟩ ?_))
      rw [hcut]
      exact zct (by omega) rfl
theorem insL_mem {xs:List zBA} {i:Int} {x u:zBA}:u∈zia xs i x↔u=x∨u∈xs:=by
 unfold zia
 rw [List.mem_append,List.mem_cons]
 have:u∈xs↔u∈xs.take i.toNat∨u∈xs.drop i.toNat:=by rw [← List.mem_append,List.take_append_drop]
 rw [this]
 constructor
 ·rintro (h | h | h)
  ·exact .inr (.inl h)
  ·exact .inl h
  ·exact .inr (.inr h)
 ·rintro (h | h | h)
  ·exact .inr (.inl h)
  ·exact .inl h
  ·exact .inr (.inr h)
theorem zqJ {xs:List zBA} {i:Int} {x:zBA} (h:xs.Nodup) (hx:x ∉ xs):(zia xs i x).Nodup:=by
 have hp:(zia xs i x).Perm (x::xs):=by
  unfold zia
  have:(xs.take i.toNat++x::xs.drop i.toNat).Perm (x::(xs.take i.toNat++xs.drop i.toNat)):=List.perm_middle
  rw [List.take_append_drop] at this
  exact this
 exact hp.nodup_iff.2 (List.nodup_cons.2 ⟨hx,h⟩)
theorem zpF {o:zab} (h:InvO o) (l:List Wd) (e:Int) (he:0≤e) (h0:0<l.length) (ha:∀ w∈l,0≤w.at_) (hw:∀ w∈l,w.text.size≤65536):InvO (zf9 o l e).2:=by
 have hul:=h.ul; have hll:=h.ll
 unfold zf9
 by_cases h1:o.lines.length=256
 ·rw [if_pos h1]; exact h
 rw [if_neg h1]
 by_cases h2:0≤zgJ l e
 ·rw [if_pos h2]; exact h
 rw [if_neg h2]
 have hsh:=ziC he ha h0 h2
 cases hf:fmS (decide ((l.getD 0 w0).text=zh1)) 0 l with
 | inl a=>exact h
 | inr fs =>
  obtain ⟨fs,s⟩:=fs
  have hlen:=zmS _ _ _ _ _ hf
  have h2l:2≤l.length:=by rcases hsh with h | h | h <;> omega
  show InvO (Prod.snd (ite _ _ _))
  by_cases hsk:(l.getD 0 w0).text=zll
  ·rw [if_pos hsk]
   cases hb:(zbK (zfQ (fD fs 1)) o.skips).getD false with
   | true=>rw [if_pos rfl]; exact h
   | false =>
    rw [if_neg (by simp)]
    exact ⟨h.pl,h.nd,by show o.units.length≤90+(o.lines++_).length; rw [List.length_append]; omega,by show (o.lines++_).length≤_; rw [List.length_append]; show _+1≤_; omega,h.fo,h.dj,h.us,h.fk,h.lw⟩
  ·rw [if_neg hsk]
   cases hb:ztG o (fD fs 1) with
   | true=>rw [if_pos rfl]; exact h
   | false =>
    rw [if_neg (by simp)]
    have hb1:(zbK (fD fs 1) o.place).isSome=false∧(zbK (fD fs 1) o.fors).isSome=false:=by
     unfold ztG at hb
     exact Bool.or_eq_false_iff.1 hb
    have hnu:=zoJ h hb1.1
    cases hla:ziD o 0 fs l with
    | some a=>exact h
    | none =>
     obtain ⟨hs1,hs2⟩:=zkD hf 1 (by omega) (by omega)
     have hsp:SpU (fD fs 1):=by
      rw [hs1] at hs2 ⊢
      exact zmw _ (hw _ (List.mem_of_getElem? (zg0 (by omega)))) hs2
     show InvO (ite _ _ _)
     by_cases hp:(l.getD 0 w0).text=zh1
     ·rw [if_pos hp]
      have h4:l.length=4:=by
       rcases hsh with h | h | h
       ·exact h.2.1
       ·rw [h.1] at hp; exact absurd hp (by decide)
       ·exact absurd h.1 hsk
      unfold zxF
      generalize (zbK (fD fs 3) o.place).getD 0+1=i
      have hnd:=zqJ (i:=i) h.nd hnu
      refine ⟨fun u => ?_,hnd,?_,?_,fun u xs hx => ?_,fun u hu => ?_,fun u hu => ?_,h.fk,?_⟩
      ·show zbK u (zrd (zia o.units i (fD fs 1)) 0 o.place)=zmM (zia o.units i (fD fs 1)) u
       rw [zmF _ _ _ _ hnd]
       cases hi:zmM (zia o.units i (fD fs 1)) u with
       | some k=>show some (0+k)=_; rw [Int.zero_add]
       | none =>
        show zbK u o.place=none
        rw [h.pl]
        cases hj:zmM o.units u with
        | none=>rfl
        | some j =>
         have hm:u∈zia o.units i (fD fs 1):=insL_mem.2 (.inr (idxU_mem.1 (by rw [hj]; rfl)))
         have:=idxU_mem.2 hm
         rw [hi] at this; cases this
      ·show (zia o.units i (fD fs 1)).length≤90+(o.lines++_).length
       unfold zia
       simp only [List.length_append,List.length_cons,List.length_nil,List.length_take,List.length_drop]
       omega
      ·show (o.lines++_).length≤256
       rw [List.length_append]; show _+1≤_; omega
      ·have:=h.fo u xs hx
       exact ⟨this.1,this.2.1,fun x hx=>insL_mem.2 (.inr (this.2.2 x hx))⟩
      ·intro hm
       rcases insL_mem.1 hm with rfl | hm
       ·have hu:(zbK (fD fs 1) o.fors).isSome=true:=hu
        rw [hb1.2] at hu; cases hu
       ·exact h.dj u hu hm
      ·rcases insL_mem.1 hu with rfl | hm
       ·exact hsp
       ·exact h.us u hm
      ·have:=h.lw
       show 26≤(zia o.units i (fD fs 1)).length
       unfold zia
       rw [List.length_append,List.length_cons,List.length_take,List.length_drop]; omega
     ·rw [if_neg hp]
      have h36:3≤l.length∧l.length≤6:=by
       rcases hsh with h | h | h
       ·exact absurd h.1 hp
       ·exact h.2
       ·exact absurd h.1 hsk
      have hput:decide ((l.getD 0 w0).text=zh1)=false:=decide_eq_false hp
      refine ⟨h.pl,h.nd,by show o.units.length≤90+(o.lines++_).length; rw [List.length_append]; omega,by show (o.lines++_).length≤_; rw [List.length_append]; show _+1≤_; omega,fun u xs hx => ?_,fun u hu => ?_,h.us,fun u hu => ?_,h.lw⟩
      ·have hx:zbK u (zgw (fD fs 1) (fs.drop 2) o.fors)=some xs:=hx
       rw [zji] at hx
       by_cases hu:u=fD fs 1
       ·rw [if_pos hu] at hx
        injection hx with hx
        subst hx
        refine ⟨fun e => ?_,by rw [List.length_drop]; omega,fun x hx => ?_⟩
        ·have:=congrArg List.length e
         rw [List.length_drop,List.length_nil] at this; omega
        ·obtain ⟨k,hk⟩:=List.mem_iff_getElem?.1 hx
         rw [List.getElem?_drop] at hk
         have hkl:=(List.getElem?_eq_some_iff.1 hk).1
         have hfd:fD fs (2+k)=x:=by
          have:=zsm (fs:=fs) (k:=2+k) hkl
          rw [hk] at this
          injection this with this
          exact this.symm
         have hne:=(zkD hf (2+k) (by omega) (by rw [hput]; rintro (h | h); omega; cases h.1)).2
         rw [hfd] at hne
         exact ztJ h (zjJ o fs l 0 hlen hla (2+k) x hk (by omega) hne)
       ·rw [if_neg hu] at hx
        exact h.fo u xs hx
      ·have hu:(zbK u (zgw (fD fs 1) (fs.drop 2) o.fors)).isSome=true:=hu
       rw [zji] at hu
       by_cases hq:u=fD fs 1
       ·rw [hq]; exact hnu
       ·rw [if_neg hq] at hu
        exact h.dj u hu
      ·have hu:(zbK u (zgw (fD fs 1) (fs.drop 2) o.fors)).isSome=true:=hu
       rw [zji] at hu
       by_cases hq:u=fD fs 1
       ·rw [hq]; exact hsp
       ·rw [if_neg hq] at hu
        exact h.fk u hu
def units0:List Int:=[97,98,99,100,101,102,103,104,105,106,107,108,109,110,111,112,113,114,115,116,117,118,119,120,121,122,945,946,947,948,949,950,951,952,953,954,955,956,957,958,959,960,961,963,964,965,966,967,968,969,1072,1073,1074,1075,1076,1077,1078,1079,1080,1082,1083,1084,1085,1086,1087,1088,1089,1090,1091,1092,1093,1094,1095,1096,1097,1098,1099,1100,1101,1102,1103,1106,1108,1109,1110,1112,1113,1114,1115,1119]
def us0:List zBA:=units0.map Utf8.encode
def ztA:zab:=⟨us0,zrd us0 0 [],[],[],[]⟩
theorem zvZ:(match zd2 with | some o=>decide (o.units=us0)&&(decide (o.place.map Prod.fst=(zrd us0 0 []).map Prod.fst)&&decide (o.place.map Prod.snd=(zrd us0 0 []).map Prod.snd))&&o.fors.isEmpty&&o.skips.isEmpty&&o.lines.isEmpty | none=>false)=true:=by decide +kernel
theorem znA {α β:Type}:∀ {a b:List (α×β)},a.map Prod.fst=b.map Prod.fst→a.map Prod.snd=b.map Prod.snd→a=b
 | [],[],_,_=>rfl
 | [],_::_,h,_=>by cases h
 | _::_,[],h,_=>by cases h
 | x::a,y::b,h1,h2=>by
  rw [List.map_cons,List.map_cons] at h1 h2
  injection h1 with p1 q1
  injection h2 with p2 q2
  rw [Prod.ext p1 p2,znA q1 q2]
theorem zvY:zd2=some ztA:=by
 have h:=zvZ
 cases hb:zd2 with
 | none=>rw [hb] at h; cases h
 | some o =>
  rw [hb] at h
  simp only [Bool.and_eq_true,decide_eq_true_eq,List.isEmpty_iff] at h
  obtain ⟨⟨⟨⟨h1,h2,h3⟩,h4⟩,h5⟩,h6⟩:=h
  obtain ⟨u,p,f,s,l⟩:=o
  simp only at h1 h2 h3 h4 h5 h6
  subst h1; subst h4; subst h5; subst h6
  rw [znA h2 h3]; rfl
theorem znn:us0.Nodup:=by decide +kernel
theorem zwG:(us0.all fun u=>!decide (u=zfv)&&decide (zdG u=u))=true:=by decide +kernel
theorem zyk:InvO ztA where
 pl:=fun u=>by
  show zbK u (zrd us0 0 [])=zmM us0 u
  rw [zmF _ _ _ _ znn]
  cases zmM us0 u with
  | none=>rfl
  | some k=>show some (0+k)=_; rw [Int.zero_add]
 nd:=znn
 ul:=by show us0.length≤90+0; decide
 ll:=by show 0≤256; omega
 fo:=fun u xs h=>by cases h
 dj:=fun u h=>by cases h
 fk:=fun u h=>by cases h
 lw:=by show 26≤us0.length; decide
 us:=fun u hu=>by
  have:=List.all_eq_true.1 zwG u hu
  rw [Bool.and_eq_true,Bool.not_eq_true',decide_eq_false_iff_not,decide_eq_true_iff] at this
  exact this
def lns:List UInt8→List UInt8→List (List UInt8)
 | [],cur=>[cur]
 | c::l,cur=>if c=10 then cur::lns l [] else lns l (cur++[c])
theorem zpE:∀ (l cur:List UInt8),Lib.indexByte l 10<0→lns l cur=[cur++l]
 | [],cur,_=>by rw [lns,List.append_nil]
 | c::l,cur,h=>by
  unfold Lib.indexByte at h
  by_cases hc:c=10
  ·rw [hc] at h; exact absurd (show (0:Int)<0 from h) (by decide)
  ·have hb:(c==(10:UInt8))=false:=beq_eq_false_iff_ne.2 hc
   rw [hb] at h
   simp only [Bool.false_eq_true,if_false] at h
   have:Lib.indexByte l 10<0:=by
    by_cases h1:Lib.indexByte l 10=-1
    ·omega
    ·rw [beq_eq_false_iff_ne.2 h1] at h
     simp only [Bool.false_eq_true,if_false] at h
     have:=indexByte_ge l 10
     omega
   rw [lns,if_neg hc,zpE l _ this,List.append_assoc]; rfl
theorem zpD:∀ (l cur:List UInt8) (m:Nat),Lib.indexByte l 10=(m:Int)→lns l cur=(cur++l.take m)::lns (l.drop (m+1)) []∧m<l.length
 | [],cur,m,h=>by
  have:(-1:Int)=(m:Int):=h
  omega
 | c::l,cur,m,h=>by
  unfold Lib.indexByte at h
  by_cases hc:c=10
  ·rw [hc] at h
   have hm:(0:Int)=(m:Int):=h
   obtain rfl:m=0:=by omega
   rw [lns,if_pos hc,List.take_zero,List.append_nil]
   exact ⟨rfl,by rw [List.length_cons]; omega⟩
  ·have hb:(c==(10:UInt8))=false:=beq_eq_false_iff_ne.2 hc
   rw [hb] at h
   simp only [Bool.false_eq_true,if_false] at h
   by_cases h1:Lib.indexByte l 10=-1
   ·rw [h1] at h
    have:(-1:Int)=(m:Int):=h
    omega
   ·rw [beq_eq_false_iff_ne.2 h1] at h
    simp only [Bool.false_eq_true,if_false] at h
    have:=indexByte_ge l 10
    obtain ⟨k,hk⟩:∃ k:Nat,Lib.indexByte l 10=(k:Int):=⟨(Lib.indexByte l 10).toNat,by omega⟩
    obtain rfl:m=k+1:=by omega
    obtain ⟨e1,e2⟩:=zpD l (cur++[c]) k hk
    rw [lns,if_neg hc,e1,List.append_assoc]
    exact ⟨rfl,by rw [List.length_cons]; omega⟩
theorem zqj (J:zBA→Option (List zBA)) (hJ:∀ x,J x=some [x]):∀ (n:Nat) (x:zBA),x.size<n→x.size≤1000000000→zaU (fun _=>none) (zb6 (⟨#[10]⟩:zBA) 0 J) n x=some ((lns x.data.toList []).map ba):=by
 intro n
 induction n with
 | zero=>intro x h; omega
 | succ n ih =>
  intro x hn hb
  rw [zfO]
  generalize hag:zaU (fun _=>none) (zb6 (⟨#[10]⟩:zBA) 0 J) n=ag
  unfold zb6
  have hge:=indexByte_ge x.data.toList 10
  refine zct rfl ?_
  by_cases h:Lib.indexByte x.data.toList 10<0
  ·refine zaL (decide_eq_true h) ?_
   rw [hJ,zpE _ _ h]
   show some [x]=some [ba ([]++x.data.toList)]
   rw [List.nil_append,show ba x.data.toList=x from zhi (zlm _)]
  ·obtain ⟨m,hm⟩:∃ m:Nat,Lib.indexByte x.data.toList 10=(m:Int):=⟨(Lib.indexByte x.data.toList 10).toNat,by omega⟩
   obtain ⟨e1,e2⟩:=zpD x.data.toList [] m hm
   rw [← zbY] at e2
   rw [hm,e1]
   have hs1:((⟨#[10]⟩:zBA).size:Int)=1:=rfl
   rw [hs1,Int.add_zero]
   refine zaF (decide_eq_false (by omega)) (zct ⟨by omega,by omega⟩ (zct ⟨by omega,by omega,by omega⟩ ?_))
   have c1:zcz x 0 (m:Int)=ba ([]++x.data.toList.take m):=by
    apply zhi
    have:=zhG x 0 m
    rw [show ((0:Nat):Int)=0 from rfl] at this
    rw [this,zlm]; rfl
   have c2:(zcz x ((m:Int)+1) (x.size:Int)).data.toList=x.data.toList.drop (m+1):=by
    have:=zhG x (m+1) x.size
    push_cast at this
    rw [this,List.take_of_length_le (by rw [List.length_drop,← zbY]; omega)]
   have c3:(zcz x ((m:Int)+1) (x.size:Int)).size=x.size - (m+1):=by rw [zbY,c2,List.length_drop,← zbY]
   have:=ih (zcz x ((m:Int)+1) (x.size:Int)) (by omega) (by omega)
   rw [hag,c2] at this
   rw [c1]
   have hin:(grd (I64 ((m:Int)+1))<|grd (0≤((m:Int)+1:Int)∧((m:Int)+1:Int)≤(x.size:Int)∧((x.size:Int):Int)≤(x.size:Int))<|ag (zcz x ((m:Int)+1) (x.size:Int)))=some ((lns (x.data.toList.drop (m+1)) []).map ba):=zct ⟨by omega,by omega⟩ (zct ⟨by omega,by omega,by omega⟩ this)
   rw [hin]; rfl
def rdL:zab→Int→List (List UInt8)→(Option zab)×zaJ
 | o,_,[]=>(some o,⟨0,0⟩)
 | o,at_,x::xs =>
  if wdK x 0 none=[] then rdL o (at_+((x.length:Int)+1)) xs
  else if (zf9 o ((wdK x 0 none).map (zfc at_)) (at_+(x.length:Int))).1.Err=0 then rdL (zf9 o ((wdK x 0 none).map (zfc at_)) (at_+(x.length:Int))).2 (at_+((x.length:Int)+1)) xs
  else (none,(zf9 o ((wdK x 0 none).map (zfc at_)) (at_+(x.length:Int))).1)
def zwl (xs:List (List UInt8)):Nat:=(xs.map fun x=>x.length+1).sum
theorem ziT (x:List UInt8) (xs:List (List UInt8)):zwl (x::xs)=x.length+1+zwl xs:=by unfold zwl; simp
theorem zmH:∀ (l cur:List UInt8),zwl (lns l cur)=l.length+cur.length+1
 | [],cur=>by rw [lns,ziT]; show cur.length+1+0=0+cur.length+1; omega
 | c::l,cur=>by
  rw [lns]
  split
  ·rw [ziT,zmH l []]; simp; omega
  ·rw [zmH l]; simp; omega
theorem zlR:∀ (l:List UInt8) (i:Nat) (cur:Option (Nat×List UInt8)),(∀ p∈wdK l i cur,p.2.length≤l.length+(cur.toList.map fun p=>p.2.length).sum)∧(wdK l i cur).length≤l.length+cur.toList.length
 | [],i,none=>⟨(fun p h=>by cases h),by show 0≤0; omega⟩
 | [],i,some q=>⟨fun p h=>by
   have:p=q:=List.mem_singleton.1 h
   subst this; simp,by show 1≤0+1; omega⟩
 | c::l,i,cur=>by
  by_cases hc:c=32
  ·subst hc
   obtain ⟨h1,h2⟩:=zlR l (i+1) none
   rw [zrh]
   have h2:(wdK l (i+1) none).length≤l.length+0:=h2
   refine ⟨fun p hp => ?_,by rw [List.length_append,List.length_cons]; omega⟩
   rcases List.mem_append.1 hp with hp | hp
   ·cases cur with
    | none=>cases hp
    | some q=>rw [List.mem_singleton.1 hp]; simp
   ·have:=h1 p hp
    simp at this ⊢
    omega
  ·cases cur with
   | none =>
    obtain ⟨h1,h2⟩:=zlR l (i+1) (some (i,[c]))
    rw [zop hc]
    have h2:(wdK l (i+1) (some (i,[c]))).length≤l.length+1:=h2
    refine ⟨fun p hp => ?_,by rw [List.length_cons]; show _≤l.length+1+0; omega⟩
    have:=h1 p hp
    simp at this ⊢
    omega
   | some q =>
    obtain ⟨a,w⟩:=q
    obtain ⟨h1,h2⟩:=zlR l (i+1) (some (a,w++[c]))
    rw [zrj hc]
    have h2:(wdK l (i+1) (some (a,w++[c]))).length≤l.length+1:=h2
    refine ⟨fun p hp => ?_,by rw [List.length_cons]; show _≤l.length+1+1; omega⟩
    have:=h1 p hp
    simp at this ⊢
    omega
theorem znv:∀ (xs:List (List UInt8)) (o:zab) (at_:Int),InvO o→0≤at_→at_+(zwl xs:Int)≤200000→(∀ x∈xs,x.length≤65536) →
  zb4 (fun (o16:List zBA) (o17:List (zBA×Int)) (o18:List (zBA×List zBA)) (o19:List (zBA×Bool)) (o20:List zBA) (at3:Int)=>(some ((some (⟨o16,o17,o18,o19,o20⟩:zab)),(⟨0,0⟩:zaJ)):Option ((Option zab)×zaJ)))
   (zdz (fun (x2:Int) (x3:Int) (o21:List zBA) (o22:List (zBA×Int)) (o23:List (zBA×List zBA)) (o24:List (zBA×Bool)) (o25:List zBA) (at4:Int)=>some (none,(⟨x2,x3⟩:zaJ)))) (xs.map ba) o.units o.place o.fors o.skips o.lines at_=some (rdL o at_ xs)
 | [],o,at_,_,_,_,_=>rfl
 | x::xs,o,at_,hi,ha,hb,hx=>by
  have hxl:=hx x (List.mem_cons_self ..)
  rw [ziT] at hb
  push_cast at hb
  have next:=fun (o':zab) (h':InvO o')=>znv xs o' (at_+((x.length:Int)+1)) h' (by omega) (by omega) (fun y hy=>hx y (List.mem_cons_of_mem _ hy))
  rw [List.map_cons,zbQ]
  generalize hag:zb4 (fun (o16:List zBA) (o17:List (zBA×Int)) (o18:List (zBA×List zBA)) (o19:List (zBA×Bool)) (o20:List zBA) (at3:Int)=>(some ((some (⟨o16,o17,o18,o19,o20⟩:zab)),(⟨0,0⟩:zaJ)):Option ((Option zab)×zaJ))) _ (xs.map ba)=ag at next ⊢
  unfold zdz
  have hs:(ba x).size=x.length:=ziJ x
  obtain ⟨w1,w2⟩:=zlR x 0 none
  have w2:(wdK x 0 none).length≤x.length+0:=w2
  refine zct ⟨by omega,by omega⟩ (zct ⟨by omega,by omega⟩ (zaR (zuS (ba x) at_ (by omega) ⟨by omega,by omega⟩) ?_))
  rw [zlm,hs,List.length_map,rdL]
  by_cases h0:wdK x 0 none=[]
  ·rw [if_pos h0,h0]
   exact zaL rfl (next o hi)
  ·rw [if_neg h0]
   have hlen:0<(wdK x 0 none).length:=List.length_pos_iff.2 h0
   have hat:∀ w∈(wdK x 0 none).map (zfc at_),0≤w.at_:=fun w hw=>by
    obtain ⟨p,hp,rfl⟩:=List.mem_map.1 hw
    show 0≤at_+(p.1:Int)
    omega
   have htx:∀ w∈(wdK x 0 none).map (zfc at_),w.text.size≤65536:=fun w hw=>by
    obtain ⟨p,hp,rfl⟩:=List.mem_map.1 hw
    show (ba p.2).size≤65536
    rw [ziJ]
    have:=w1 p hp
    have:p.2.length≤x.length+0:=this
    omega
   have e:(⟨o.units,o.place,o.fors,o.skips,o.lines⟩:zab)=o:=rfl
   refine zaF (beq_eq_false_iff_ne.2 (by omega)) (zct ⟨by omega,by omega⟩ ?_)
   rw [e]
   refine zaR (zw5 hi _ _ (by omega) (by rw [List.length_map]; exact hlen) (by rw [List.length_map]; omega) hat htx) ?_
   have hinv:=zpF hi ((wdK x 0 none).map (zfc at_)) (at_+(x.length:Int)) (by omega) (by rw [List.length_map]; exact hlen) hat htx
   generalize zf9 o ((wdK x 0 none).map (zfc at_)) (at_+(x.length:Int))=r at hinv ⊢
   by_cases h1:r.1.Err=0
   ·rw [if_pos h1]
    exact zaF (by rw [h1]; rfl) (next r.2 hinv)
   ·rw [if_neg h1]
    exact zaL (bne_iff_ne.2 h1) rfl
theorem zrI:∀ (xs:List (List UInt8)) (o:zab) (at_:Int),InvO o→0≤at_→(∀ x∈xs,x.length≤65536)→(∃ o',rdL o at_ xs=(some o',⟨0,0⟩)∧InvO o')∨(∃ e,rdL o at_ xs=(none,e)∧e.Err≠0)
 | [],o,at_,hi,_,_=>.inl ⟨o,rfl,hi⟩
 | x::xs,o,at_,hi,ha,hx=>by
  have hxl:=hx x (List.mem_cons_self ..)
  have next:=fun (o':zab) (h':InvO o')=>zrI xs o' (at_+((x.length:Int)+1)) h' (by omega) (fun y hy=>hx y (List.mem_cons_of_mem _ hy))
  obtain ⟨w1,w2⟩:=zlR x 0 none
  rw [rdL]
  by_cases h0:wdK x 0 none=[]
  ·rw [if_pos h0]; exact next o hi
  ·rw [if_neg h0]
   by_cases h1:(zf9 o ((wdK x 0 none).map (zfc at_)) (at_+(x.length:Int))).1.Err=0
   ·rw [if_pos h1]
    refine next _ (zpF hi _ _ (by omega) (by rw [List.length_map]; exact List.length_pos_iff.2 h0) (fun w hw => ?_) (fun w hw => ?_))
    ·obtain ⟨p,hp,rfl⟩:=List.mem_map.1 hw
     show 0≤at_+(p.1:Int)
     omega
    ·obtain ⟨p,hp,rfl⟩:=List.mem_map.1 hw
     show (ba p.2).size≤65536
     rw [ziJ]
     have:p.2.length≤x.length+0:=w1 p hp
     omega
   ·rw [if_neg h1]; exact .inr ⟨_,rfl,h1⟩
def zmA (text:zBA):(Option zab)×zaJ:=if 65536<text.size then (none,⟨3,65536⟩) else rdL ztA 0 (lns text.data.toList [])
theorem zmI (l cur:List UInt8):∀ x∈lns l cur,x.length≤l.length+cur.length:=by
 intro x hx
 have h1:=zmH l cur
 have:∀ (xs:List (List UInt8)),x∈xs→x.length+1≤zwl xs:=by
  intro xs
  induction xs with
  | nil=>intro h; cases h
  | cons y ys ih =>
   intro h
   rw [ziT]
   rcases List.mem_cons.1 h with rfl | h
   ·omega
   ·have:=ih h; omega
 have:=this _ hx
 omega
theorem zrG (text:zBA):zdv text=some (zmA text):=by
 unfold zdv zmA
 by_cases h:65536<text.size
 ·rw [if_pos h]; exact zaL (decide_eq_true (by omega)) rfl
 ·rw [if_neg h]
  refine zaF (decide_eq_false (by omega)) (zb8 (zaR zvY (zaR (a:=((⟨#[10]⟩:zBA),text,0)) rfl (zaR (a:=(lns text.data.toList []).map ba) ?_ (zb8 (zb8 ?_))))))
  ·unfold zdX
   exact zb8 (zaF rfl (zb8 (zqj _ (fun x=>rfl) zcG text (by unfold zcG; omega) (by omega))))
  ·have hs:=zmH text.data.toList []
   rw [← zbY,List.length_nil] at hs
   exact znv (lns text.data.toList []) ztA 0 zyk (Int.le_refl _) (by omega) (fun x hx=>by have:=zmI text.data.toList [] x hx; rw [← zbY,List.length_nil] at this; omega)
theorem zkY (text:zBA):(∃ o',zmA text=(some o',⟨0,0⟩)∧InvO o')∨(∃ e,zmA text=(none,e)∧e.Err≠0):=by
 unfold zmA
 by_cases h:65536<text.size
 ·rw [if_pos h]; exact .inr ⟨_,rfl,by show (3:Int)≠0; omega⟩
 ·rw [if_neg h]
  exact zrI _ _ _ zyk (Int.le_refl _) (fun x hx=>by have:=zmI text.data.toList [] x hx; rw [← zbY,List.length_nil] at this; omega)
def zk2 (text:zBA):zab:=(zmA text).1.getD ztA
theorem zqv (text:zBA):InvO (zk2 text):=by
 unfold zk2
 rcases zkY text with ⟨o,h,hi⟩ | ⟨e,h,he⟩
 ·rw [h]; exact hi
 ·rw [h]; exact zyk
def zfg  : Option Bool := zak (zdv (⟨#[112,117,116,32,99,104,32,97,102,116,101,114,32,99]⟩:zBA)) fun (r1:((Option zab)×zaJ)) => zak (r1.1) fun (p1:zab) => zak (zbw p1 (⟨#[99,122]⟩:zBA) (⟨#[99,104,97]⟩:zBA)) fun (r2:(Int×Int)) => zat (zdu r1.2 (⟨0,0⟩:zaJ)) ( zat ((r2.1:Int)==(-1)) ( zat ((r2.2:Int)==1) ( zak (zcd p1 (⟨#[99,104,111,112]⟩:zBA)) fun (r3:zBA) => some (decide (r3=(⟨#[67,72]⟩:zBA)))
) ( some false
)
) ( some false
)
) ( some false
)
theorem zik  {r:Bool} (h:zfg=some r):FnP prog 6 [] (.bool r):=by
 unfold zfg at h
 refine FnP.intro func6 rfl ntmps6 (by simp) ?_
 intro w0 K
 refine zyG (zyR 1 rfl (zyH ?_))
 obtain ⟨r1,hq1,h⟩:=zbx h
 refine zb3 (vs:=[.string (⟨#[112,117,116,32,99,104,32,97,102,116,101,114,32,99]⟩:zBA)]) rfl dc rfl rfl rfl ztS (zfm hq1) Splits.nil ?_
 rintro v1
 refine zcI (L':=[zkZ zaZ zaY 79 v1 r1.1]) (zaa [0] kr rfl) (zyR 1 rfl (zaH rfl dc rfl rfl (zaH rfl dc rfl rfl ?_)))
 refine za4 zom rfl dc (fun b1 => ?_)
 refine zyR 1 rfl (za6 (k:=1) (vs:=(zr2 r1.2)) (l':=(zr2 r1.2)) zh7 rfl rfl rfl rfl rfl (show _≤_ by simp) rfl rfl ?_)
 refine zyH (zyR 1 rfl ?_)
 obtain ⟨p1,hq2,h⟩:=zbx h
 refine zj5 (As:=[zkZ zaZ zaY 79 v1 r1.1]) (zaa [0] kr rfl) (zhN hq2) ?_
 rintro ⟨b2,hd1,hd2,hd3,hd4,hd5⟩ hv1
 have hkp:=h
 subst hv1
 have h:=hkp
 obtain ⟨r2,hq3,h⟩:=zbx h
 refine zdn (v:=.tuple #[zI r2.1,zI r2.2]) (vs:=[zP b2,.string (⟨#[99,122]⟩:zBA),.string (⟨#[99,104,97]⟩:zBA)]) (Rd.nil:Rd _ _ []) rfl dc rfl rfl rfl ztU (zdf (bo1:=b2) (o1:=p1) (o1_h0:=hd1) (o1_h1:=hd2) (o1_h2:=hd3) (o1_h3:=hd4) (o1_h4:=hd5) hq3) (.own (zaa [2] kr rfl) (fun _ _ h=>sepL.one1.1 h) (.own (zaa [3] kr rfl) (fun _ _ h=>sepL.one1.1 h) (.own (zaa [4] kr rfl) (fun _ _ h=>sepL.one1.1 h) (.own (zaa [5] kr rfl) (fun _ _ h=>sepL.one1.1 h) (.own (zaa [6] kr rfl) (fun _ _ h=>sepL.one1.1 h) (.own (zaa [7] kr rfl) (fun _ _ h=>sepL.one1.1 h) .nil)))))) ?_
 refine zyR 1 rfl (zaH rfl dc rfl rfl (zaH rfl dc rfl rfl (zyR 2 rfl (zyH (zbW (k:=1) (cs:=(zr2 r1.2)) zi1 rfl dc rfl rfl rfl rfl ?_)))))
 refine zck (v:=.agg #[zI 0,zI 0]) (ps:=[]) rfl dc rfl (fun _=>by kernel_rfl) ?_
 refine zaW rfl (zq4 r1.2 (⟨0,0⟩:zaJ)) (zyR 1 rfl ?_)
 refine zyS (s:=17) rfl h (fun h => ?_) (fun h => ?_)
 ·
  refine zyR 1 rfl (zaW rfl zbn (zyR 2 rfl ?_))
  refine zyS (s:=21) rfl h (fun h => ?_) (fun h => ?_)
  ·
   refine zyR 1 rfl (zaW rfl zbn (zyR 2 rfl ?_))
   refine zyS (s:=25) rfl h (fun h => ?_) (fun h => ?_)
   ·
    refine zyR 1 rfl ?_
    obtain ⟨r3,hq4,h⟩:=zbx h
    refine zdn (v:=.string r3) (vs:=[zP b2,.string (⟨#[99,104,111,112]⟩:zBA)]) (Rd.nil:Rd _ _ []) rfl dc rfl rfl rfl zvI (zd3 (bo1:=b2) (o1:=p1) (o1_h0:=hd1) (o1_h1:=hd2) (o1_h2:=hd3) (o1_h3:=hd4) (o1_h4:=hd5) hq4) (.own (zaa [2] kr rfl) (fun _ _ h=>sepL.one1.1 h) (.own (zaa [3] kr rfl) (fun _ _ h=>sepL.one1.1 h) (.own (zaa [4] kr rfl) (fun _ _ h=>sepL.one1.1 h) (.own (zaa [5] kr rfl) (fun _ _ h=>sepL.one1.1 h) (.own (zaa [6] kr rfl) (fun _ _ h=>sepL.one1.1 h) (.own (zaa [7] kr rfl) (fun _ _ h=>sepL.one1.1 h) .nil)))))) ?_
    refine zaW rfl zeL (zyR 2 rfl (zyN (zaD ?_)))
    cases h
    exact zba 0 results6
   refine zyR 5 rfl (zyN (zaD ?_))
   cases h
   exact zba 0 results6
  refine zyR 9 rfl (zyN (zaD ?_))
  cases h
  exact zba 0 results6
 refine zyR 13 rfl (zaE ?_)
 refine zaG (zaD ?_)
 cases h
 exact zba 0 results6
def zeI (s1:zBA):Option zBA := zat (decide ((512:Int)<(s1.size:Int))) ( grd (0≤(0:Int)∧(0:Int)≤512∧(512:Int)≤(s1.size:Int)) <| some (zcz s1 0 512)
) ( some s1
)
theorem zil {s1:zBA} {r:zBA} (h:zeI s1=some r):FnP prog 8 [.string s1] (.string r):=by
 unfold zeI at h
 refine FnP.intro func8 rfl ntmps8 (by simp) ?_
 intro w0 K
 refine zyG (zyR 1 rfl (zyN (zaM (zyG (zyR 1 rfl (zcU rfl dc rfl underlying9 (zaW rfl zeR (zyN ?_))))))))
 refine zyB rfl h (fun h => ?_) (fun h => ?_)
 ·
  refine zyG (zyR 1 rfl ?_)
  obtain ⟨hg1,h⟩:=zcg h
  refine zce rfl dc rfl rfl rfl (za7 (i:=0) (j:=512) underlying9 (.inl ⟨rfl,rfl⟩) (.inr rfl) hg1) (zyR 1 rfl (zyN (zaD (zai ?_))))
  cases h
  exact zba 2 results8
 refine zaq (zaG (zyG (zyR 2 rfl (zyN (zaD ?_)))))
 cases h
 exact zba 2 results8
def zfh (text1:zBA):Option (Option zab) := zak (zdv text1) fun (r1:((Option zab)×zaJ)) => zat ((r1.2.Err:Int)==0) ( some r1.1
) ( zak (zdv (⟨#[]⟩:zBA)) fun (r2:((Option zab)×zaJ)) => some r2.1
)
theorem zlF {text1:zBA} {r:(Option zab)} (h:zfh text1=some r):Fn prog 7 [.string text1] [] (fun v0:Value=>v0) (fun v0=>[zkZ zaZ zaY 79 v0 r]):=by
 unfold zfh at h
 refine Fn.intro func7 rfl ntmps7 (by simp) ?_
 intro w0 K
 refine zyG (zyR 1 rfl (zyN (zaM (zyG (zyR 1 rfl ?_)))))
 obtain ⟨r1,hq1,h⟩:=zbx h
 refine zb3 (vs:=[.string text1]) rfl dc rfl rfl rfl ztS (zfm hq1) Splits.nil ?_
 rintro v1
 refine zcI (L':=[zkZ zaZ zaY 79 v1 r1.1]) (zaa [0] kr rfl) (zyR 1 rfl (zaH rfl dc rfl rfl (zaH rfl dc rfl rfl ?_)))
 refine za4 zom rfl dc (fun b1 => ?_)
 refine zyR 1 rfl (za6 (k:=1) (vs:=(zr2 r1.2)) (l':=(zr2 r1.2)) zh7 rfl rfl rfl rfl rfl (show _≤_ by simp) rfl rfl ?_)
 refine zyH (zag zsl rfl dc rfl (show _=0 from rfl) (zan (k:=1) zwX rfl dc rfl rfl rfl (zaW rfl zbn (zyN ?_))))
 refine zyB rfl h (fun h => ?_) (fun h => ?_)
 ·
  refine zyG (zyR 2 rfl (zyN (zaD (zai ?_))))
  cases h
  exact zcu (rs:=[.tmp 2]) v1 (.inl rfl) results7 (.cons (.tmp rfl) .nil) rfl (zaa [0] kr rfl)
 refine zaq (zaG (zyG ?_))
 obtain ⟨r2,hq2,h⟩:=zbx h
 refine zb3 (vs:=[.string (⟨#[]⟩:zBA)]) rfl dc rfl rfl rfl ztS (zfm hq2) Splits.nil ?_
 rintro v2
 refine zcI (L':=[zkZ zaZ zaY 79 v1 r1.1,cells b1 (zr2 r1.2) 35,zkZ zaZ zaY 79 v2 r2.1]) (zaa [0,1,2] kr rfl) (zyR 1 rfl (zaH rfl dc rfl rfl (zaH rfl dc rfl rfl ?_)))
 refine za4 zom rfl dc (fun b2 => ?_)
 refine zyR 1 rfl (za6 (k:=3) (vs:=(zr2 r2.2)) (l':=(zr2 r2.2)) zh7 rfl rfl rfl rfl rfl (show _≤_ by simp) rfl rfl ?_)
 refine zyH (zyR 2 rfl (zyN (zaD ?_)))
 cases h
 exact zcu (rs:=[.tmp 2]) v2 (.inl rfl) results7 (.cons (.tmp rfl) .nil) rfl (zaa [2] kr rfl)
theorem znm:zfg=some true:=by decide +kernel
def zws (s:zBA):zBA:=if 512<s.size then zcz s 0 512 else s
theorem zry (s:zBA):zeI s=some (zws s):=by
 unfold zeI zws
 by_cases h:512<s.size
 ·rw [if_pos h]; exact zaL (decide_eq_true (by omega)) (zct ⟨by omega,by omega,by omega⟩ rfl)
 ·rw [if_neg h]; exact zaF (decide_eq_false (by omega)) rfl
theorem zsw (s:zBA):(zws s).size≤512:=by
 unfold zws
 by_cases h:512<s.size
 ·rw [if_pos h]
  have:=zhG s 0 512
  rw [zbY]
  rw [show zcz s 0 512=zcz s ((0:Nat):Int) ((512:Nat):Int) from rfl,this,List.length_take]
  omega
 ·rw [if_neg h]; omega
theorem zvf (text:zBA):zfh text=some (some (zk2 text)):=by
 unfold zfh zk2
 refine zaR (zrG text) ?_
 rcases zkY text with ⟨o,h,hi⟩ | ⟨e,h,he⟩
 ·rw [h]; exact zaL rfl rfl
 ·rw [h]
  exact zaF (beq_eq_false_iff_ne.2 he) (zaR (zrG _) rfl)
section
section snoc
variable {α:Type}
end snoc
structure zz2 (o:zlt) (y:Tk):Prop where
 lt:zfH y=false
 mm:zim y=false
 dg:zjd y=false
 k1:kT y≠1
 k3:kT y≠3
 kb:¬ (kT y=5∨kT y=4∨kT y=6)
 k11:kT y≠11
 no:∀ f,o.p (f++Utf8.encode (zbb y.1))=none∧o.f (f++Utf8.encode (zbb y.1))=none
theorem zqZ (o:zlt) (n:Nat):zgP o n []=[]:=by cases n <;> rfl
theorem ztE:((List.range 1120).all fun n=>!(zaS (n:Int)||mrk (n:Int))||((Utf8.encode (n:Int)).data.toList.all fun c=>decide (65≤c.toNat)))=true:=by decide +kernel
theorem zvn {r:Int} (h:zaS r=true∨mrk r=true):∀ c∈(Utf8.encode r).data.toList,65≤c.toNat:=by
 have h1:0≤r∧r<1120:=by
  rcases h with h | h
  ·have:=zcy r h; omega
  ·unfold mrk at h; have:=of_decide_eq_true h; omega
 have:=List.all_eq_true.1 ztE r.toNat (List.mem_range.2 (by omega))
 rw [show ((r.toNat:Nat):Int)=r by omega,(show (zaS r||mrk r)=true by rw [Bool.or_eq_true]; exact h),Bool.not_true,Bool.false_or] at this
 intro c hc
 exact of_decide_eq_true (List.all_eq_true.1 this c hc)
theorem zuj {t:Tok} (ht:zeW t) (h:0≤(tkT t).1):(tkT t).2=Utf8.encode (tkT t).1:=by
 rcases ht with ht | ht
 ·have hb:=zdi ht
  have e:=zjF ht
  unfold zet mkI at e
  have e2:=congrArg (fun x:Itm=>x.Text) e
  dsimp only at e2
  have e3:(tkT t).1=(t.r:Int):=by unfold tkT; rw [hb]; rfl
  rw [e3,← e2]; rfl
 ·exfalso
  have:(tkT t).1=-1:=by unfold tkT; rw [ht]; rfl
  omega
theorem zoI:∀ (l:List Tk) (k:Nat),okR k l=true→∀ x∈l,zfH x=true∨zim x=true
 | [],k,_,x,hx=>by cases hx
 | y::l,k,h,x,hx=>by
  rw [okR,Bool.and_eq_true,Bool.and_eq_true,Bool.or_eq_true,Bool.and_eq_true] at h
  rcases List.mem_cons.1 hx with rfl | hx
  ·rcases h.1.2 with h | h
   ·exact .inl h
   ·exact .inr h.2
  ·exact zoI l (k+1) h.2 x hx
end
section
variable {p:Tk→Bool} (hp:∀ x,p (zde x)=p x)
include hp
end
theorem ziv {u:zBA} (h:SpU u):u.size≤32:=by have:=zjH u; rw [h.2] at this; exact this
theorem zu2 {u:zBA} (h:SpU u):okR 0 (zif u)=true∧zeU u=u∧zdc u=u:=by
 have hs:=ziv h
 obtain ⟨h1,h2⟩:=h
 unfold zdG at h2
 by_cases hk:okR 0 (zif u)=true
 ·rw [if_pos hk] at h2
  have:=zln u (by omega)
  rw [h2] at this
  exact ⟨hk,h2,this⟩
 ·rw [if_neg hk] at h2
  exact absurd h2.symm h1
theorem zuk {u:zBA} (h:SpU u):zdG (zie u)=u:=by
 have hs:=ziv h
 have e:=zn5 u (by omega)
 have h2:=h.2
 unfold zdG zeU zif zio at h2 ⊢
 rw [e]; exact h2
theorem zwI {u:zBA} (h:SpU u):zie u≠zfv:=by
 intro e
 have h2:=zuk h
 rw [e] at h2
 have:zdG zfv=zfv:=by decide +kernel
 rw [this] at h2
 exact h.1 h2.symm
theorem zpO {c:UInt8}:∀ {ts:List Tok},c∈zbp ts→∃ t∈ts,c∈t.bs
 | [],h=>nomatch (show c∈([]:List UInt8) from h)
 | t::ts,h=>by
  rw [zch] at h
  rcases List.mem_append.1 h with h | h
  ·exact ⟨t,List.mem_cons_self ..,h⟩
  ·obtain ⟨u,hu,hc⟩:=zpO h
   exact ⟨u,List.mem_cons_of_mem _ hu,hc⟩
theorem zut {t:Tok} (ht:zeW t) (h:zfH (tkT t)=true∨zim (tkT t)=true):∀ c∈t.bs,65≤c.toNat:=by
 have hr:0≤(tkT t).1:=by
  rcases h with h | h
  ·have:=zcy _ (show zaS (tkT t).1=true from h); omega
  ·have h:mrk (tkT t).1=true:=h
   unfold mrk at h
   have:=of_decide_eq_true h; omega
 have e:=zuj ht hr
 intro c hc
 have hb:=zvn (r:=(tkT t).1) h c
 rw [← e] at hb
 exact hb (by show c∈(⟨t.bs.toArray⟩:zBA).data.toList; simpa using hc)
theorem zro {u:zBA} (h:SpU u):∀ c∈(zie u).data.toList,65≤c.toNat:=by
 have hs:=ziv h
 intro c hc
 rw [zjG u (by omega)] at hc
 obtain ⟨t,ht,hc⟩:=zpO hc
 obtain ⟨d,hd,ht⟩:=List.mem_flatMap.1 ht
 rcases zkG (ze3 _) d hd with ⟨g1,g2,g3⟩ | ⟨g1,g2,v,g3,g4⟩
 ·obtain ⟨hv,hl⟩:=gT_ok.val d g1 g3 g2 t ht
  have e:tkT t=((t.r:Int),⟨t.bs.toArray⟩):=by unfold tkT; rw [zdi hv]; rfl
  exact zut (.inl hv) (by unfold zfH zim; rw [e]; exact hl) c hc
 ·have e1:∀ g,mkO g d=[v]:=fun g=>by unfold mkO; rw [g1,g4,ziE g3]; rfl
  rw [e1,List.mem_singleton] at ht
  subst ht
  have hm:t∈zio u:=by
   rw [zkP u (by omega)]
   exact List.mem_flatMap.2 ⟨d,hd,by rw [e1]; exact List.mem_singleton.2 rfl⟩
  exact zut g3 (zoI _ _ (zu2 h).1 _ (List.mem_map.2 ⟨t,hm,rfl⟩)) c hc
theorem znR:∀ {ts:List Tok},(∀ t∈ts,t.bs.length≤4)→(zbp ts).length≤4*ts.length
 | [],_=>Nat.le_refl _
 | t::ts,h=>by
  have h1:=h t (List.mem_cons_self ..)
  have h2:=znR fun u hu=>h u (List.mem_cons_of_mem _ hu)
  rw [zch,List.length_append,List.length_cons]; omega
theorem zrR {f g:Itm×List Itm→List Tok}:∀ {l:List (Itm×List Itm)},(∀ c∈l,(f c).length≤(g c).length)→(l.flatMap f).length≤(l.flatMap g).length
 | [],_=>Nat.le_refl _
 | c::l,h=>by
  have h1:=h c (List.mem_cons_self ..)
  have h2:=zrR fun u hu=>h u (List.mem_cons_of_mem _ hu)
  rw [List.flatMap_cons,List.flatMap_cons,List.length_append,List.length_append]; omega
theorem zvs (c:Itm×List Itm):(mkO gT c).length≤(mkO gA c).length:=by
 unfold mkO
 split
 ·rw [List.length_map,List.length_map]
  have h1:=zhR ((loI c.2).map (·.Rune)) (c.1.Rune,[],true)
  have h2:=zhR ((hiI c.2).map (·.Rune)) ((((loI c.2).map (·.Rune)).foldl tgS (c.1.Rune,[],true)).1,(((loI c.2).map (·.Rune)).foldl tgS (c.1.Rune,[],true)).2.1,true)
  have h3:=zhU c.2
  have h4:=zky c
  rw [List.length_append] at h3
  simp only [List.length_map,List.length_nil] at h1 h2
  unfold gT gA
  rw [List.length_map,List.length_cons]
  show _+1≤_
  omega
 ·exact Nat.le_refl _
theorem zkw {u:zBA} (h:SpU u):(zie u).size≤32:=by
 have hs:=ziv h
 have hk:=(zu2 h).1
 have h8:=zmE _ 0 (by omega) hk
 have hl:(zif u).length=(zio u).length:=by unfold zif; rw [List.length_map]
 rw [hl,zkP u (by omega)] at h8
 have h2:=zrR (l:=clT (zdP u.data.toList)) (f:=mkO gT) (g:=mkO gA) (fun c _=>zvs c)
 have h3:(zbp ((clT (zdP u.data.toList)).flatMap (mkO gT))).length≤4*((clT (zdP u.data.toList)).flatMap (mkO gT)).length:=znR fun t ht=>by
  obtain ⟨d,hd,ht⟩:=List.mem_flatMap.1 ht
  rcases zkG (ze3 _) d hd with ⟨g1,g2,g3⟩ | ⟨g1,g2,v,g3,g4⟩
  ·exact zgW (.inl (gT_ok.val d g1 g3 g2 t ht).1)
  ·have e1:mkO gT d=[v]:=by unfold mkO; rw [g1,g4,ziE g3]; rfl
   rw [e1,List.mem_singleton] at ht
   rw [ht]; exact zgW g3
 rw [zbY,zjG u (by omega)]
 omega
def zog (w:List UInt8):Prop:=w≠[]∧w.length≤32∧∀ c∈w,65≤c.toNat
theorem zmO {w:List UInt8} (h:zog w) {c:UInt8} (hc:c∈w):c≠32∧c≠10:=by
 have:=h.2.2 c hc
 exact ⟨fun e=>by rw [e] at this; exact absurd this (by decide),fun e=>by rw [e] at this; exact absurd this (by decide)⟩
theorem zri:∀ (w l:List UInt8) (i a:Nat) (v:List UInt8),(∀ c∈w,c≠32)→wdK (w++l) i (some (a,v))=wdK l (i+w.length) (some (a,v++w))
 | [],l,i,a,v,_=>by rw [List.nil_append,List.append_nil]; rfl
 | c::w,l,i,a,v,h=>by
  rw [List.cons_append,zrj (h c (List.mem_cons_self ..)),zri w l _ a _ (fun d hd=>h d (List.mem_cons_of_mem _ hd)),List.length_cons,List.append_assoc,show i+1+w.length=i+(w.length+1) by omega]
  rfl
theorem zpe {w:List UInt8} (hn:w≠[]) (h:∀ c∈w,c≠32) (l:List UInt8) (i:Nat):wdK (w++l) i none=wdK l (i+w.length) (some (i,w)):=by
 cases w with
 | nil=>exact absurd rfl hn
 | cons c w =>
  rw [List.cons_append,zop (h c (List.mem_cons_self ..)),zri w l _ i _ (fun d hd=>h d (List.mem_cons_of_mem _ hd)),List.length_cons,show i+1+w.length=i+(w.length+1) by omega]
  rfl
theorem zpf:∀ (ws:List (List UInt8)) (i a:Nat) (v:List UInt8),(∀ w∈ws,zog w)→(wdK (ws.flatMap (32 :: ·)) i (some (a,v))).map (·.2)=v::ws
 | [],i,a,v,_=>rfl
 | w::ws,i,a,v,h=>by
  have hw:=h w (List.mem_cons_self ..)
  rw [List.flatMap_cons,List.cons_append,zrh,zpe hw.1 (fun c hc=>(zmO hw hc).1)]
  show v::(wdK _ _ _).map (·.2)=_
  rw [zpf ws _ _ _ fun x hx=>h x (List.mem_cons_of_mem _ hx)]
theorem ztf {v:List UInt8} (hv:zog v) {ws:List (List UInt8)} (h:∀ w∈ws,zog w):(wdK (v++ws.flatMap (32 :: ·)) 0 none).map (·.2)=v::ws:=by
 rw [zpe hv.1 (fun c hc=>(zmO hv hc).1),zpf ws _ _ _ h]
def nT (put:Bool) (i:Nat) (w:zBA):zBA:=if i=0 then w else if put=true∧i=2 then zmf else zie (zdG w)
def nTs (put:Bool):Nat→List Wd→List zBA
 | _,[]=>[]
 | i,w::ws=>nT put i w.text::nTs put (i+1) ws
theorem zpM (put:Bool):∀ (l:List Wd) (i:Nat) (f:List zBA) (s:zBA),0<i→fmS put i l=.inr (f,s)→s.data.toList=((nTs put i l).map fun t=>t.data.toList).flatMap (32 :: ·)
 | [],i,f,s,_,h=>by injection h with h; injection h with h1 h2; rw [← h2]; rfl
 | w::l,i,f,s,hi,h=>by
  rw [fmS] at h
  have hi0:¬ i=0:=by omega
  rw [nTs,List.map_cons,List.flatMap_cons]
  cases hr:fmS put (i+1) l with
  | inl a =>
   rw [hr] at h
   split at h
   ·cases h
   ·split at h <;> cases h
  | inr fs =>
   obtain ⟨f',s'⟩:=fs
   have ih:=zpM put l (i+1) f' s' (by omega) hr
   rw [hr] at h
   rw [← ih]
   by_cases hc:put=true∧i=2
   ·rw [if_pos (.inr hc)] at h
    injection h with h; injection h with h1 h2
    rw [← h2,if_neg hi0,zgF]
    unfold nT
    rw [if_neg hi0,if_pos hc]
   ·rw [if_neg (by rintro (h | h); exact hi0 h; exact hc h)] at h
    split at h
    ·cases h
    ·injection h with h; injection h with h1 h2
     rw [← h2,zgF,zgF]
     unfold nT
     rw [if_neg hi0,if_neg hc]; rfl
theorem znQ (put:Bool):∀ (l l':List Wd) (i:Nat) (f:List zBA) (s:zBA),(∀ w∈l,w.text.size≤65536)→l'.map (·.text)=nTs put i l→fmS put i l=.inr (f,s)→fmS put i l'=.inr (f,s)
 | [],[],i,f,s,_,_,h=>h
 | [],w'::l',i,f,s,_,e,h=>by cases e
 | w::l,[],i,f,s,_,e,h=>by cases e
 | w::l,w'::l',i,f,s,hw,e,h=>by
  rw [List.map_cons,nTs] at e
  injection e with e1 e2
  rw [fmS] at h ⊢
  cases hr:fmS put (i+1) l with
  | inl a =>
   rw [hr] at h
   split at h
   ·cases h
   ·split at h <;> cases h
  | inr fs =>
   obtain ⟨f',s'⟩:=fs
   rw [znQ put l l' (i+1) f' s' (fun x hx=>hw x (List.mem_cons_of_mem _ hx)) e2 hr]
   rw [hr] at h
   by_cases hc:i=0∨(put=true∧i=2)
   ·rw [if_pos hc] at h ⊢; exact h
   ·rw [if_neg hc] at h ⊢
    by_cases hn:zdG w.text=zfv
    ·rw [if_pos hn] at h; cases h
    ·rw [if_neg hn] at h
     have hsp:=zmw _ (hw w (List.mem_cons_self ..)) hn
     have e3:w'.text=zie (zdG w.text):=by
      rw [e1]
      unfold nT
      rw [if_neg (fun h=>hc (.inl h)),if_neg (fun h=>hc (.inr h))]
     rw [e3,zuk hsp,if_neg hn]; exact h
theorem zpw (put:Bool):∀ (l:List Wd) (i:Nat) (f:List zBA) (s:zBA),0<i→(∀ w∈l,w.text.size≤65536)→fmS put i l=.inr (f,s)→∀ t∈nTs put i l,zog t.data.toList
 | [],i,f,s,_,_,_,t,ht=>by cases ht
 | w::l,i,f,s,hi,hw,h,t,ht=>by
  rw [fmS] at h
  have hi0:¬ i=0:=by omega
  cases hr:fmS put (i+1) l with
  | inl a =>
   rw [hr] at h
   split at h
   ·cases h
   ·split at h <;> cases h
  | inr fs =>
   obtain ⟨f',s'⟩:=fs
   rw [nTs] at ht
   rcases List.mem_cons.1 ht with rfl | ht
   ·unfold nT
    rw [if_neg hi0]
    by_cases hc:put=true∧i=2
    ·rw [if_pos hc]
     exact ⟨by decide,by decide,by decide⟩
    ·rw [if_neg hc]
     rw [hr,if_neg (by rintro (h | h); exact hi0 h; exact hc h)] at h
     by_cases hn:zdG w.text=zfv
     ·rw [if_pos hn] at h; cases h
     ·have hsp:=zmw _ (hw w (List.mem_cons_self ..)) hn
      refine ⟨fun e=>zwI hsp (zhi e),by rw [← zbY]; exact zkw hsp,zro hsp⟩
   ·exact zpw put l (i+1) f' s' (by omega) (fun x hx=>hw x (List.mem_cons_of_mem _ hx)) hr t ht
theorem zoK (put:Bool):∀ (l:List Wd) (i:Nat),(nTs put i l).length=l.length
 | [],i=>rfl
 | w::l,i=>by rw [nTs,List.length_cons,List.length_cons,zoK put l]
theorem zrW (put:Bool):∀ (l:List Wd) (i k:Nat) (w:Wd),l[k]?=some w→(nTs put i l)[k]?=some (nT put (i+k) w.text)
 | [],i,k,w,h=>by simp at h
 | w'::l,i,0,w,h=>by injection h with h; subst h; rfl
 | w'::l,i,k+1,w,h=>by
  rw [nTs,List.getElem?_cons_succ,zrW put l (i+1) k w (by simpa using h),show i+1+k=i+(k+1) by omega]
theorem zk5 (o:zab):∀ (fs:List zBA) (i:Nat) (l l':List Wd),l'.length=l.length→ziD o i fs l=none→ziD o i fs l'=none
 | [],i,l,l',_,_=>by cases l' <;> rfl
 | f::fs,i,l,[],_,_=>rfl
 | f::fs,i,[],w'::l',e,_=>by cases e
 | f::fs,i,w::l,w'::l',e,h=>by
  rw [ziD] at h ⊢
  by_cases hc:1<i∧f≠zfv∧(zbK f o.place).isSome=false
  ·rw [if_pos hc] at h; cases h
  ·rw [if_neg hc] at h ⊢
   exact zk5 o fs (i+1) l l' (by simpa using e) h
theorem zpp:∀ {ws:List (List UInt8)},(∀ w∈ws,zog w)→(ws.flatMap (32 :: ·)).length≤33*ws.length∧∀ c∈ws.flatMap (32 :: ·),c≠10
 | [],_=>⟨Nat.le_refl _,fun c h=>by cases h⟩
 | w::ws,h=>by
  obtain ⟨h1,h2⟩:=zpp fun x hx=>h x (List.mem_cons_of_mem _ hx)
  have hw:=h w (List.mem_cons_self ..)
  have:=hw.2.1
  rw [List.flatMap_cons,List.length_append,List.length_cons,List.length_cons]
  refine ⟨by omega,fun c hc => ?_⟩
  rcases List.mem_append.1 hc with hc | hc
  ·rcases List.mem_cons.1 hc with rfl | hc
   ·decide
   ·exact (zmO hw hc).2
  ·exact h2 c hc
def zow (o:zab) (fs:List zBA) (s:zBA) (l:List Wd):zaJ×zab :=
 if (l.getD 0 w0).text=zll then
  (if (zbK (zfQ (fD fs 1)) o.skips).getD false=true then (⟨222,wAt l 1⟩,o) else (⟨0,0⟩,⟨o.units,o.place,o.fors,zgw (zfQ (fD fs 1)) true o.skips,o.lines++[ziZ l s]⟩))
 else if ztG o (fD fs 1)=true then (⟨222,wAt l 1⟩,o)
 else match ziD o 0 fs l with
  | some a=>(⟨223,a⟩,o)
  | none=>(⟨0,0⟩,if (l.getD 0 w0).text=zh1 then zxF o fs (ziZ l s) else ⟨o.units,o.place,zgw (fD fs 1) (fs.drop 2) o.fors,o.skips,o.lines++[ziZ l s]⟩)
theorem zl7 {o:zab} {l:List Wd} {e:Int} {fs:List zBA} {s:zBA} (h1:¬ o.lines.length=256) (h2:¬ 0≤zgJ l e) (hf:fmS (decide ((l.getD 0 w0).text=zh1)) 0 l=.inr (fs,s)):zf9 o l e=zow o fs s l:=by
 unfold zf9 zow
 rw [if_neg h1,if_neg h2,hf] <;> rfl
theorem zlX {o:zab} {l l':List Wd} {fs:List zBA} {s:zBA} (hok:(zow o fs s l).1.Err=0) (ht:(l'.getD 0 w0).text=(l.getD 0 w0).text) (hl:l'.length=l.length) :
  zow o fs s l'=(⟨0,0⟩,(zow o fs s l).2)∧(zow o fs s l).2.lines=o.lines++[ziZ l s]:=by
 have hs:ziZ l' s=ziZ l s:=by unfold ziZ; rw [ht]
 unfold zow at hok ⊢
 rw [ht,hs]
 by_cases hsk:(l.getD 0 w0).text=zll
 ·rw [if_pos hsk] at hok ⊢
  rw [if_pos hsk]
  by_cases hg:(zbK (zfQ (fD fs 1)) o.skips).getD false=true
  ·rw [if_pos hg] at hok; exact absurd hok (by show (222:Int)≠0; omega)
  ·rw [if_neg hg,if_neg hg]; exact ⟨rfl,rfl⟩
 ·rw [if_neg hsk] at hok ⊢
  rw [if_neg hsk]
  by_cases hu:ztG o (fD fs 1)=true
  ·rw [if_pos hu] at hok; exact absurd hok (by show (222:Int)≠0; omega)
  ·rw [if_neg hu] at hok ⊢
   rw [if_neg hu]
   cases hla:ziD o 0 fs l with
   | some a=>rw [hla] at hok; exact absurd hok (by show (223:Int)≠0; omega)
   | none =>
    rw [zk5 o fs 0 l l' hl hla]
    refine ⟨rfl,?_⟩
    show (ite _ _ _:zab).lines=_
    split <;> rfl
theorem zqD {o:zab} {l:List Wd} {e:Int} (he:0≤e) (h0:0<l.length) (ha:∀ w∈l,0≤w.at_) (hw:∀ w∈l,w.text.size≤65536) (hok:(zf9 o l e).1.Err=0) :
  ∃ sd:zBA,(zf9 o l e).2.lines=o.lines++[sd]∧sd.size≤250∧(∀ c∈sd.data.toList,c≠10)∧wdK sd.data.toList 0 none≠[] ∧
   ∀ (at_ e':Int),zf9 o ((wdK sd.data.toList 0 none).map (zfc at_)) e'=(⟨0,0⟩,(zf9 o l e).2):=by
 have h1:¬ o.lines.length=256:=fun h1=>by
  unfold zf9 at hok
  rw [if_pos h1] at hok; exact absurd hok (by show (3:Int)≠0; omega)
 have h2:¬ 0≤zgJ l e:=fun h2=>by
  unfold zf9 at hok
  rw [if_neg h1,if_pos h2] at hok; exact absurd hok (by show (220:Int)≠0; omega)
 have hsh:=ziC he ha h0 h2
 obtain ⟨fs,s,hf⟩:∃ fs s,fmS (decide ((l.getD 0 w0).text=zh1)) 0 l=.inr (fs,s):=by
  cases hf:fmS (decide ((l.getD 0 w0).text=zh1)) 0 l with
  | inl a =>
   unfold zf9 at hok
   rw [if_neg h1,if_neg h2,hf] at hok; exact absurd hok (by show (221:Int)≠0; omega)
  | inr fs=>exact ⟨fs.1,fs.2,rfl⟩
 have hT:=zl7 h1 h2 hf
 rw [hT] at hok ⊢
 cases l with
 | nil=>exact absurd h0 (by simp)
 | cons w ws =>
 have hw0:((w::ws).getD 0 w0)=w:=rfl
 rw [hw0] at hf hsh
 have hsh6:ws.length≤5:=by rw [List.length_cons] at hsh; omega
 obtain ⟨f',s',hr,hs'⟩:∃ f' s',fmS (decide (w.text=zh1)) 1 ws=.inr (f',s')∧s=zfv++s':=by
  have hf':=hf
  rw [fmS,if_pos (.inl rfl)] at hf'
  cases hr:fmS (decide (w.text=zh1)) (0+1) ws with
  | inl a=>rw [hr] at hf'; cases hf'
  | inr q =>
   obtain ⟨f',s'⟩:=q
   rw [hr] at hf'
   injection hf' with hf'
   injection hf' with e1 e2
   exact ⟨f',s',rfl,e2.symm⟩
 have hws:∀ x∈ws,x.text.size≤65536:=fun x hx=>hw x (List.mem_cons_of_mem _ hx)
 have hsd:(ziZ (w::ws) s).data.toList=w.text.data.toList++((nTs (decide (w.text=zh1)) 1 ws).map fun t=>t.data.toList).flatMap (32 :: ·):=by
  unfold ziZ
  rw [hw0,hs',zgF,zgF,zpM _ ws 1 f' s' (by omega) hr]; rfl
 have hgv:zog w.text.data.toList:=by
  rcases hsh with h | h | h <;> rw [h.1] <;> exact ⟨by decide,by decide,by decide⟩
 have hgs:∀ x∈(nTs (decide (w.text=zh1)) 1 ws).map fun t=>t.data.toList,zog x:=fun x hx=>by
  obtain ⟨t,ht,rfl⟩:=List.mem_map.1 hx
  exact zpw _ ws 1 f' s' (by omega) hws hr t ht
 have hwd:=ztf hgv hgs
 rw [← hsd] at hwd
 obtain ⟨q1,q2⟩:=zpp hgs
 rw [List.length_map,zoK] at q1
 refine ⟨ziZ (w::ws) s,(zlX (l':=w::ws) hok rfl rfl).2,?_,?_,?_,fun at_ e' => ?_⟩
 ·rw [zbY,hsd,List.length_append]
  have:=hgv.2.1
  omega
 ·intro c hc
  rw [hsd] at hc
  rcases List.mem_append.1 hc with hc | hc
  ·exact (zmO hgv hc).2
  ·exact q2 c hc
 ·intro hh; rw [hh] at hwd; cases hwd
 generalize hK:wdK (ziZ (w::ws) s).data.toList 0 none=K at hwd ⊢
 have hmap:(K.map (zfc at_)).map (·.text)=nTs (decide (w.text=zh1)) 0 (w::ws):=by
  have e1:(K.map (zfc at_)).map (·.text)=(K.map (·.2)).map ba:=by rw [List.map_map,List.map_map]; rfl
  have hb:∀ t:zBA,ba t.data.toList=t:=fun t=>zhi (zlm _)
  rw [e1,hwd,List.map_cons,List.map_map,hb,nTs]
  congr 1
  conv=>rhs; rw [← List.map_id (nTs (decide (w.text=zh1)) (0+1) ws)]
  exact List.map_congr_left fun t _=>hb t
 generalize K.map (zfc at_)=l' at hmap ⊢
 have hlen:l'.length=(w::ws).length:=by
  have:=congrArg List.length hmap
  rw [List.length_map,zoK] at this; exact this
 have hget:∀ k,k<(w::ws).length→(l'.getD k w0).text=nT (decide (w.text=zh1)) k ((w::ws).getD k w0).text:=fun k hk=>by
  have a1:=zrW (decide (w.text=zh1)) (w::ws) 0 k _ (zg0 (d:=w0) hk)
  rw [← hmap,List.getElem?_map,zg0 (d:=w0) (show k<l'.length by omega),Nat.zero_add] at a1
  injection a1
 have ht0:(l'.getD 0 w0).text=w.text:=(hget 0 h0).trans (if_pos rfl)
 have hlk:¬ 0≤zgJ l' e':=by
  have hshp:∀ a b,a≤(w::ws).length→(w::ws).length≤b→ziY l' e' a b=-1:=fun a b ha hb=>by
   unfold ziY
   rw [if_neg (by omega),if_neg (by omega)]
  have hval:zgJ l' e'=-1:=by
   unfold zgJ
   rw [ht0]
   rcases hsh with ⟨a1,a2,a3⟩ | ⟨a1,a2,a3⟩ | ⟨a1,a2⟩
   ·rw [if_pos a1]
    have h2t:(l'.getD 2 w0).text=zmf:=by
     rw [hget 2 (by omega)]
     unfold nT
     rw [if_neg (by omega),if_pos ⟨decide_eq_true a1,rfl⟩]
    rw [if_neg (fun h=>h.2 h2t)]
    exact hshp 4 4 (by omega) (by omega)
   ·rw [if_neg (by rw [a1]; decide),if_pos a1]
    exact hshp 3 6 (by omega) (by omega)
   ·rw [if_neg (by rw [a1]; decide),if_neg (by rw [a1]; decide),if_pos a1]
    exact hshp 2 2 (by omega) (by omega)
  omega
 have hf2:fmS (decide ((l'.getD 0 w0).text=zh1)) 0 l'=.inr (fs,s):=by
  rw [ht0]
  exact znQ _ (w::ws) l' 0 fs s hw hmap hf
 rw [zl7 h1 hlk hf2]
 exact (zlX hok ht0 hlen).1
def zxG (o:zab):List (List UInt8):=o.lines.map fun t=>t.data.toList
structure ztb (o:zab):Prop where
 rd:∀ at_,rdL ztA at_ (zxG o)=(some o,⟨0,0⟩)
 sz:∀ t∈o.lines,t.size≤250∧∀ c∈t.data.toList,c≠10
theorem zhT:∀ (xs ys:List (List UInt8)) (o o':zab) (at_:Int),rdL o at_ xs=(some o',⟨0,0⟩)→∃ at',rdL o at_ (xs++ys)=rdL o' at' ys
 | [],ys,o,o',at_,h=>by
  have h:(some o,(⟨0,0⟩:zaJ))=(some o',⟨0,0⟩):=h
  injection h with h
  injection h with h
  subst h
  exact ⟨at_,rfl⟩
 | x::xs,ys,o,o',at_,h=>by
  rw [List.cons_append]
  rw [rdL] at h ⊢
  by_cases h0:wdK x 0 none=[]
  ·rw [if_pos h0] at h ⊢; exact zhT xs ys _ _ _ h
  ·rw [if_neg h0] at h ⊢
   by_cases h1:(zf9 o ((wdK x 0 none).map (zfc at_)) (at_+(x.length:Int))).1.Err=0
   ·rw [if_pos h1] at h ⊢; exact zhT xs ys _ _ _ h
   ·rw [if_neg h1] at h
    injection h with h _
    cases h
theorem ztr {o:zab} (h:ztb o) {l:List Wd} {e:Int} (he:0≤e) (h0:0<l.length) (ha:∀ w∈l,0≤w.at_) (hw:∀ w∈l,w.text.size≤65536) (hok:(zf9 o l e).1.Err=0):ztb (zf9 o l e).2:=by
 obtain ⟨sd,e1,e2,e3,e4,e5⟩:=zqD he h0 ha hw hok
 generalize (zf9 o l e).2=o' at e1 e5 ⊢
 refine ⟨fun at_ => ?_,fun t ht => ?_⟩
 ·unfold zxG
  rw [e1,List.map_append]
  obtain ⟨at',h1⟩:=zhT (zxG o) [sd.data.toList] ztA o at_ (h.rd at_)
  refine h1.trans ?_
  rw [rdL,if_neg e4,e5,if_pos rfl]; rfl
 ·rw [e1] at ht
  rcases List.mem_append.1 ht with ht | ht
  ·exact h.sz t ht
  ·rw [List.mem_singleton.1 ht]; exact ⟨e2,e3⟩
theorem zrH:∀ (xs:List (List UInt8)) (o:zab) (at_:Int),ztb o→0≤at_→(∀ x∈xs,x.length≤65536)→∀ o' e,rdL o at_ xs=(some o',e)→ztb o'
 | [],o,at_,hi,_,_,o',e,h=>by
  have h:(some o,(⟨0,0⟩:zaJ))=(some o',e):=h
  injection h with h
  injection h with h
  rw [← h]; exact hi
 | x::xs,o,at_,hi,ha,hx,o',e,h=>by
  have hxl:=hx x (List.mem_cons_self ..)
  have next:=fun (o1:zab) (h':ztb o1)=>zrH xs o1 (at_+((x.length:Int)+1)) h' (by omega) (fun y hy=>hx y (List.mem_cons_of_mem _ hy)) o' e
  obtain ⟨w1,w2⟩:=zlR x 0 none
  rw [rdL] at h
  by_cases h0:wdK x 0 none=[]
  ·rw [if_pos h0] at h; exact next o hi h
  ·rw [if_neg h0] at h
   by_cases h1:(zf9 o ((wdK x 0 none).map (zfc at_)) (at_+(x.length:Int))).1.Err=0
   ·rw [if_pos h1] at h
    refine next _ (ztr hi (by omega) (by rw [List.length_map]; exact List.length_pos_iff.2 h0) (fun w hw => ?_) (fun w hw => ?_) h1) h
    ·obtain ⟨p,hp,rfl⟩:=List.mem_map.1 hw
     show 0≤at_+(p.1:Int)
     omega
    ·obtain ⟨p,hp,rfl⟩:=List.mem_map.1 hw
     show (ba p.2).size≤65536
     rw [ziJ]
     have:p.2.length≤x.length+0:=w1 p hp
     omega
   ·rw [if_neg h1] at h
    injection h with h _
    cases h
theorem zzo:ztb ztA:=⟨fun _=>rfl,fun t h=>by cases h⟩
theorem zqu (text:zBA):ztb (zk2 text):=by
 unfold zk2
 rcases zkY text with ⟨o,h,hi⟩ | ⟨e,h,he⟩
 ·rw [h]
  unfold zmA at h
  by_cases hl:65536<text.size
  ·rw [if_pos hl] at h
   injection h with h _
   cases h
  ·rw [if_neg hl] at h
   exact zrH _ _ _ zzo (Int.le_refl _) (fun x hx=>by have:=zmI text.data.toList [] x hx; rw [← zbY,List.length_nil] at this; omega) _ _ h
 ·rw [h]; exact zzo
def prS (o:zab):zBA:=ba (o.lines.flatMap fun t=>t.data.toList++[10])
theorem zpC:∀ (t r cur:List UInt8),(∀ c∈t,c≠10)→lns (t++10::r) cur=(cur++t)::lns r []
 | [],r,cur,_=>by rw [List.nil_append,lns,if_pos rfl,List.append_nil]
 | c::t,r,cur,h=>by
  rw [List.cons_append,lns,if_neg (h c (List.mem_cons_self ..)),zpC t r _ (fun d hd=>h d (List.mem_cons_of_mem _ hd)),List.append_assoc]; rfl
theorem znG:∀ (ts:List zBA),(∀ t∈ts,∀ c∈t.data.toList,c≠10)→lns (ts.flatMap fun t=>t.data.toList++[10]) []=(ts.map fun t=>t.data.toList)++[[]]
 | [],_=>rfl
 | t::ts,h=>by
  rw [List.flatMap_cons,List.append_assoc,List.singleton_append,zpC _ _ _ (h t (List.mem_cons_self ..)),znG ts fun u hu=>h u (List.mem_cons_of_mem _ hu)]; rfl
theorem zvb {o:zab} (hi:InvO o) (h:ztb o):(prS o).size≤65000:=by
 unfold prS
 rw [ziJ]
 have key:∀ ts:List zBA,(∀ t∈ts,t.size≤250)→(ts.flatMap fun t=>t.data.toList++[10]).length≤251*ts.length:=by
  intro ts
  induction ts with
  | nil=>intro _; exact Nat.le_refl _
  | cons t ts ih =>
   intro h
   have h1:=h t (List.mem_cons_self ..)
   have h2:=ih fun u hu=>h u (List.mem_cons_of_mem _ hu)
   have hc:(t::ts).length=ts.length+1:=rfl
   rw [List.flatMap_cons,List.length_append,List.length_append,hc,← zbY]
   show t.size+1+_≤_
   omega
 have:=key o.lines fun t ht=>(h.sz t ht).1
 have:=hi.ll
 omega
theorem zqo {o:zab} (hi:InvO o) (h:ztb o):zmA (prS o)=(some o,⟨0,0⟩):=by
 have hsz:=zvb hi h
 unfold zmA
 rw [if_neg (by omega)]
 have e:(prS o).data.toList=o.lines.flatMap fun t=>t.data.toList++[10]:=zlm _
 rw [e,znG _ fun t ht=>(h.sz t ht).2]
 obtain ⟨at',h1⟩:=zhT (zxG o) [[]] ztA o 0 (h.rd 0)
 exact h1
theorem zrM {o:zab} (hi:InvO o) (h:ztb o):zcP o=some (prS o):=by
 have hll:=hi.ll
 unfold zcP
 refine zb8 ?_
 have:=zrZ (xs:=o.lines) (F:=zbV o some) (bot:=fun _ _=>none) (f:=fun b (t:zBA)=>b++(t++(⟨#[10]⟩:zBA))) (J:=some) (fun k b=>b.size≤251*k) (fun ag k x a hx hb=>by
   have hk:=(List.getElem?_eq_some_iff.1 hx).1
   have hs:=(h.sz x (List.mem_of_getElem? hx)).1
   unfold zbV
   exact zaL (zlD hx) (zaR (zht hx) (zct (by show x.size+1≤_; omega) (zct (by rw [ByteArray.size_append]; show _+(x.size+1)≤_; omega) (zct (zf8 (by omega)) rfl))))) (fun k x a hx hb=>by
   have hs:=(h.sz x (List.mem_of_getElem? hx)).1
   rw [ByteArray.size_append,ByteArray.size_append]
   show a.size+(x.size+1)≤251*(k+1)
   omega) (fun ag a _=>by unfold zbV; exact zaF zlE rfl) (n:=zcG) (zfs (by omega)) (a:=(⟨#[]⟩:zBA)) (Nat.zero_le _)
 refine this.trans ?_
 congr 1
 apply zhi
 unfold prS
 rw [zlm]
 have key:∀ (ts:List zBA) (b:zBA),(ts.foldl (fun b (t:zBA)=>b++(t++(⟨#[10]⟩:zBA))) b).data.toList=b.data.toList++ts.flatMap fun t=>t.data.toList++[10]:=by
  intro ts
  induction ts with
  | nil=>intro b; simp
  | cons t ts ih=>intro b; rw [List.foldl_cons,ih,zgF,zgF,List.flatMap_cons,List.append_assoc]
 rw [key]; rfl
theorem zxb (c p:zBA):zdy c p=some (decide (c.data.toList.take p.size=p.data.toList)):=by
 unfold zdy zcw
 have e:=zhG c 0 p.size
 rw [List.drop_zero,Nat.sub_zero] at e
 by_cases h:p.size≤c.size
 ·refine zaR (zaL (decide_eq_true (by omega)) (zct ⟨by omega,by omega,by omega⟩ rfl)) ?_
  congr 1
  by_cases h2:c.data.toList.take p.size=p.data.toList
  ·rw [decide_eq_true h2]
   exact decide_eq_true (zhi (e.trans h2))
  ·rw [decide_eq_false h2]
   exact decide_eq_false fun hh=>h2 (by rw [← e]; exact congrArg (fun b:zBA=>b.data.toList) hh)
 ·refine zaR (zaF (decide_eq_false (by omega)) rfl) ?_
  congr 1
  refine (decide_eq_false fun hh => ?_).symm
  have:=congrArg List.length hh
  rw [List.length_take,← zbY,← zbY] at this
  omega
theorem zx4 {s:zBA} {A ts:List Tok} {t:Tok} (h:zdP s.data.toList=A++t::ts):∃ p:Pc,(pcs s.data.toList)[A.length]?=some p∧p.i=(zbp A).length∧p.r=t.r:=by
 have h1:=zij (zdP s.data.toList) 0 A.length t (by rw [h]; simp)
 have hA:(zdP s.data.toList).take A.length=A:=by rw [h]; simp
 rw [← zka,List.getElem?_map,hA,Nat.zero_add] at h1
 cases hp:(pcs s.data.toList)[A.length]? with
 | none=>rw [hp] at h1; cases h1
 | some p =>
  rw [hp] at h1
  injection h1 with h1
  have e1:=congrArg (fun q:zam=>q.At) h1
  have e2:=congrArg (fun q:zam=>q.Rune) h1
  have e1:(p.i:Int)=((zbp A).length:Int):=e1
  have e2:(p.r:Int)=(t.r:Int):=e2
  exact ⟨p,rfl,by omega,by omega⟩
theorem zvP (s:zBA) (hs:s.size≤2147483648):∀ (n:Nat) (ts A:List Tok),zdP s.data.toList=A++ts→ts.length<n →
  zaU (fun _=>none) (zcQ s) n A.length=some (pL (zbp A).length ts):=by
 intro n
 induction n with
 | zero=>intro ts A _ h; omega
 | succ n ih =>
  intro ts A hT hn
  rw [zfO]
  generalize hag:zaU (fun _=>none) (zcQ s) n=ag
  unfold zcQ
  have hlen:(pcs s.data.toList).length=A.length+ts.length:=by
   rw [← List.length_append,← hT,← zgp (zdP s.data.toList) 0,← zka,List.length_map]
  cases ts with
  | nil=>exact zaF (decide_eq_false (by rw [hlen]; simp)) rfl
  | cons t ts =>
   have htok:zeW t:=ze3 s.data.toList t (by rw [hT]; simp)
   obtain ⟨p,hp,hi,hr⟩:=zx4 hT
   have hfl:s.data.toList=zbp A++(t.bs++zbp ts):=by rw [← zfI s.data.toList,hT,zbh,zch]
   have hsz:s.size=(zbp A).length+(t.bs.length+(zbp ts).length):=by rw [zbY,hfl,List.length_append,List.length_append]
   have hT':zdP s.data.toList=(A++[t])++ts:=by rw [hT,List.append_assoc]; rfl
   have nx:=ih ts (A++[t]) hT' (by rw [List.length_cons] at hn; omega)
   rw [hag,show (A++[t]).length=A.length+1 by simp,show (zbp (A++[t])).length=(zbp A).length+t.bs.length by rw [zbh,List.length_append]; simp [zbp]] at nx
   have go:∀ (w:Int) (b:Bool),w=(t.bs.length:Int)→b=t.broken→(zm3 (⟨(p.i:Int),w,(p.r:Int),b⟩:zam)<|ag (A.length+1))=some (pL (zbp A).length (t::ts)):=fun w b hw hb=>by
    rw [nx,hi,hr,hw,hb]; rfl
   have henc:t.broken=false→(Utf8.encode (t.r:Int)).size=t.bs.length:=fun hb=>by
    rcases htok with h | h
    ·rw [zbY,zcT,← h.2]
    ·rw [h] at hb; cases hb
   refine zaL (decide_eq_true (by rw [hlen]; simp)) (zaR hp (zb8 ?_))
   by_cases h5:t.r=65533
   ·refine zaL (by rw [hr,h5]; rfl) (zct ⟨by omega,by omega,by omega⟩ (zaR (zxb _ _) ?_))
    have hcut:(zcz s (p.i:Int) (s.size:Int)).data.toList=t.bs++zbp ts:=by rw [hi]; exact zmc hfl
    rw [hcut]
    cases hb:t.broken with
    | true =>
     have hbl:t.bs.length=1:=by have:=hb; unfold Tok.broken at this; simp at this; exact this.2
     have hno:¬ (t.bs++zbp ts).take 3=[239,191,189]:=fun hh=>by
      have hg:zdP (t.bs++zbp ts)=t::ts:=by
       have:=zhx (a:=A) (ts:=t::ts) (by rw [← hT]; exact zk9 _)
       rw [← zch]; exact this
      have hv:=zlT (t:=zhQ 65533) (zfW (by unfold vr; omega)) ((t.bs++zbp ts).drop 3)
      have hbs:(zhQ 65533).bs=[239,191,189]:=by decide
      rw [hbs,← hh,List.take_append_drop,hg] at hv
      injection hv with hv _
      rw [hv] at hbl
      rw [hbs] at hbl
      exact absurd hbl (by decide)
     refine zaL ?_ (go 1 true (by omega) hb.symm)
     show (!decide ((t.bs++zbp ts).take 3=[239,191,189]))=true
     rw [decide_eq_false hno]; rfl
    | false =>
     have hbs:t.bs=[239,191,189]:=by
      rcases htok with h | h
      ·rw [h.2,h5]; decide
      ·rw [h] at hb; cases hb
     refine zaF ?_ (go _ false (by rw [hr,henc hb]) hb.symm)
     show (!decide ((t.bs++zbp ts).take 3=[239,191,189]))=false
     rw [hbs]
     rfl
   ·have hb:t.broken=false:=by
     cases hb:t.broken with
     | false=>rfl
     | true=>unfold Tok.broken at hb; simp at hb; exact absurd hb.1 h5
    exact zaF (beq_eq_false_iff_ne.2 (by omega)) (go _ false (by rw [hr,henc hb]) hb.symm)
theorem zzM (s:zBA) (hs:s.size≤2147483648):zeo s=some (pL 0 (zdP s.data.toList)):=by
 unfold zeo
 have hl:=zhP s
 exact zvP s hs zcG (zdP s.data.toList) [] rfl (by unfold zcG; omega)
def upT (t:Tok):zBA:=if zfH (tkT t) then (if t.r=223 then ⟨#[83,83]⟩ else Utf8.encode (zoq (t.r:Int))) else (tkT t).2
theorem zrl (S:zBA) (hS:S.size≤1000000000):∀ (ts A:List Tok) (b:zBA) (led:Bool),S.data.toList=zbp (A++ts)→(∀ t∈ts,zeW t)→b.size+4*ts.length≤100000000000 →
  zb4 (fun (b10:zBA) (led3:Bool)=>(some b10:Option zBA)) (zbm S) (pL (zbp A).length ts) b led=some (b++J upT ts)
 | [],A,b,led,_,_,_=>by
  rw [pL,zfY]
  show some b=some (b++ByteArray.empty)
  rw [ByteArray.append_empty]
 | t::ts,A,b,led,hd,hok,hb=>by
  have ht:=hok t (List.mem_cons_self ..)
  have hlen:(zbp A).length+(t.bs.length+(zbp ts).length)=S.size:=by rw [zbY,hd,zbh,zch,List.length_append,List.length_append]
  have e:(zbp A).length+t.bs.length=(zbp (A++[t])).length:=by rw [zbh,List.length_append]; simp [zbp]
  rw [List.length_cons] at hb
  have next:∀ (x:zBA) (led':Bool),x.size≤4→x=upT t→zb4 (fun (b10:zBA) (led3:Bool)=>(some b10:Option zBA)) (zbm S) (pL ((zbp A).length+t.bs.length) ts) (b++x) led'=some (b++J upT (t::ts)):=fun x led' hx hx2=>by
   rw [e,zrl S hS ts (A++[t]) (b++x) led' (by rw [hd,List.append_assoc]; rfl) (fun y hy=>hok y (List.mem_cons_of_mem _ hy)) (by rw [ByteArray.size_append]; omega),zdo,hx2,ByteArray.append_assoc]
  rw [pL,zbQ]
  generalize hag:zb4 (fun (b10:zBA) (led3:Bool)=>(some b10:Option zBA)) (zbm S) (pL ((zbp A).length+t.bs.length) ts)=ag at next ⊢
  unfold zbm
  have fin:∀ (x:zBA),x.size≤4→x=upT t→(zat (((zbr (pT (zbp A).length t).Broken (pT (zbp A).length t).Rune):Int) != 2) (ag (b++x) (((zbr (pT (zbp A).length t).Broken (pT (zbp A).length t).Rune):Int)==1)) (ag (b++x) led))=some (b++J upT (t::ts)):=fun x hx hx2=>by
   cases hk:(((zbr (pT (zbp A).length t).Broken (pT (zbp A).length t).Rune):Int) != 2) with
   | true=>exact zaL rfl (next x _ hx hx2)
   | false=>exact zaF rfl (next x _ hx hx2)
  refine zb8 (zct ⟨by show _≤((zbp A).length:Int)+(t.bs.length:Int); omega,by show ((zbp A).length:Int)+(t.bs.length:Int)≤_; omega⟩ (zct (zeP ht) ?_))
  have hq:(pT (zbp A).length t).At+(pT (zbp A).length t).Width=(((zbp A).length+t.bs.length:Nat):Int):=by
   show ((zbp A).length:Int)+(t.bs.length:Int)=_; push_cast; rfl
  have hk1:(((zbr (pT (zbp A).length t).Broken (pT (zbp A).length t).Rune):Int)==1)=zfH (tkT t):=by
   show ((zbr t.broken (t.r:Int):Int)==1)=_
   rw [zjb,zgb]
  cases hl:zfH (tkT t) with
  | true =>
   refine zaL (hk1.trans hl) ?_
   rw [hq]
   refine zct ⟨by omega,by omega,by omega⟩ ?_
   have hup:upT t=if t.r=223 then ⟨#[83,83]⟩ else Utf8.encode (zoq (t.r:Int)):=by unfold upT; rw [hl]; rfl
   have h4:(upT t).size≤4:=by
    rw [hup]
    split
    ·decide
    ·exact zdl _
   refine zaR (a:=upT t) ?_ (zct (by omega) (fin _ h4 rfl))
   unfold zei
   rw [hup]
   by_cases h223:t.r=223
   ·rw [if_pos h223]
    exact zaL (by show ((t.r:Int)==223)=true; rw [h223]; rfl) rfl
   ·rw [if_neg h223]
    exact zaF (beq_eq_false_iff_ne.2 (by show (t.r:Int)≠223; omega)) (zct (zeP ht) rfl)
  | false =>
   refine zaF (hk1.trans hl) ?_
   have hup:upT t=(tkT t).2:=by unfold upT; rw [hl]; rfl
   have hcut:zcz S (pT (zbp A).length t).At (((zbp A).length+t.bs.length:Nat):Int)=(tkT t).2:=by
    have:=zm2 (s:=S) (A:=A) (W:=[t]) (Z:=ts) (by rw [hd]; rfl) rfl (b:=(zbp A).length+t.bs.length) (by simp [zbp])
    rw [show (pT (zbp A).length t).At=((zbp A).length:Int) from rfl,this]
    show J (·.2) [tkT t]=_
    rw [zdo,zlu,ByteArray.append_empty]
   have hsz:=zgW ht
   have hs4:(tkT t).2.size≤4:=by rw [zbY]; show t.bs.toArray.toList.length≤4; simpa using hsz
   rw [hq,hcut]
   exact zct ⟨by show (0:Int)≤((zbp A).length:Int); omega,by show ((zbp A).length:Int)≤_; omega,by omega⟩ (zct (by omega) (fin _ hs4 hup.symm))
def upS (s:zBA):zBA:=J upT (zdP s.data.toList)
theorem zuV (s:zBA) (hs:s.size≤1000000000):zd4 s=some (upS s):=by
 have hl:=zhP s
 unfold zd4 zdg
 refine zaR (zb8 (zaR (a:=s) rfl (zaR (zzM s (by omega)) (zb8 ?_)))) rfl
 have:=zrl s hs (zdP s.data.toList) [] ByteArray.empty false (by rw [List.nil_append,zfI]) (ze3 _) (by show 0+_≤_; omega)
 rw [ByteArray.empty_append] at this
 exact this
def zbI (c0:zab) (ag1:Int→Option (List zBA)) (x3:Int):Option (List zBA) := zat (decide ((x3:Int)<(c0.units.length:Int))) ( zak (zd7 c0.units x3) fun (q1:zBA) => zak (zc8 q1) fun (r1:zBA) => zm3 r1 <| grd (I64 (x3+1)) <| ag1 (x3+1)
) ( some []
)
def zcA (c0:zab):Option (List zBA) := zaU (fun _=>none) (zbI c0) zcG 0
theorem ze0 {b_c0 p_c0:Nat} {c0:zab} {c0_h0 c0_h1 c0_h2 c0_h3 c0_h4:Hd} {xs:(List zBA)} (h:zcA c0=some xs):ItrR prog 39 [zP b_c0] (fun q:zBA=>[.string q]) xs [cells b_c0 [zP p_c0] 23,cells p_c0 [c0_h0.v,.map (some (zaw c0_h1)),.map (some (zaw c0_h2)),.map (some (zaw c0_h3)),c0_h4.v] 79,zv0 c0_h0.v c0.units,za5 (fun n:zBA=>Value.string n) (fun n:Int=>Value.int .i64 n) (zaw c0_h1) c0.place,zbe (zaw c0_h2) c0.fors,za5 (fun n:zBA=>Value.string n) (fun n:Bool=>Value.bool n) (zaw c0_h3) c0.skips,zv0 c0_h4.v c0.lines]:=by
 unfold zcA at h
 refine ItrR.intro func39 rfl ntmps39 (by simp) ?_
 intro l w0 K I X hrd hy
 obtain ⟨r0,hx0⟩:∃ r,xs=[]++r:=⟨xs,rfl⟩
 have hr0:xs=r0:=hx0
 rw [hr0] at h
 refine zaM (zyG (zc2 (i:=0) hrd rfl zix rfl dc rfl rfl (zaW rfl (zfE underlying23) (zyN (za3 rfl (zaq (zaG (zyG (zc2 (i:=0) hrd rfl zix rfl dc rfl rfl (za1 rfl dc rfl ?_))))))))))
 refine zag ziF rfl dc rfl (show _=0 from rfl) (zc2 (i:=1) hrd rfl zgY rfl dc rfl rfl (zcs (hrd.vw (i:=2) rfl) rfl dc rfl underlying38 (zyR 1 rfl (zyN (zaA ?_)))))
 refine zbS (β:=Nat×Int×(List zBA)×(List zBA)) (fun b=>zaU (fun _=>none) (zbI c0) b.1 b.2.1=some b.2.2.2∧xs=b.2.2.1++b.2.2.2) (fun b=>[]) (fun b=>[(0,.func (.yield l) #[] #[]),(10,c0_h0.v),(11,zI (c0.units.length:Int)),(12,zI b.2.1)]) (fun b=>[I b.2.2.1]) (fun b=>b.1) (zcG,0,([]:List zBA),r0) ⟨h,hx0⟩ rfl (za9 rfl) (zaa [0] kr rfl) ?_
 rintro ⟨n1,x3,acc3,rr3⟩ ⟨h,hx3⟩
 cases n1 with
 | zero=>exact zez h
 | succ n1 =>
  obtain ⟨ag1,hag1⟩:∃ ag,ag=zaU (fun _=>none) (zbI c0) n1:=⟨_,rfl⟩
  have h:zbI c0 ag1 x3=some rr3:=by rw [hag1]; exact h
  unfold zbI at h
  refine zyG (zaW rfl zbE (zyN (zaM ?_)))
  refine zyB rfl h (fun h => ?_) (fun h => ?_)
  ·
   refine zaq (zaG (zaM (zaA (zyG ?_))))
   obtain ⟨q1,hq1,h⟩:=zbx h
   refine zbc (hrd.vw (i:=2) rfl) hq1 underlying38 ziS rfl dc rfl rfl rfl (zhL (n:=0+(x3:Int).toNat) (j:=0) (i:=2) (q:=q1) hrd rfl ze4 zcq rfl dc rfl (Vw.get (hrd.vw (i:=2) rfl) hq1) rfl dc rfl (zyR 1 rfl (zyH (zyR 2 rfl ?_))))
   obtain ⟨r1,hq2,h⟩:=zbx h
   refine zaQ (v:=.string r1) (vs:=[.string q1]) rfl dc rfl rfl rfl zvJ (zfP hq2) ?_
   obtain ⟨rr4,hr1,h⟩:=zo5 h
   have hx4:xs=acc3++r1::rr4:=by rw [hx3,hr1]
   refine zg8 hy rfl dc rfl hx4 rfl (k:=0) rfl ?_ ?_
   ·
    have hx5:xs=(acc3++[r1])++rr4:=by rw [hx4]; simp
    refine zgG rfl dc rfl zeS (zyN (za3 rfl (zaq (zae (zaG (zao ?_))))))
    obtain ⟨hg1,h⟩:=zcg h
    refine zaW rfl (zbi (r:=x3+1) (IntWalk.i64_in _ hg1)) (zyR 1 rfl (zaE ?_))
    subst hag1
    exact zbv (n1,x3+1,acc3++[r1],rr4) ⟨h,hx5⟩ (Nat.lt_succ_self _) rfl (za9 rfl) (zaa [0] kr rfl)
   refine zgG rfl dc rfl zeS (zyN (zcf rfl (zaD (zal (zai (zai (zal ?_)))))))
   exact ziL (ds:=[]) acc3 r1 rr4 hx4 (.inl rfl) Splits.nil results39 (zaa [0] kr rfl)
  refine zbG (zap (zap (zaI ?_)))
  cases h
  exact zj2 (ds:=[]) (.inr rfl) Splits.nil results39 (congrArg I (hx3.trans (List.append_nil _))) (zaa [0] kr rfl)
def zdM (o1:zab):Option Unit := some ()
theorem zfw {bo1:Nat} {o1:zab} {o1_h0 o1_h1 o1_h2 o1_h3 o1_h4:Hd} {r:Unit} (h:zdM o1=some r):FnR prog 15 [zP bo1] [cells bo1 [o1_h0.v,.map (some (zaw o1_h1)),.map (some (zaw o1_h2)),.map (some (zaw o1_h3)),o1_h4.v] 79,zv0 o1_h0.v o1.units,za5 (fun n:zBA=>Value.string n) (fun n:Int=>Value.int .i64 n) (zaw o1_h1) o1.place,zbe (zaw o1_h2) o1.fors,za5 (fun n:zBA=>Value.string n) (fun n:Bool=>Value.bool n) (zaw o1_h3) o1.skips,zv0 o1_h4.v o1.lines] [] (fun v0:Nat=>.func (.func 39) #[] #[zP v0]) (fun v0=>[cells v0 [zP bo1] 23]):=by
 unfold zdM at h
 refine FnR.intro func15 rfl ntmps15 (by simp) ?_
 intro w0 K hrd
 refine zyG ?_
 refine zeb rfl dc rfl (fun b1 => ?_)
 refine zyR 1 rfl (zyH (zfB (x1:=[]) (x2:=[.tmp 1]) rfl dc rfl rfl (zyR 1 rfl (zyN (zaD ?_)))))
 cases h
 exact zcu (rs:=[.tmp 2]) b1 (.inl rfl) results15 (.cons (.tmp rfl) .nil) rfl (zaa [0] kr rfl)
theorem zuU {o:zab} (hi:InvO o):∀ (n:Nat) (us A:List zBA),o.units=A++us→us.length<n →
  zaU (fun _=>none) (zbI o) n (A.length:Int)=some (us.map zie):=by
 intro n
 induction n with
 | zero=>intro us A _ h; omega
 | succ n ih =>
  intro us A hU hn
  have hul:=hi.ul; have hll:=hi.ll
  rw [zfO]
  generalize hag:zaU (fun _=>none) (zbI o) n=ag
  unfold zbI
  cases us with
  | nil=>exact zaF (decide_eq_false (by rw [hU]; simp)) rfl
  | cons u us =>
   have hlen:o.units.length=A.length+(us.length+1):=by rw [hU,List.length_append,List.length_cons]
   have hu:=hi.us u (by rw [hU]; simp)
   have nx:=ih us (A++[u]) (by rw [hU,List.append_assoc]; rfl) (by rw [List.length_cons] at hn; omega)
   rw [hag,show (A++[u]).length=A.length+1 by simp] at nx
   push_cast at nx
   refine zaL (decide_eq_true (by omega)) (zaR (zdq (show o.units[A.length]?=some u by rw [hU]; simp)) (zaR (zuX u (by have:=ziv hu; omega)) ?_))
   have:(grd (I64 ((A.length:Int)+1))<|ag ((A.length:Int)+1))=some (us.map zie):=zct ⟨by omega,by omega⟩ nx
   rw [this]; rfl
theorem zpj {o:zab} (hi:InvO o):zcA o=some (o.units.map zie):=by
 have hul:=hi.ul; have hll:=hi.ll
 unfold zcA
 exact zuU hi zcG o.units [] rfl (by unfold zcG; omega)
theorem zw2 (x:Tk) (h:0≤x.1) (he:x.2=Utf8.encode x.1):(zde x).2=Utf8.encode (zbb x.1):=by
 unfold zde
 cases hl:zfH x with
 | true=>rfl
 | false =>
  rw [if_neg (by simp),he,zqB (show zaS x.1=false from hl)]
theorem zvm {x:Tk} (h:zfH x=true∨zim x=true):0≤x.1:=by
 rcases h with h | h
 ·have:=zcy _ (show zaS x.1=true from h); omega
 ·have h:mrk x.1=true:=h
  unfold mrk at h
  have:=of_decide_eq_true h; omega
theorem zsf (o:zlt):∀ (l:List Tk) (a:zBA×Nat×Option (Nat×List zBA)),(∀ x∈l,(zde x).2=Utf8.encode (zbb x.1))→l≠[]→(l.foldl (znk o) a).1=a.1++zh0 (l.map zde) ∧
  ((o.p (a.1++zh0 (l.map zde))).isSome=true→(l.foldl (znk o) a).2.2=some (a.2.1+l.length,[a.1++zh0 (l.map zde)]))
 | [],a,_,h=>absurd rfl h
 | [x],a,h,_=>by
  have hx:=h x (List.mem_cons_self ..)
  have e:zh0 ([x].map zde)=Utf8.encode (zbb x.1):=by
   show J (·.2) [zde x]=_
   rw [zdo,zlu,ByteArray.append_empty,hx]
  rw [e]
  refine ⟨rfl,fun hs => ?_⟩
  show (znk o a x).2.2=_
  unfold znk
  dsimp only
  rw [if_pos hs]; rfl
 | x::y::l,a,h,_=>by
  have hx:=h x (List.mem_cons_self ..)
  obtain ⟨h1,h2⟩:=zsf o (y::l) (znk o a x) (fun z hz=>h z (List.mem_cons_of_mem _ hz)) (by simp)
  have e:(znk o a x).1++zh0 ((y::l).map zde)=a.1++zh0 ((x::y::l).map zde):=by
   have:zh0 ((x::y::l).map zde)=(zde x).2++zh0 ((y::l).map zde):=by
    show J (·.2) (zde x::(y::l).map zde)=_
    rw [zdo]; rfl
   rw [this,hx,← ByteArray.append_assoc]; rfl
  rw [e] at h1 h2
  refine ⟨h1,fun hs=>(h2 hs).trans ?_⟩
  have e2:(znk o a x).2.1=a.2.1+1:=rfl
  rw [e2,List.length_cons (a:=x),show a.2.1+1+(y::l).length=a.2.1+((y::l).length+1) by omega]
theorem zrm {o:zab} {u:zBA} {i:Int} (hu:SpU u) (hp:zbK u o.place=some i):∃ g,elA o (zie u)=[⟨3,i,ByteArray.empty,ByteArray.empty,g⟩]:=by
 have hs:=ziv hu
 obtain ⟨hk,hsm,hap⟩:=zu2 hu
 have htk:zif (zie u)=zif u:=by unfold zif zio; rw [zn5 u (by omega)]
 unfold elA
 rw [htk]
 have h8:=zmE _ 0 (by omega) hk
 have hlm:=zoI _ _ hk
 have hcat:zh0 ((zif u).map zde)=u:=hsm
 have henc:∀ x∈zif u,x.2=Utf8.encode x.1:=fun x hx=>by
  obtain ⟨t,ht,rfl⟩:=List.mem_map.1 hx
  exact zuj (ze3 _ t ht) (zvm (hlm _ hx))
 generalize zif u=l at hk h8 hlm hcat henc ⊢
 cases l with
 | nil=>exact absurd hcat.symm hu.1
 | cons x l =>
  have hx:zfH x=true:=by
   rw [okR,Bool.and_eq_true,Bool.and_eq_true,Bool.or_eq_true] at hk
   rcases hk.1.2 with h | h
   ·exact h
   ·rw [Bool.and_eq_true] at h
    exact absurd rfl (of_decide_eq_true h.1)
  have hLM:∀ y∈x::l,zmK y=true:=fun y hy=>by unfold zmK; rw [Bool.or_eq_true]; exact hlm y hy
  have hpass:zlB (zeq o) (x::l)=0:=by
   unfold zlB
   have:zms (x::l)=[]:=by
    unfold zms
    rw [List.dropWhile_cons,if_neg (by rw [hx]; simp)]
    exact zpT hLM
   rw [this]; rfl
  have hcand:zo7 (x::l)=x::l:=by
   unfold zo7
   rw [List.take_of_length_le (by omega)]
   exact zpl fun y hy=>by
    have:=zvm (hlm y hy)
    rw [decide_eq_false (by omega)]; rfl
  have hbest:zn4 (zeq o) (x::l)=some ((x::l).length,[u]):=by
   unfold zn4
   rw [hcand]
   have:=(zsf (zeq o) (x::l) (ByteArray.empty,0,none) (fun y hy=>zw2 y (zvm (hlm y hy)) (henc y hy)) (by simp)).2
   rw [hcat,ByteArray.empty_append] at this
   rw [this (by show (zbK u o.place).isSome=true; rw [hp]; rfl),Nat.zero_add]
  have hm:zeX (zeq o) x l=((x::l).length,[u]):=by unfold zeX; rw [hbest]; rfl
  unfold zkh
  rw [hpass,List.drop_zero,List.length_cons,zgP]
  have hc:zg7 (zeq o) x l=((x::l).length,some [⟨3,i,ByteArray.empty,ByteArray.empty,zjg ((x::l).take (x::l).length)⟩]):=by
   unfold zg7
   rw [if_pos (zw8 hx),hm]
   dsimp only
   rw [List.drop_length,List.takeWhile_nil]
   have hpp:((zeq o).p u).getD 0=i:=by show (zbK u o.place).getD 0=i; rw [hp]; rfl
   show ((x::l).length+0,some [(⟨3,((zeq o).p u).getD 0,ByteArray.empty,zf7 [],_⟩:El)])=_
   rw [hpp]; rfl
  rw [hc,List.drop_length,zqZ]
  exact ⟨_,rfl⟩
theorem zpI:∀ {l:List zBA} {k:Nat} {u:zBA},l.Nodup→l[k]?=some u→zmM l u=some (k:Int):=by
 intro l k u hn hk
 have hm:u∈l:=List.mem_of_getElem? hk
 obtain ⟨i,h⟩:=Option.isSome_iff_exists.1 (idxU_mem.2 hm)
 obtain ⟨r1,r2,r3⟩:=zje h
 rw [h]
 congr 1
 obtain ⟨h1,e1⟩:=List.getElem?_eq_some_iff.1 hk
 obtain ⟨h2,e2⟩:=List.getElem?_eq_some_iff.1 r3
 have:=(List.getElem_inj (h₀:=h1) (h₁:=h2) hn).1 (e1.trans e2.symm)
 omega
theorem ztg {o:zab} (hi:InvO o) {k:Nat} {u v:zBA} (hu:o.units[k]?=some u) (hv:o.units[k+1]?=some v):zbw o (zie u) (zie v)=some (-1,1):=by
 have su:=hi.us u (List.mem_of_getElem? hu)
 have sv:=hi.us v (List.mem_of_getElem? hv)
 have pu:=zpI hi.nd hu
 have pv:=zpI hi.nd hv
 rw [← hi.pl] at pu pv
 have fu:Few (zie u):=zxI (by have:=zkw su; omega)
 have fv:Few (zie v):=zxI (by have:=zkw sv; omega)
 rw [znZ hi.ok _ _ fu fv]
 obtain ⟨gu,_⟩:=zkE hi.ok _ fu
 obtain ⟨gv,_⟩:=zkE hi.ok _ fv
 refine congrArg some ?_
 unfold zqF
 rw [zpB gu gv]
 obtain ⟨a,ea⟩:=zrm su pu
 obtain ⟨b,eb⟩:=zrm sv pv
 rw [ea,eb]
 have hf:zfJ (⟨3,(k:Int),ByteArray.empty,ByteArray.empty,a⟩:El) ⟨3,((k+1:Nat):Int),ByteArray.empty,ByteArray.empty,b⟩=-1:=by
  unfold zfJ zwn
  have e1:((3:Int) - 3)=0:=rfl
  show (if ((3:Int) - 3)=0 then (if ((k:Int) - ((k+1:Nat):Int))=0 then _ else ((k:Int) - ((k+1:Nat):Int))) else _)=_
  rw [if_pos e1,if_neg (by omega)]; omega
 have hl:zhv zfJ [(⟨3,(k:Int),ByteArray.empty,ByteArray.empty,a⟩:El)] [⟨3,((k+1:Nat):Int),ByteArray.empty,ByteArray.empty,b⟩]=-1:=by
  rw [zhv,hf]; rfl
 unfold lvl
 rw [hl,if_neg (show ¬ ((-1:Int)=0) by decide)]
 exact congrArg (fun n:Int=>(n,(1:Int))) (show sg (-1)=-1 by decide)
theorem ztp {P:El→Prop} (hP:∀ e m,P e→P ⟨e.sort,e.place,e.digits,m,e.great⟩) (m:zBA) {l:List El} (h:∀ e∈l,P e):∀ e∈zrc m l,P e:=fun e he=>by
 rcases zmx m he with he | ⟨e',he',rfl⟩
 ·exact h e he
 ·exact hP _ _ (h e' he')
def PlU (n:Nat) (e:El):Prop:=e.sort=3→0≤e.place∧e.place<(n:Int)
theorem zpX {P:El→Prop} (o:zlt):∀ (n:Nat) (l:List Tk),(∀ x l es,(zg7 o x l).2=some es→∀ e∈es,P e)→∀ es,some es∈zgP o n l→∀ e∈es,P e
 | 0,_,_,es,h=>by cases h
 | n+1,[],_,es,h=>by cases h
 | n+1,x::l,hc,es,h=>by
  rw [zgP] at h
  rcases List.mem_cons.1 h with h | h
  ·exact hc x l es h.symm
  ·exact zpX o n _ hc es h
theorem zt4 {P:El→Prop} (hg:P zxc):∀ (cs:List (Option (List El))) (out:List El) (sp:Bool),(∀ es,some es∈cs→∀ e∈es,P e)→(∀ e∈out,P e)→∀ e∈asm cs out sp,P e
 | [],out,sp,_,h=>h
 | none::cs,out,sp,hc,h=>zt4 hg cs out true (fun es he=>hc es (List.mem_cons_of_mem _ he)) h
 | some []::cs,out,sp,hc,h=>zt4 hg cs out sp (fun es he=>hc es (List.mem_cons_of_mem _ he)) h
 | some (e::es)::cs,out,sp,hc,h=>zt4 hg cs _ false (fun es he=>hc es (List.mem_cons_of_mem _ he)) fun a ha=>by
  rcases List.mem_append.1 ha with ha | ha
  ·rcases List.mem_append.1 ha with ha | ha
   ·exact h a ha
   ·split at ha
    ·rw [List.mem_singleton.1 ha]; exact hg
    ·cases ha
  ·exact hc _ (List.mem_cons_self ..) a ha
theorem ztV {o:zab} (hi:InvO o) (t:zBA):∀ e∈elA o t,PlU o.units.length e:=by
 unfold elA zkh
 have hlw:=hi.lw
 refine zt4 (fun h=>absurd h (by decide)) _ _ _ (zpX _ _ _ fun x l es h e he => ?_) (fun e h=>by cases h)
 have base:∀ g u,PlU o.units.length (elU (zeq o) g u):=fun g u _=>by
  show 0≤(zbK u o.place).getD 0∧(zbK u o.place).getD 0<_
  cases hp:zbK u o.place with
  | none=>rw [Option.getD_none]; omega
  | some i =>
   rw [hi.pl] at hp
   have:=zje hp
   rw [Option.getD_some]; exact ⟨this.1,this.2.1⟩
 unfold zg7 at h
 split at h
 ·injection h with h
  subst h
  refine ztp (fun e m h=>h) _ (fun e' he' => ?_) e he
  obtain ⟨u,_,rfl⟩:=List.mem_map.1 he'
  exact base _ u
 ·split at h
  ·injection h with h
   subst h
   rw [List.mem_singleton.1 he]
   exact fun h=>absurd h (by show (2:Int)≠3; decide)
  ·split at h
   ·cases h
   ·split at h
    ·injection h with h
     subst h
     rw [List.mem_singleton.1 he]
     exact fun h=>absurd h (by show (4:Int)≠3; decide)
    ·injection h with h
     subst h
     cases he
def zw9 (o:zab) (t:zBA):zBA :=
 match elA o t with
 | []=>⟨#[63]⟩
 | e::_=>if e.sort=3 then upS (zie (o.units.getD e.place.toNat zfv)) else if e.sort=2 then ⟨#[48,45,57]⟩ else ⟨#[63]⟩
theorem znK {o:zab} (hi:InvO o) (t:zBA) (ht:Few t):zcd o t=some (zw9 o t):=by
 unfold zcd zw9
 have hpl:=ztV hi t
 refine zb8 (zaR (zjT o hi.ok.fo t ht) ?_)
 show zaU none (zbJ o _ (elA o t)) zcG=_
 generalize elA o t=l at hpl ⊢
 obtain ⟨n,hn⟩:∃ n,zcG=n+1:=⟨zcG - 1,by unfold zcG; omega⟩
 rw [hn,zfO]
 generalize zaU none (zbJ o (some (⟨#[63]⟩:zBA)) l) n=ag
 unfold zbJ
 cases l with
 | nil=>exact zaF (by decide) rfl
 | cons e l =>
  refine zaL (decide_eq_true (by rw [List.length_cons]; omega)) (zaR (a:=e) rfl ?_)
  show _=some (ite (e.sort=3) _ _)
  by_cases h3:e.sort=3
  ·rw [if_pos h3]
   have hr:=hpl e (List.mem_cons_self ..) h3
   have hk:e.place.toNat<o.units.length:=by omega
   have hg:=zhe (l:=o.units) (k:=e.place.toNat) zfv hk
   rw [show ((e.place.toNat:Nat):Int)=e.place by omega] at hg
   have hu:=hi.us _ (List.mem_of_getElem? (zg0 (d:=zfv) hk))
   generalize o.units.getD e.place.toNat zfv=u at hg hu ⊢
   refine zaL (by rw [h3]; rfl) (zaR hg (zaR (zuX u (by have:=ziv hu; omega)) (zaR (zuV _ (by have:=zkw hu; omega)) rfl)))
  ·rw [if_neg h3]
   refine zaF (beq_eq_false_iff_ne.2 h3) ?_
   by_cases h2:e.sort=2
   ·rw [if_pos h2]; exact zaL (by rw [h2]; rfl) rfl
   ·rw [if_neg h2]; exact zaF (beq_eq_false_iff_ne.2 h2) rfl
def zco (x1:zBA) (ag1:(List zBA)→Option Bool) (l4:List zBA):Option Bool := grd (l4.length+1≤2147483648) <| ag1 (l4++[x1])
def zcn (x2:zBA) (ag2:(List zBA)→Option Bool) (m4:List zBA):Option Bool := grd (m4.length+1≤2147483648) <| ag2 (m4++[x2])
def zcm (p1:zab) (l1:List zBA) (m1:List zBA) (j3:Option Bool) (ag3:Int→Option Bool) (x5:Int):Option Bool := zat (decide ((x5:Int)<(l1.length:Int))) ( zbF (fun (j4:Option Bool) => zak (zd7 l1 x5) fun (q1:zBA) => zak (zd7 m1 x5) fun (q2:zBA) => zat (!decide (q1=q2)) ( some false
) ( zat (decide ((0:Int)<x5)) ( grd (I64 (x5 - 1)) <| zak (zd7 l1 (x5 - 1)) fun (q3:zBA) => zak (zd7 l1 x5) fun (q4:zBA) => zak (zbw p1 q3 q4) fun (r12:(Int×Int)) => zat ((r12.1:Int) != (-1)) ( some false
) ( zat ((r12.2:Int) != 1) ( some false
) ( j4
)
)
) ( j4
)
)
) ( grd (I64 (x5+1)) <| ag3 (x5+1)
)
) ( j3
)
def zee (text1:zBA) (a1:zBA) (b1:zBA):Option Bool := zak (zfg) fun (r1:Bool) => zat (!r1) ( some false
) ( zak (zfh text1) fun (r2:(Option zab)) => zat (r2.isNone) ( some false
) ( zak (r2) fun (p1:zab) => zak (zcP p1) fun (r3:zBA) => zak (zdv r3) fun (r4:((Option zab)×zaJ)) => zat (!(zdu r4.2 (⟨0,0⟩:zaJ))) ( some false
) ( zak (r4.1) fun (p2:zab) => zak (zcP p2) fun (r5:zBA) => zat (!decide (r5=r3)) ( some false
) ( zbF (fun (j1:zBA→Int→Int→Int→Int→(List zBA)→Option Bool) => zak (zeI a1) fun (r6:zBA) => zak (zeI b1) fun (r7:zBA) => zak (zbw p1 r6 r7) fun (r8:(Int×Int)) => zak (zbw p2 r6 r7) fun (r9:(Int×Int)) => zak (zdM p1) fun (r10:Unit) => zak (zcA p1) fun (its1:(List zBA)) => zbF (fun (dn1:(List zBA)→Option Bool) => zb4 dn1 (zco) its1 ([]:List zBA)
) (fun (l4:List zBA) => j1 r6 r8.1 r8.2 r9.1 r9.2 l4
)
) (fun (a2:zBA) (c1:Int) (i1:Int) (d1:Int) (k1:Int) (l1:List zBA) => zbF (fun (j2:(List zBA)→Option Bool) => zak (zdM p2) fun (r11:Unit) => zak (zcA p2) fun (its2:(List zBA)) => zbF (fun (dn2:(List zBA)→Option Bool) => zb4 dn2 (zcn) its2 ([]:List zBA)
) (fun (m4:List zBA) => j2 m4
)
) (fun (m1:List zBA) => zat (((l1.length:Int):Int) != (m1.length:Int)) ( some false
) ( zat (decide (((l1.length:Int):Int)<26)) ( some false
) ( zbF (fun (j3:Option Bool) => zaU (fun _=>none) (zcm p1 l1 m1 j3) zcG 0
) ( zat ((c1:Int)==d1) ( zat ((i1:Int)==k1) ( zak (zcd p1 a2) fun (r13:zBA) => zak (zcd p2 a2) fun (r14:zBA) => zat (decide (r13=r14)) ( zak (zfg) fun (r15:Bool) => some r15
) ( some false
)
) ( some false
)
) ( some false
)
)
)
)
)
)
)
)
)
)
theorem zh9 {text1:zBA} {a1:zBA} {b1:zBA} {r:Bool} (h:zee text1 a1 b1=some r):FnP prog 4 [.string text1,.string a1,.string b1] (.bool r):=by
 unfold zee at h
 refine FnP.intro func4 rfl ntmps4 (by simp) ?_
 intro w0 K
 refine zfV ?_
 show TC _ _ _ _ _ _ _ _ _ [zej ((([]:List Nat):List Nat).map zdW)]
 refine zyG (zyR 1 rfl (zyN (zaM (zyG ?_))))
 obtain ⟨r1,hq1,h⟩:=zbx h
 refine zaQ (v:=.bool r1) (vs:=[]) rfl dc rfl rfl rfl zzt (zik hq1) (zgG rfl dc rfl zeS (zyN ?_))
 refine zyB rfl h (fun h => ?_) (fun h => ?_)
 ·
  refine zyG (zyR 1 rfl (zyN (zaD (zai ?_))))
  cases h
  exact zdj (rs:=[.tmp 6]) ([]:List Nat) () (.inl rfl) (zbf (k:=0) rfl) results4 (.cons (.tmp rfl) .nil) rfl Splits.nil
 refine zaq (zaG (zyG (zyR 1 rfl ?_)))
 obtain ⟨r2,hq2,h⟩:=zbx h
 refine zb3 (vs:=[.string text1]) rfl dc rfl rfl rfl zzK (zlF hq2) Splits.nil ?_
 rintro v1
 refine zcI (L':=[zej ((([]:List Nat):List Nat).map zdW),zkZ zaZ zaY 79 v1 r2]) (zaa [0,1] kr rfl) (zyR 1 rfl (zyN (zaM (zyG (zyR 1 rfl ?_)))))
 refine zsU (k:=1) rfl (fun hv1 => ?_)
 refine zaW rfl (zq2 underlying23 hv1) (zyN ?_)
 refine zyB rfl h (fun h => ?_) (fun h => ?_)
 ·
  refine zyG (zyR 1 rfl (zyN (zaD (zai ?_))))
  cases h
  exact zdj (rs:=[.tmp 6]) ([]:List Nat) () (.inl rfl) (zbf (k:=0) rfl) results4 (.cons (.tmp rfl) .nil) rfl Splits.nil
 refine zaq (zaG (zyG (zyR 1 rfl ?_)))
 obtain ⟨p1,hq3,h⟩:=zbx h
 refine zj5 (As:=[zkZ zaZ zaY 79 v1 r2]) (zaa [1] kr rfl) (zhN hq3) ?_
 rintro ⟨b2,hd1,hd2,hd3,hd4,hd5⟩ hv2
 have hkp:=h
 subst hv2
 have h:=hkp
 show TO _ _ _ _ _ _ _ _ _ _ [zej ((([]:List Nat):List Nat).map zdW),emp,cells b2 [hd1.v,.map (some (zaw hd2)),.map (some (zaw hd3)),.map (some (zaw hd4)),hd5.v] 79,zv0 hd1.v p1.units,za5 (fun n:zBA=>Value.string n) (fun n:Int=>Value.int .i64 n) (zaw hd2) p1.place,zbe (zaw hd3) p1.fors,za5 (fun n:zBA=>Value.string n) (fun n:Bool=>Value.bool n) (zaw hd4) p1.skips,zv0 hd5.v p1.lines]
 obtain ⟨r3,hq4,h⟩:=zbx h
 refine zdn (v:=.string r3) (vs:=[zP b2]) (Rd.nil:Rd _ _ []) rfl dc rfl rfl rfl zxo (zfx (bo1:=b2) (o1:=p1) (o1_h0:=hd1) (o1_h1:=hd2) (o1_h2:=hd3) (o1_h3:=hd4) (o1_h4:=hd5) hq4) (.own (zaa [2] kr rfl) (fun _ _ h=>sepL.one1.1 h) (.own (zaa [3] kr rfl) (fun _ _ h=>sepL.one1.1 h) (.own (zaa [4] kr rfl) (fun _ _ h=>sepL.one1.1 h) (.own (zaa [5] kr rfl) (fun _ _ h=>sepL.one1.1 h) (.own (zaa [6] kr rfl) (fun _ _ h=>sepL.one1.1 h) (.own (zaa [7] kr rfl) (fun _ _ h=>sepL.one1.1 h) .nil)))))) ?_
 refine zyR 1 rfl (zyH (zyR 1 rfl ?_))
 obtain ⟨r4,hq5,h⟩:=zbx h
 refine zb3 (vs:=[.string r3]) rfl dc rfl rfl rfl ztS (zfm hq5) Splits.nil ?_
 rintro v2
 show TO _ _ _ _ _ _ _ _ _ _ [zej ((([]:List Nat):List Nat).map zdW),emp,cells b2 [hd1.v,.map (some (zaw hd2)),.map (some (zaw hd3)),.map (some (zaw hd4)),hd5.v] 79,zv0 hd1.v p1.units,za5 (fun n:zBA=>Value.string n) (fun n:Int=>Value.int .i64 n) (zaw hd2) p1.place,zbe (zaw hd3) p1.fors,za5 (fun n:zBA=>Value.string n) (fun n:Bool=>Value.bool n) (zaw hd4) p1.skips,zv0 hd5.v p1.lines,zkZ zaZ zaY 79 v2 r4.1]
 refine zyR 1 rfl (zaH rfl dc rfl rfl (zaH rfl dc rfl rfl ?_))
 refine za4 zom rfl dc (fun b3 => ?_)
 refine zyR 1 rfl (za6 (k:=9) (vs:=(zr2 r4.2)) (l':=(zr2 r4.2)) zh7 rfl rfl rfl rfl rfl (show _≤_ by simp) rfl rfl ?_)
 show TO _ _ _ _ _ _ _ _ _ _ [zej ((([]:List Nat):List Nat).map zdW),emp,cells b2 [hd1.v,.map (some (zaw hd2)),.map (some (zaw hd3)),.map (some (zaw hd4)),hd5.v] 79,zv0 hd1.v p1.units,za5 (fun n:zBA=>Value.string n) (fun n:Int=>Value.int .i64 n) (zaw hd2) p1.place,zbe (zaw hd3) p1.fors,za5 (fun n:zBA=>Value.string n) (fun n:Bool=>Value.bool n) (zaw hd4) p1.skips,zv0 hd5.v p1.lines,zkZ zaZ zaY 79 v2 r4.1,cells b3 (zr2 r4.2) 35]
 refine zyN (zaM (zyG (zbW (k:=9) (cs:=(zr2 r4.2)) zi1 rfl dc rfl rfl rfl rfl ?_)))
 refine zck (v:=.agg #[zI 0,zI 0]) (ps:=[]) rfl dc rfl (fun _=>by kernel_rfl) ?_
 refine zaW rfl (zq3 r4.2 (⟨0,0⟩:zaJ)) (zyR 1 rfl ?_)
 refine zyS (s:=38) rfl h (fun h => ?_) (fun h => ?_)
 ·
  refine zyR 5 rfl (zyN (zcf rfl (zyG (zyR 1 rfl (zyN (zaD ?_))))))
  refine zai ?_
  cases h
  exact zdj (rs:=[.tmp 6]) ([]:List Nat) () (.inl rfl) (zbf (k:=0) rfl) results4 (.cons (.tmp rfl) .nil) rfl Splits.nil
 refine zyR 1 rfl ?_
 obtain ⟨p2,hq6,h⟩:=zbx h
 refine zj5 (As:=[zkZ zaZ zaY 79 v2 r4.1]) (zaa [8] kr rfl) (zhN hq6) ?_
 rintro ⟨b4,hd6,hd7,hd8,hd9,hd10⟩ hv3
 have hkp:=h
 subst hv3
 have h:=hkp
 show TO _ _ _ _ _ _ _ _ _ _ [zej ((([]:List Nat):List Nat).map zdW),emp,cells b2 [hd1.v,.map (some (zaw hd2)),.map (some (zaw hd3)),.map (some (zaw hd4)),hd5.v] 79,zv0 hd1.v p1.units,za5 (fun n:zBA=>Value.string n) (fun n:Int=>Value.int .i64 n) (zaw hd2) p1.place,zbe (zaw hd3) p1.fors,za5 (fun n:zBA=>Value.string n) (fun n:Bool=>Value.bool n) (zaw hd4) p1.skips,zv0 hd5.v p1.lines,emp,cells b3 (zr2 r4.2) 35,cells b4 [hd6.v,.map (some (zaw hd7)),.map (some (zaw hd8)),.map (some (zaw hd9)),hd10.v] 79,zv0 hd6.v p2.units,za5 (fun n:zBA=>Value.string n) (fun n:Int=>Value.int .i64 n) (zaw hd7) p2.place,zbe (zaw hd8) p2.fors,za5 (fun n:zBA=>Value.string n) (fun n:Bool=>Value.bool n) (zaw hd9) p2.skips,zv0 hd10.v p2.lines]
 obtain ⟨r5,hq7,h⟩:=zbx h
 refine zdn (v:=.string r5) (vs:=[zP b4]) (Rd.nil:Rd _ _ []) rfl dc rfl rfl rfl zxo (zfx (bo1:=b4) (o1:=p2) (o1_h0:=hd6) (o1_h1:=hd7) (o1_h2:=hd8) (o1_h3:=hd9) (o1_h4:=hd10) hq7) (.own (zaa [10] kr rfl) (fun _ _ h=>sepL.one1.1 h) (.own (zaa [11] kr rfl) (fun _ _ h=>sepL.one1.1 h) (.own (zaa [12] kr rfl) (fun _ _ h=>sepL.one1.1 h) (.own (zaa [13] kr rfl) (fun _ _ h=>sepL.one1.1 h) (.own (zaa [14] kr rfl) (fun _ _ h=>sepL.one1.1 h) (.own (zaa [15] kr rfl) (fun _ _ h=>sepL.one1.1 h) .nil)))))) ?_
 refine zyR 1 rfl (zaW rfl zjx (zyR 1 rfl (zyN ?_)))
 refine zyB rfl h (fun h => ?_) (fun h => ?_)
 ·
  refine zyG (zyR 1 rfl (zyN (zaD (zai ?_))))
  cases h
  exact zdj (rs:=[.tmp 6]) ([]:List Nat) () (.inl rfl) (zbf (k:=0) rfl) results4 (.cons (.tmp rfl) .nil) rfl Splits.nil
 refine zaq (zaG ?_)
 obtain ⟨j1,hj1,h⟩:=zbT h
 refine za2 (β:=zBA×Int×Int×Int×Int×(List zBA)×Nat×Hd×Nat×(List Nat)) 4 rfl (fun b=>j1 b.1 b.2.1 b.2.2.1 b.2.2.2.1 b.2.2.2.2.1 b.2.2.2.2.2.1=some r) (fun b=>zdp b.2.2.2.2.2.2.2.2.2) (fun b=>[(1,.string b.1),(7,zP b2),(9,zP b4),(11,zI b.2.1),(12,zI b.2.2.1),(13,zI b.2.2.2.1),(14,zI b.2.2.2.2.1),(15,zP b.2.2.2.2.2.2.1),(16,zP b.2.2.2.2.2.2.2.2.1)]) (fun b=>[cells b2 [hd1.v,.map (some (zaw hd2)),.map (some (zaw hd3)),.map (some (zaw hd4)),hd5.v] 79,zv0 hd1.v p1.units,za5 (fun n:zBA=>Value.string n) (fun n:Int=>Value.int .i64 n) (zaw hd2) p1.place,zbe (zaw hd3) p1.fors,za5 (fun n:zBA=>Value.string n) (fun n:Bool=>Value.bool n) (zaw hd4) p1.skips,zv0 hd5.v p1.lines,cells b4 [hd6.v,.map (some (zaw hd7)),.map (some (zaw hd8)),.map (some (zaw hd9)),hd10.v] 79,zv0 hd6.v p2.units,za5 (fun n:zBA=>Value.string n) (fun n:Int=>Value.int .i64 n) (zaw hd7) p2.place,zbe (zaw hd8) p2.fors,za5 (fun n:zBA=>Value.string n) (fun n:Bool=>Value.bool n) (zaw hd9) p2.skips,zv0 hd10.v p2.lines,cells b.2.2.2.2.2.2.1 [b.2.2.2.2.2.2.2.1.v] 38,zv0 b.2.2.2.2.2.2.2.1.v b.2.2.2.2.2.1,cells b.2.2.2.2.2.2.2.2.1 [.slice none 0 0] 38,zej ((b.2.2.2.2.2.2.2.2.2:List Nat).map zdW)]) (fun cut => ?_) ?_
 ·
  refine zyG (zyR 1 rfl ?_)
  obtain ⟨r6,hq8,h⟩:=zbx h
  refine zaQ (v:=.string r6) (vs:=[.string a1]) rfl dc rfl rfl rfl zzs (zil hq8) (zyR 1 rfl ?_)
  obtain ⟨r7,hq9,h⟩:=zbx h
  refine zaQ (v:=.string r7) (vs:=[.string b1]) rfl dc rfl rfl rfl zzs (zil hq9) (zyR 2 rfl (zyH (zyR 3 rfl ?_)))
  obtain ⟨r8,hq10,h⟩:=zbx h
  refine zdn (v:=.tuple #[zI r8.1,zI r8.2]) (vs:=[zP b2,.string r6,.string r7]) (Rd.nil:Rd _ _ []) rfl dc rfl rfl rfl ztU (zdf (bo1:=b2) (o1:=p1) (o1_h0:=hd1) (o1_h1:=hd2) (o1_h2:=hd3) (o1_h3:=hd4) (o1_h4:=hd5) hq10) (.own (zaa [2] kr rfl) (fun _ _ h=>sepL.one1.1 h) (.own (zaa [3] kr rfl) (fun _ _ h=>sepL.one1.1 h) (.own (zaa [4] kr rfl) (fun _ _ h=>sepL.one1.1 h) (.own (zaa [5] kr rfl) (fun _ _ h=>sepL.one1.1 h) (.own (zaa [6] kr rfl) (fun _ _ h=>sepL.one1.1 h) (.own (zaa [7] kr rfl) (fun _ _ h=>sepL.one1.1 h) .nil)))))) ?_
  refine zyR 1 rfl (zaH rfl dc rfl rfl (zaH rfl dc rfl rfl (zyR 2 rfl (zyH (zyR 3 rfl ?_)))))
  obtain ⟨r9,hq11,h⟩:=zbx h
  refine zdn (v:=.tuple #[zI r9.1,zI r9.2]) (vs:=[zP b4,.string r6,.string r7]) (Rd.nil:Rd _ _ []) rfl dc rfl rfl rfl ztU (zdf (bo1:=b4) (o1:=p2) (o1_h0:=hd6) (o1_h1:=hd7) (o1_h2:=hd8) (o1_h3:=hd9) (o1_h4:=hd10) hq11) (.own (zaa [10] kr rfl) (fun _ _ h=>sepL.one1.1 h) (.own (zaa [11] kr rfl) (fun _ _ h=>sepL.one1.1 h) (.own (zaa [12] kr rfl) (fun _ _ h=>sepL.one1.1 h) (.own (zaa [13] kr rfl) (fun _ _ h=>sepL.one1.1 h) (.own (zaa [14] kr rfl) (fun _ _ h=>sepL.one1.1 h) (.own (zaa [15] kr rfl) (fun _ _ h=>sepL.one1.1 h) .nil)))))) ?_
  refine zyR 1 rfl (zaH rfl dc rfl rfl (zaH rfl dc rfl rfl (zyR 2 rfl (zyH ?_))))
  refine za4 zwC rfl dc (fun b7 => ?_)
  refine za4 zwC rfl dc (fun b8 => ?_)
  show TO _ _ _ _ _ _ _ _ _ _ [zej ((([]:List Nat):List Nat).map zdW),emp,cells b2 [hd1.v,.map (some (zaw hd2)),.map (some (zaw hd3)),.map (some (zaw hd4)),hd5.v] 79,zv0 hd1.v p1.units,za5 (fun n:zBA=>Value.string n) (fun n:Int=>Value.int .i64 n) (zaw hd2) p1.place,zbe (zaw hd3) p1.fors,za5 (fun n:zBA=>Value.string n) (fun n:Bool=>Value.bool n) (zaw hd4) p1.skips,zv0 hd5.v p1.lines,emp,cells b3 (zr2 r4.2) 35,cells b4 [hd6.v,.map (some (zaw hd7)),.map (some (zaw hd8)),.map (some (zaw hd9)),hd10.v] 79,zv0 hd6.v p2.units,za5 (fun n:zBA=>Value.string n) (fun n:Int=>Value.int .i64 n) (zaw hd7) p2.place,zbe (zaw hd8) p2.fors,za5 (fun n:zBA=>Value.string n) (fun n:Bool=>Value.bool n) (zaw hd9) p2.skips,zv0 hd10.v p2.lines,cells b7 [.slice none 0 0] 38,cells b8 [.slice none 0 0] 38]
  refine zyN (cut (zyG (zyR 1 rfl ?_)))
  obtain ⟨r10,hq12,h⟩:=zbx h
  refine zh4 (vs:=[zP b2]) (Rd.nil:Rd _ _ []) rfl dc rfl rfl rfl zxn (zfw (bo1:=b2) (o1:=p1) (o1_h0:=hd1) (o1_h1:=hd2) (o1_h2:=hd3) (o1_h3:=hd4) (o1_h4:=hd5) hq12) Splits.nil (.own (zaa [2] kr rfl) (fun _ _ h=>sepL.one1.1 h) (.own (zaa [3] kr rfl) (fun _ _ h=>sepL.one1.1 h) (.own (zaa [4] kr rfl) (fun _ _ h=>sepL.one1.1 h) (.own (zaa [5] kr rfl) (fun _ _ h=>sepL.one1.1 h) (.own (zaa [6] kr rfl) (fun _ _ h=>sepL.one1.1 h) (.own (zaa [7] kr rfl) (fun _ _ h=>sepL.one1.1 h) .nil)))))) ?_
  rintro b9
  show TO _ _ _ _ _ _ _ _ _ _ [zej ((([]:List Nat):List Nat).map zdW),emp,cells b2 [hd1.v,.map (some (zaw hd2)),.map (some (zaw hd3)),.map (some (zaw hd4)),hd5.v] 79,zv0 hd1.v p1.units,za5 (fun n:zBA=>Value.string n) (fun n:Int=>Value.int .i64 n) (zaw hd2) p1.place,zbe (zaw hd3) p1.fors,za5 (fun n:zBA=>Value.string n) (fun n:Bool=>Value.bool n) (zaw hd4) p1.skips,zv0 hd5.v p1.lines,emp,cells b3 (zr2 r4.2) 35,cells b4 [hd6.v,.map (some (zaw hd7)),.map (some (zaw hd8)),.map (some (zaw hd9)),hd10.v] 79,zv0 hd6.v p2.units,za5 (fun n:zBA=>Value.string n) (fun n:Int=>Value.int .i64 n) (zaw hd7) p2.place,zbe (zaw hd8) p2.fors,za5 (fun n:zBA=>Value.string n) (fun n:Bool=>Value.bool n) (zaw hd9) p2.skips,zv0 hd10.v p2.lines,cells b7 [.slice none 0 0] 38,cells b8 [.slice none 0 0] 38,cells b9 [zP b2] 23]
  refine zyN (zaA ?_)
  obtain ⟨its1,hq13,h⟩:=zbx h
  refine ze2 (enc:=zgU) (e:=9) (size:=1) ?_
  show TC _ _ _ _ _ _ _ _ _ [zej ((([]:List Nat):List Nat).map zdW),emp,cells b2 [hd1.v,.map (some (zaw hd2)),.map (some (zaw hd3)),.map (some (zaw hd4)),hd5.v] 79,zv0 hd1.v p1.units,za5 (fun n:zBA=>Value.string n) (fun n:Int=>Value.int .i64 n) (zaw hd2) p1.place,zbe (zaw hd3) p1.fors,za5 (fun n:zBA=>Value.string n) (fun n:Bool=>Value.bool n) (zaw hd4) p1.skips,zv0 hd5.v p1.lines,emp,cells b3 (zr2 r4.2) 35,cells b4 [hd6.v,.map (some (zaw hd7)),.map (some (zaw hd8)),.map (some (zaw hd9)),hd10.v] 79,zv0 hd6.v p2.units,za5 (fun n:zBA=>Value.string n) (fun n:Int=>Value.int .i64 n) (zaw hd7) p2.place,zbe (zaw hd8) p2.fors,za5 (fun n:zBA=>Value.string n) (fun n:Bool=>Value.bool n) (zaw hd9) p2.skips,zv0 hd10.v p2.lines,cells b7 [.slice none 0 0] 38,cells b8 [.slice none 0 0] 38,cells b9 [zP b2] 23,zv0 (.slice none 0 0) ([]:List zBA)]
  obtain ⟨dn1,hdn1,h⟩:=zbT h
  refine zod (α:=zBA) (β:=(List zBA)×Hd) (γ:=Unit) (δ:=Unit) (ps:=[64]) (Rd.nil:Rd _ _ []) Ro.nil rfl zxl (ze0 hq13) (fun pre b=>∀ post,its1=pre++post→zb4 dn1 (zco) post b.1=some r) (fun pre b=>[cells b4 [hd6.v,.map (some (zaw hd7)),.map (some (zaw hd8)),.map (some (zaw hd9)),hd10.v] 79,zv0 hd6.v p2.units,za5 (fun n:zBA=>Value.string n) (fun n:Int=>Value.int .i64 n) (zaw hd7) p2.place,zbe (zaw hd8) p2.fors,za5 (fun n:zBA=>Value.string n) (fun n:Bool=>Value.bool n) (zaw hd9) p2.skips,zv0 hd10.v p2.lines,cells b7 [b.2.v] 38,zv0 b.2.v b.1,cells b8 [.slice none 0 0] 38]) (fun c pre g=>False) (fun c pre g=>[]) (fun pre x b j=>[(1,.string r6),(6,.bool false),(7,zP b2),(9,zP b4),(11,zI r8.1),(12,zI r8.2),(13,zI r9.1),(14,zI r9.2),(15,zP b7),(16,zP b8),(63,.func (.func 39) #[] #[zP b9]),(17,.string x)]) (fun pre x b j=>[cells b4 [hd6.v,.map (some (zaw hd7)),.map (some (zaw hd8)),.map (some (zaw hd9)),hd10.v] 79,zv0 hd6.v p2.units,za5 (fun n:zBA=>Value.string n) (fun n:Int=>Value.int .i64 n) (zaw hd7) p2.place,zbe (zaw hd8) p2.fors,za5 (fun n:zBA=>Value.string n) (fun n:Bool=>Value.bool n) (zaw hd9) p2.skips,zv0 hd10.v p2.lines,cells b7 [b.2.v] 38,zv0 b.2.v b.1,cells b8 [.slice none 0 0] 38]) (([]:List zBA),Hd.nil) (fun post e=>by rw [List.nil_append] at e; subst e; exact h) (zaa [10,11,12,13,14,15,16,19,17] kr rfl) (.own (As:=[cells b9 [zP b2] 23]) (zaa [18] kr rfl) (fun _ _ h=>sepL.one1.1 h) (.own (As:=[cells b2 [hd1.v,.map (some (zaw hd2)),.map (some (zaw hd3)),.map (some (zaw hd4)),hd5.v] 79]) (zaa [2] kr rfl) (fun _ _ h=>sepL.one1.1 h) (.own (As:=[zv0 hd1.v p1.units]) (zaa [3] kr rfl) (fun _ _ h=>sepL.one1.1 h) (.own (As:=[za5 (fun n:zBA=>Value.string n) (fun n:Int=>Value.int .i64 n) (zaw hd2) p1.place]) (zaa [4] kr rfl) (fun _ _ h=>sepL.one1.1 h) (.own (As:=[zbe (zaw hd3) p1.fors]) (zaa [5] kr rfl) (fun _ _ h=>sepL.one1.1 h) (.own (As:=[za5 (fun n:zBA=>Value.string n) (fun n:Bool=>Value.bool n) (zaw hd4) p1.skips]) (zaa [6] kr rfl) (fun _ _ h=>sepL.one1.1 h) (.own (As:=[zv0 hd5.v p1.lines]) (zaa [7] kr rfl) (fun _ _ h=>sepL.one1.1 h) .nil))))))) (fun _=>rfl) dc ?_ ?_ ?_ ?_
  ·
   rintro lp rc pre x1 post ⟨l4,hd14⟩ w1 K1 hxs1 hext hro hinv
   refine zao (zyR 1 rfl (zaE ?_))
   exact fun a w ha hw=>⟨(),(za9 rfl) _ _ _ ha,hw.weaken (zaa [0,1,2,3,4,5,6,7,8] kr rfl)⟩
  ·
   rintro lp rc pre x1 post1 ⟨l4,hd14⟩ _ w1 K1 hxs1 hext hro hinv
   have h:=hinv (x1::post1) hxs1
   obtain ⟨ag1,hag1⟩:∃ ag,ag=zb4 dn1 (zco) post1:=⟨_,rfl⟩
   have h:zco x1 ag1 l4=some r:=by have h2:=h; rw [zbQ,← hag1] at h2; exact h2
   unfold zco at h
   show TC _ _ _ _ _ _ _ _ [(1,.string r6),(6,.bool false),(7,zP b2),(9,zP b4),(11,zI r8.1),(12,zI r8.2),(13,zI r9.1),(14,zI r9.2),(15,zP b7),(16,zP b8),(63,.func (.func 39) #[] #[zP b9]),(17,.string x1)] [cells b4 [hd6.v,.map (some (zaw hd7)),.map (some (zaw hd8)),.map (some (zaw hd9)),hd10.v] 79,zv0 hd6.v p2.units,za5 (fun n:zBA=>Value.string n) (fun n:Int=>Value.int .i64 n) (zaw hd7) p2.place,zbe (zaw hd8) p2.fors,za5 (fun n:zBA=>Value.string n) (fun n:Bool=>Value.bool n) (zaw hd9) p2.skips,zv0 hd10.v p2.lines,cells b7 [hd14.v] 38,zv0 hd14.v l4,cells b8 [.slice none 0 0] 38]
   refine zaA (zao (zan (k:=6) zgY rfl dc rfl rfl rfl (zyR 1 rfl ?_)))
   refine zaX (cs:=[.string x1]) (te:=9) (ps:=[(0,.tmp 66)]) rfl dc rfl (fun _=>by kernel_rfl) (fun b10 => ?_)
   obtain ⟨hg1,h⟩:=zcg h
   refine zbP (k:=7) (k2:=9) (ys:=[x1]) underlying38 zvL zcq zhX rfl dc rfl rfl rfl rfl rfl rfl hg1 (fun v3 => ?_)
   refine zcr (k:=7) rfl (fun hd15 he1 => ?_)
   subst he1
   show TO _ _ _ _ _ _ _ _ _ _ [cells b4 [hd6.v,.map (some (zaw hd7)),.map (some (zaw hd8)),.map (some (zaw hd9)),hd10.v] 79,zv0 hd6.v p2.units,za5 (fun n:zBA=>Value.string n) (fun n:Int=>Value.int .i64 n) (zaw hd7) p2.place,zbe (zaw hd8) p2.fors,za5 (fun n:zBA=>Value.string n) (fun n:Bool=>Value.bool n) (zaw hd9) p2.skips,zv0 hd10.v p2.lines,cells b7 [hd14.v] 38,zv0 hd15.v (l4++[x1]),cells b8 [.slice none 0 0] 38,cells b10 [.string x1] 9]
   refine zaP (k:=6) (l':=[hd15.v]) zqf rfl rfl rfl rfl rfl (fun _ _=>rfl) rfl ?_
   refine zaE (zae ?_)
   exact zcC (l4++[x1],hd15) (fun post2 e2=>by have e9:=zb7 hxs1 e2; subst e9; subst hag1; exact h) (zaa [0,1,2,3,4,5,6,7,8] kr rfl)
  ·
   rintro dm1 ⟨l4,hd14⟩ hinv
   have h:dn1 l4=some r:=hinv [] (List.append_nil _).symm
   rw [hdn1] at h
   show TX _ _ _ _ _ _ _ [zej ((([]:List Nat):List Nat).map zdW),emp,cells b2 [hd1.v,.map (some (zaw hd2)),.map (some (zaw hd3)),.map (some (zaw hd4)),hd5.v] 79,zv0 hd1.v p1.units,za5 (fun n:zBA=>Value.string n) (fun n:Int=>Value.int .i64 n) (zaw hd2) p1.place,zbe (zaw hd3) p1.fors,za5 (fun n:zBA=>Value.string n) (fun n:Bool=>Value.bool n) (zaw hd4) p1.skips,zv0 hd5.v p1.lines,emp,cells b3 (zr2 r4.2) 35,emp,emp,emp,emp,emp,emp,emp,emp,cells b9 [zP b2] 23,emp,cells b4 [hd6.v,.map (some (zaw hd7)),.map (some (zaw hd8)),.map (some (zaw hd9)),hd10.v] 79,zv0 hd6.v p2.units,za5 (fun n:zBA=>Value.string n) (fun n:Int=>Value.int .i64 n) (zaw hd7) p2.place,zbe (zaw hd8) p2.fors,za5 (fun n:zBA=>Value.string n) (fun n:Bool=>Value.bool n) (zaw hd9) p2.skips,zv0 hd10.v p2.lines,cells b7 [hd14.v] 38,zv0 hd14.v l4,cells b8 [.slice none 0 0] 38,zdW dm1]
   refine zdU (k:=29) (j:=0) rfl rfl dc ?_
   show TX _ _ _ _ _ _ _ [zej ((dm1::([]:List Nat):List Nat).map zdW),emp,cells b2 [hd1.v,.map (some (zaw hd2)),.map (some (zaw hd3)),.map (some (zaw hd4)),hd5.v] 79,zv0 hd1.v p1.units,za5 (fun n:zBA=>Value.string n) (fun n:Int=>Value.int .i64 n) (zaw hd2) p1.place,zbe (zaw hd3) p1.fors,za5 (fun n:zBA=>Value.string n) (fun n:Bool=>Value.bool n) (zaw hd4) p1.skips,zv0 hd5.v p1.lines,emp,cells b3 (zr2 r4.2) 35,emp,emp,emp,emp,emp,emp,emp,emp,cells b9 [zP b2] 23,emp,cells b4 [hd6.v,.map (some (zaw hd7)),.map (some (zaw hd8)),.map (some (zaw hd9)),hd10.v] 79,zv0 hd6.v p2.units,za5 (fun n:zBA=>Value.string n) (fun n:Int=>Value.int .i64 n) (zaw hd7) p2.place,zbe (zaw hd8) p2.fors,za5 (fun n:zBA=>Value.string n) (fun n:Bool=>Value.bool n) (zaw hd9) p2.skips,zv0 hd10.v p2.lines,cells b7 [hd14.v] 38,zv0 hd14.v l4,cells b8 [.slice none 0 0] 38,emp]
   refine zae ?_
   exact zaj (r6,r8.1,r8.2,r9.1,r9.2,l4,b7,hd14,b8,dm1::([]:List Nat)) h rfl (za9 rfl) (zaa [2,3,4,5,6,7,20,21,22,23,24,25,26,27,28,0] kr rfl)
  rintro dm1 c pre x1 post g hxs hX
  exact (show False from hX).elim
 rintro ⟨a2,c1,i1,d1,k1,l1,b5,hd11,b6,ds1⟩ h
 rw [hj1] at h
 show TC _ _ _ _ _ (zdp ds1) _ _ [(1,.string a2),(7,zP b2),(9,zP b4),(11,zI c1),(12,zI i1),(13,zI d1),(14,zI k1),(15,zP b5),(16,zP b6)] [cells b2 [hd1.v,.map (some (zaw hd2)),.map (some (zaw hd3)),.map (some (zaw hd4)),hd5.v] 79,zv0 hd1.v p1.units,za5 (fun n:zBA=>Value.string n) (fun n:Int=>Value.int .i64 n) (zaw hd2) p1.place,zbe (zaw hd3) p1.fors,za5 (fun n:zBA=>Value.string n) (fun n:Bool=>Value.bool n) (zaw hd4) p1.skips,zv0 hd5.v p1.lines,cells b4 [hd6.v,.map (some (zaw hd7)),.map (some (zaw hd8)),.map (some (zaw hd9)),hd10.v] 79,zv0 hd6.v p2.units,za5 (fun n:zBA=>Value.string n) (fun n:Int=>Value.int .i64 n) (zaw hd7) p2.place,zbe (zaw hd8) p2.fors,za5 (fun n:zBA=>Value.string n) (fun n:Bool=>Value.bool n) (zaw hd9) p2.skips,zv0 hd10.v p2.lines,cells b5 [hd11.v] 38,zv0 hd11.v l1,cells b6 [.slice none 0 0] 38,zej ((ds1:List Nat).map zdW)]
 obtain ⟨j2,hj2,h⟩:=zbT h
 refine za2 (β:=(List zBA)×Hd×(List Nat)) 0 rfl (fun b=>j2 b.1=some r) (fun b=>zdp b.2.2) (fun b=>[(1,.string a2),(7,zP b2),(9,zP b4),(11,zI c1),(12,zI i1),(13,zI d1),(14,zI k1),(15,zP b5),(16,zP b6)]) (fun b=>[cells b2 [hd1.v,.map (some (zaw hd2)),.map (some (zaw hd3)),.map (some (zaw hd4)),hd5.v] 79,zv0 hd1.v p1.units,za5 (fun n:zBA=>Value.string n) (fun n:Int=>Value.int .i64 n) (zaw hd2) p1.place,zbe (zaw hd3) p1.fors,za5 (fun n:zBA=>Value.string n) (fun n:Bool=>Value.bool n) (zaw hd4) p1.skips,zv0 hd5.v p1.lines,cells b4 [hd6.v,.map (some (zaw hd7)),.map (some (zaw hd8)),.map (some (zaw hd9)),hd10.v] 79,zv0 hd6.v p2.units,za5 (fun n:zBA=>Value.string n) (fun n:Int=>Value.int .i64 n) (zaw hd7) p2.place,zbe (zaw hd8) p2.fors,za5 (fun n:zBA=>Value.string n) (fun n:Bool=>Value.bool n) (zaw hd9) p2.skips,zv0 hd10.v p2.lines,cells b5 [hd11.v] 38,zv0 hd11.v l1,cells b6 [b.2.1.v] 38,zv0 b.2.1.v b.1,zej ((b.2.2:List Nat).map zdW)]) (fun cut => ?_) ?_
 ·
  refine cut (zyG (zyR 1 rfl ?_))
  obtain ⟨r11,hq14,h⟩:=zbx h
  refine zh4 (vs:=[zP b4]) (Rd.nil:Rd _ _ []) rfl dc rfl rfl rfl zxn (zfw (bo1:=b4) (o1:=p2) (o1_h0:=hd6) (o1_h1:=hd7) (o1_h2:=hd8) (o1_h3:=hd9) (o1_h4:=hd10) hq14) Splits.nil (.own (zaa [6] kr rfl) (fun _ _ h=>sepL.one1.1 h) (.own (zaa [7] kr rfl) (fun _ _ h=>sepL.one1.1 h) (.own (zaa [8] kr rfl) (fun _ _ h=>sepL.one1.1 h) (.own (zaa [9] kr rfl) (fun _ _ h=>sepL.one1.1 h) (.own (zaa [10] kr rfl) (fun _ _ h=>sepL.one1.1 h) (.own (zaa [11] kr rfl) (fun _ _ h=>sepL.one1.1 h) .nil)))))) ?_
  rintro b11
  show TO _ _ _ _ _ _ _ _ _ _ [cells b2 [hd1.v,.map (some (zaw hd2)),.map (some (zaw hd3)),.map (some (zaw hd4)),hd5.v] 79,zv0 hd1.v p1.units,za5 (fun n:zBA=>Value.string n) (fun n:Int=>Value.int .i64 n) (zaw hd2) p1.place,zbe (zaw hd3) p1.fors,za5 (fun n:zBA=>Value.string n) (fun n:Bool=>Value.bool n) (zaw hd4) p1.skips,zv0 hd5.v p1.lines,cells b4 [hd6.v,.map (some (zaw hd7)),.map (some (zaw hd8)),.map (some (zaw hd9)),hd10.v] 79,zv0 hd6.v p2.units,za5 (fun n:zBA=>Value.string n) (fun n:Int=>Value.int .i64 n) (zaw hd7) p2.place,zbe (zaw hd8) p2.fors,za5 (fun n:zBA=>Value.string n) (fun n:Bool=>Value.bool n) (zaw hd9) p2.skips,zv0 hd10.v p2.lines,cells b5 [hd11.v] 38,zv0 hd11.v l1,cells b6 [.slice none 0 0] 38,zej ((ds1:List Nat).map zdW),cells b11 [zP b4] 23]
  refine zyN (zaA ?_)
  obtain ⟨its2,hq15,h⟩:=zbx h
  refine ze2 (enc:=zgU) (e:=9) (size:=1) ?_
  show TC _ _ _ _ _ _ _ _ _ [cells b2 [hd1.v,.map (some (zaw hd2)),.map (some (zaw hd3)),.map (some (zaw hd4)),hd5.v] 79,zv0 hd1.v p1.units,za5 (fun n:zBA=>Value.string n) (fun n:Int=>Value.int .i64 n) (zaw hd2) p1.place,zbe (zaw hd3) p1.fors,za5 (fun n:zBA=>Value.string n) (fun n:Bool=>Value.bool n) (zaw hd4) p1.skips,zv0 hd5.v p1.lines,cells b4 [hd6.v,.map (some (zaw hd7)),.map (some (zaw hd8)),.map (some (zaw hd9)),hd10.v] 79,zv0 hd6.v p2.units,za5 (fun n:zBA=>Value.string n) (fun n:Int=>Value.int .i64 n) (zaw hd7) p2.place,zbe (zaw hd8) p2.fors,za5 (fun n:zBA=>Value.string n) (fun n:Bool=>Value.bool n) (zaw hd9) p2.skips,zv0 hd10.v p2.lines,cells b5 [hd11.v] 38,zv0 hd11.v l1,cells b6 [.slice none 0 0] 38,zej ((ds1:List Nat).map zdW),cells b11 [zP b4] 23,zv0 (.slice none 0 0) ([]:List zBA)]
  obtain ⟨dn2,hdn2,h⟩:=zbT h
  refine zod (α:=zBA) (β:=(List zBA)×Hd) (γ:=Unit) (δ:=Unit) (ps:=[71]) (Rd.nil:Rd _ _ []) Ro.nil rfl zxl (ze0 hq15) (fun pre b=>∀ post,its2=pre++post→zb4 dn2 (zcn) post b.1=some r) (fun pre b=>[cells b2 [hd1.v,.map (some (zaw hd2)),.map (some (zaw hd3)),.map (some (zaw hd4)),hd5.v] 79,zv0 hd1.v p1.units,za5 (fun n:zBA=>Value.string n) (fun n:Int=>Value.int .i64 n) (zaw hd2) p1.place,zbe (zaw hd3) p1.fors,za5 (fun n:zBA=>Value.string n) (fun n:Bool=>Value.bool n) (zaw hd4) p1.skips,zv0 hd5.v p1.lines,cells b5 [hd11.v] 38,zv0 hd11.v l1,cells b6 [b.2.v] 38,zv0 b.2.v b.1]) (fun c pre g=>False) (fun c pre g=>[]) (fun pre x b j=>[(1,.string a2),(7,zP b2),(9,zP b4),(11,zI c1),(12,zI i1),(13,zI d1),(14,zI k1),(15,zP b5),(16,zP b6),(70,.func (.func 39) #[] #[zP b11]),(18,.string x)]) (fun pre x b j=>[cells b2 [hd1.v,.map (some (zaw hd2)),.map (some (zaw hd3)),.map (some (zaw hd4)),hd5.v] 79,zv0 hd1.v p1.units,za5 (fun n:zBA=>Value.string n) (fun n:Int=>Value.int .i64 n) (zaw hd2) p1.place,zbe (zaw hd3) p1.fors,za5 (fun n:zBA=>Value.string n) (fun n:Bool=>Value.bool n) (zaw hd4) p1.skips,zv0 hd5.v p1.lines,cells b5 [hd11.v] 38,zv0 hd11.v l1,cells b6 [b.2.v] 38,zv0 b.2.v b.1]) (([]:List zBA),Hd.nil) (fun post e=>by rw [List.nil_append] at e; subst e; exact h) (zaa [0,1,2,3,4,5,12,13,14,17] kr rfl) (.own (As:=[cells b11 [zP b4] 23]) (zaa [16] kr rfl) (fun _ _ h=>sepL.one1.1 h) (.own (As:=[cells b4 [hd6.v,.map (some (zaw hd7)),.map (some (zaw hd8)),.map (some (zaw hd9)),hd10.v] 79]) (zaa [6] kr rfl) (fun _ _ h=>sepL.one1.1 h) (.own (As:=[zv0 hd6.v p2.units]) (zaa [7] kr rfl) (fun _ _ h=>sepL.one1.1 h) (.own (As:=[za5 (fun n:zBA=>Value.string n) (fun n:Int=>Value.int .i64 n) (zaw hd7) p2.place]) (zaa [8] kr rfl) (fun _ _ h=>sepL.one1.1 h) (.own (As:=[zbe (zaw hd8) p2.fors]) (zaa [9] kr rfl) (fun _ _ h=>sepL.one1.1 h) (.own (As:=[za5 (fun n:zBA=>Value.string n) (fun n:Bool=>Value.bool n) (zaw hd9) p2.skips]) (zaa [10] kr rfl) (fun _ _ h=>sepL.one1.1 h) (.own (As:=[zv0 hd10.v p2.lines]) (zaa [11] kr rfl) (fun _ _ h=>sepL.one1.1 h) .nil))))))) (fun _=>rfl) dc ?_ ?_ ?_ ?_
  ·
   rintro lp rc pre x2 post ⟨m4,hd19⟩ w1 K1 hxs2 hext hro hinv
   refine zao (zyR 1 rfl (zaE ?_))
   exact fun a w ha hw=>⟨(),(za9 rfl) _ _ _ ha,hw.weaken (zaa [0,1,2,3,4,5,6,7,8,9] kr rfl)⟩
  ·
   rintro lp rc pre x2 post2 ⟨m4,hd19⟩ _ w1 K1 hxs2 hext hro hinv
   have h:=hinv (x2::post2) hxs2
   obtain ⟨ag2,hag2⟩:∃ ag,ag=zb4 dn2 (zcn) post2:=⟨_,rfl⟩
   have h:zcn x2 ag2 m4=some r:=by have h2:=h; rw [zbQ,← hag2] at h2; exact h2
   unfold zcn at h
   show TC _ _ _ _ _ _ _ _ [(1,.string a2),(7,zP b2),(9,zP b4),(11,zI c1),(12,zI i1),(13,zI d1),(14,zI k1),(15,zP b5),(16,zP b6),(70,.func (.func 39) #[] #[zP b11]),(18,.string x2)] [cells b2 [hd1.v,.map (some (zaw hd2)),.map (some (zaw hd3)),.map (some (zaw hd4)),hd5.v] 79,zv0 hd1.v p1.units,za5 (fun n:zBA=>Value.string n) (fun n:Int=>Value.int .i64 n) (zaw hd2) p1.place,zbe (zaw hd3) p1.fors,za5 (fun n:zBA=>Value.string n) (fun n:Bool=>Value.bool n) (zaw hd4) p1.skips,zv0 hd5.v p1.lines,cells b5 [hd11.v] 38,zv0 hd11.v l1,cells b6 [hd19.v] 38,zv0 hd19.v m4]
   refine zaA (zao (zan (k:=8) zgY rfl dc rfl rfl rfl (zyR 1 rfl ?_)))
   refine zaX (cs:=[.string x2]) (te:=9) (ps:=[(0,.tmp 73)]) rfl dc rfl (fun _=>by kernel_rfl) (fun b12 => ?_)
   obtain ⟨hg2,h⟩:=zcg h
   refine zbP (k:=9) (k2:=10) (ys:=[x2]) underlying38 zvL zcq zhX rfl dc rfl rfl rfl rfl rfl rfl hg2 (fun v4 => ?_)
   refine zcr (k:=9) rfl (fun hd20 he2 => ?_)
   subst he2
   show TO _ _ _ _ _ _ _ _ _ _ [cells b2 [hd1.v,.map (some (zaw hd2)),.map (some (zaw hd3)),.map (some (zaw hd4)),hd5.v] 79,zv0 hd1.v p1.units,za5 (fun n:zBA=>Value.string n) (fun n:Int=>Value.int .i64 n) (zaw hd2) p1.place,zbe (zaw hd3) p1.fors,za5 (fun n:zBA=>Value.string n) (fun n:Bool=>Value.bool n) (zaw hd4) p1.skips,zv0 hd5.v p1.lines,cells b5 [hd11.v] 38,zv0 hd11.v l1,cells b6 [hd19.v] 38,zv0 hd20.v (m4++[x2]),cells b12 [.string x2] 9]
   refine zaP (k:=8) (l':=[hd20.v]) zqf rfl rfl rfl rfl rfl (fun _ _=>rfl) rfl ?_
   refine zaE (zae ?_)
   exact zcC (m4++[x2],hd20) (fun post2 e2=>by have e9:=zb7 hxs2 e2; subst e9; subst hag2; exact h) (zaa [0,1,2,3,4,5,6,7,8,9] kr rfl)
  ·
   rintro dm2 ⟨m4,hd19⟩ hinv
   have h:dn2 m4=some r:=hinv [] (List.append_nil _).symm
   rw [hdn2] at h
   show TX _ _ _ _ _ _ _ [emp,emp,emp,emp,emp,emp,cells b4 [hd6.v,.map (some (zaw hd7)),.map (some (zaw hd8)),.map (some (zaw hd9)),hd10.v] 79,zv0 hd6.v p2.units,za5 (fun n:zBA=>Value.string n) (fun n:Int=>Value.int .i64 n) (zaw hd7) p2.place,zbe (zaw hd8) p2.fors,za5 (fun n:zBA=>Value.string n) (fun n:Bool=>Value.bool n) (zaw hd9) p2.skips,zv0 hd10.v p2.lines,emp,emp,emp,zej ((ds1:List Nat).map zdW),cells b11 [zP b4] 23,emp,cells b2 [hd1.v,.map (some (zaw hd2)),.map (some (zaw hd3)),.map (some (zaw hd4)),hd5.v] 79,zv0 hd1.v p1.units,za5 (fun n:zBA=>Value.string n) (fun n:Int=>Value.int .i64 n) (zaw hd2) p1.place,zbe (zaw hd3) p1.fors,za5 (fun n:zBA=>Value.string n) (fun n:Bool=>Value.bool n) (zaw hd4) p1.skips,zv0 hd5.v p1.lines,cells b5 [hd11.v] 38,zv0 hd11.v l1,cells b6 [hd19.v] 38,zv0 hd19.v m4,zdW dm2]
   refine zdU (k:=28) (j:=15) rfl rfl dc ?_
   show TX _ _ _ _ _ _ _ [emp,emp,emp,emp,emp,emp,cells b4 [hd6.v,.map (some (zaw hd7)),.map (some (zaw hd8)),.map (some (zaw hd9)),hd10.v] 79,zv0 hd6.v p2.units,za5 (fun n:zBA=>Value.string n) (fun n:Int=>Value.int .i64 n) (zaw hd7) p2.place,zbe (zaw hd8) p2.fors,za5 (fun n:zBA=>Value.string n) (fun n:Bool=>Value.bool n) (zaw hd9) p2.skips,zv0 hd10.v p2.lines,emp,emp,emp,zej ((dm2::ds1:List Nat).map zdW),cells b11 [zP b4] 23,emp,cells b2 [hd1.v,.map (some (zaw hd2)),.map (some (zaw hd3)),.map (some (zaw hd4)),hd5.v] 79,zv0 hd1.v p1.units,za5 (fun n:zBA=>Value.string n) (fun n:Int=>Value.int .i64 n) (zaw hd2) p1.place,zbe (zaw hd3) p1.fors,za5 (fun n:zBA=>Value.string n) (fun n:Bool=>Value.bool n) (zaw hd4) p1.skips,zv0 hd5.v p1.lines,cells b5 [hd11.v] 38,zv0 hd11.v l1,cells b6 [hd19.v] 38,zv0 hd19.v m4,emp]
   refine zae ?_
   exact zaj (m4,hd19,dm2::ds1) h rfl (za9 rfl) (zaa [18,19,20,21,22,23,6,7,8,9,10,11,24,25,26,27,15] kr rfl)
  rintro dm2 c pre x2 post g hxs hX
  exact (show False from hX).elim
 rintro ⟨m1,hd16,ds2⟩ h
 rw [hj2] at h
 show TC _ _ _ _ _ (zdp ds2) _ _ [(1,.string a2),(7,zP b2),(9,zP b4),(11,zI c1),(12,zI i1),(13,zI d1),(14,zI k1),(15,zP b5),(16,zP b6)] [cells b2 [hd1.v,.map (some (zaw hd2)),.map (some (zaw hd3)),.map (some (zaw hd4)),hd5.v] 79,zv0 hd1.v p1.units,za5 (fun n:zBA=>Value.string n) (fun n:Int=>Value.int .i64 n) (zaw hd2) p1.place,zbe (zaw hd3) p1.fors,za5 (fun n:zBA=>Value.string n) (fun n:Bool=>Value.bool n) (zaw hd4) p1.skips,zv0 hd5.v p1.lines,cells b4 [hd6.v,.map (some (zaw hd7)),.map (some (zaw hd8)),.map (some (zaw hd9)),hd10.v] 79,zv0 hd6.v p2.units,za5 (fun n:zBA=>Value.string n) (fun n:Int=>Value.int .i64 n) (zaw hd7) p2.place,zbe (zaw hd8) p2.fors,za5 (fun n:zBA=>Value.string n) (fun n:Bool=>Value.bool n) (zaw hd9) p2.skips,zv0 hd10.v p2.lines,cells b5 [hd11.v] 38,zv0 hd11.v l1,cells b6 [hd16.v] 38,zv0 hd16.v m1,zej ((ds2:List Nat).map zdW)]
 refine zaM (zyG (zan (k:=12) zgY rfl dc rfl rfl rfl (zdB (k:=13) rfl dc rfl rfl underlying38 (zan (k:=14) zgY rfl dc rfl rfl rfl (zdB (k:=15) rfl dc rfl rfl underlying38 (zaW rfl zfr (zyR 1 rfl ?_)))))))
 refine zyS (s:=81) rfl h (fun h => ?_) (fun h => ?_)
 ·
  refine zyR 4 rfl (zyN (zcf rfl (zyG (zyR 1 rfl (zyN (zaD (zai ?_)))))))
  cases h
  exact zdj (rs:=[.tmp 6]) ds2 () (.inl rfl) (zbf (k:=16) rfl) results4 (.cons (.tmp rfl) .nil) rfl Splits.nil
 refine zan (k:=12) zgY rfl dc rfl rfl rfl (zdB (k:=13) rfl dc rfl rfl underlying38 (zaW rfl zbE (zyR 1 rfl (zyN ?_))))
 refine zyB rfl h (fun h => ?_) (fun h => ?_)
 ·
  refine zyG (zyR 1 rfl (zyN (zaD (zai ?_))))
  cases h
  exact zdj (rs:=[.tmp 6]) ds2 () (.inl rfl) (zbf (k:=16) rfl) results4 (.cons (.tmp rfl) .nil) rfl Splits.nil
 refine zaq (zaG ?_)
 obtain ⟨j3,hj3,h⟩:=zbT h
 refine za2 (β:=Unit) 0 rfl (fun b=>j3=some r) (fun b=>zdp ds2) (fun b=>[(1,.string a2),(7,zP b2),(9,zP b4),(11,zI c1),(12,zI i1),(13,zI d1),(14,zI k1)]) (fun b=>[cells b2 [hd1.v,.map (some (zaw hd2)),.map (some (zaw hd3)),.map (some (zaw hd4)),hd5.v] 79,zv0 hd1.v p1.units,za5 (fun n:zBA=>Value.string n) (fun n:Int=>Value.int .i64 n) (zaw hd2) p1.place,zbe (zaw hd3) p1.fors,za5 (fun n:zBA=>Value.string n) (fun n:Bool=>Value.bool n) (zaw hd4) p1.skips,zv0 hd5.v p1.lines,cells b4 [hd6.v,.map (some (zaw hd7)),.map (some (zaw hd8)),.map (some (zaw hd9)),hd10.v] 79,zv0 hd6.v p2.units,za5 (fun n:zBA=>Value.string n) (fun n:Int=>Value.int .i64 n) (zaw hd7) p2.place,zbe (zaw hd8) p2.fors,za5 (fun n:zBA=>Value.string n) (fun n:Bool=>Value.bool n) (zaw hd9) p2.skips,zv0 hd10.v p2.lines,zej ((ds2:List Nat).map zdW)]) (fun cut => ?_) ?_
 ·
  refine cut (zyG (zan (k:=12) zgY rfl dc rfl rfl rfl (zdB (k:=13) rfl dc rfl rfl underlying38 (zyR 1 rfl (zyN (zaA ?_))))))
  refine zbS (β:=Nat×Int) (fun b=>zaU (fun _=>none) (zcm p1 l1 m1 j3) b.1 b.2=some r) (fun b=>zdp ds2) (fun b=>[(1,.string a2),(7,zP b2),(9,zP b4),(11,zI c1),(12,zI i1),(13,zI d1),(14,zI k1),(15,zP b5),(16,zP b6),(87,zI (l1.length:Int)),(88,zI b.2)]) (fun b=>[cells b2 [hd1.v,.map (some (zaw hd2)),.map (some (zaw hd3)),.map (some (zaw hd4)),hd5.v] 79,zv0 hd1.v p1.units,za5 (fun n:zBA=>Value.string n) (fun n:Int=>Value.int .i64 n) (zaw hd2) p1.place,zbe (zaw hd3) p1.fors,za5 (fun n:zBA=>Value.string n) (fun n:Bool=>Value.bool n) (zaw hd4) p1.skips,zv0 hd5.v p1.lines,cells b4 [hd6.v,.map (some (zaw hd7)),.map (some (zaw hd8)),.map (some (zaw hd9)),hd10.v] 79,zv0 hd6.v p2.units,za5 (fun n:zBA=>Value.string n) (fun n:Int=>Value.int .i64 n) (zaw hd7) p2.place,zbe (zaw hd8) p2.fors,za5 (fun n:zBA=>Value.string n) (fun n:Bool=>Value.bool n) (zaw hd9) p2.skips,zv0 hd10.v p2.lines,cells b5 [hd11.v] 38,zv0 hd11.v l1,cells b6 [hd16.v] 38,zv0 hd16.v m1,zej ((ds2:List Nat).map zdW)]) (fun b=>b.1) (zcG,0) h rfl (za9 rfl) (zaa [0,1,2,3,4,5,6,7,8,9,10,11,12,13,14,15,16] kr rfl) ?_
  rintro ⟨n1,x5⟩ h
  cases n1 with
  | zero=>exact zez h
  | succ n1 =>
   obtain ⟨ag3,hag3⟩:∃ ag,ag=zaU (fun _=>none) (zcm p1 l1 m1 j3) n1:=⟨_,rfl⟩
   have h:zcm p1 l1 m1 j3 ag3 x5=some r:=by rw [hag3]; exact h
   unfold zcm at h
   show TC _ _ _ _ _ (zdp ds2) _ _ [(1,.string a2),(7,zP b2),(9,zP b4),(11,zI c1),(12,zI i1),(13,zI d1),(14,zI k1),(15,zP b5),(16,zP b6),(87,zI (l1.length:Int)),(88,zI x5)] [cells b2 [hd1.v,.map (some (zaw hd2)),.map (some (zaw hd3)),.map (some (zaw hd4)),hd5.v] 79,zv0 hd1.v p1.units,za5 (fun n:zBA=>Value.string n) (fun n:Int=>Value.int .i64 n) (zaw hd2) p1.place,zbe (zaw hd3) p1.fors,za5 (fun n:zBA=>Value.string n) (fun n:Bool=>Value.bool n) (zaw hd4) p1.skips,zv0 hd5.v p1.lines,cells b4 [hd6.v,.map (some (zaw hd7)),.map (some (zaw hd8)),.map (some (zaw hd9)),hd10.v] 79,zv0 hd6.v p2.units,za5 (fun n:zBA=>Value.string n) (fun n:Int=>Value.int .i64 n) (zaw hd7) p2.place,zbe (zaw hd8) p2.fors,za5 (fun n:zBA=>Value.string n) (fun n:Bool=>Value.bool n) (zaw hd9) p2.skips,zv0 hd10.v p2.lines,cells b5 [hd11.v] 38,zv0 hd11.v l1,cells b6 [hd16.v] 38,zv0 hd16.v m1,zej ((ds2:List Nat).map zdW)]
   refine zyG (zaW rfl zbE (zyN (zaM ?_)))
   refine zyB rfl h (fun h => ?_) (fun h => ?_)
   ·
    refine zaq (zaG ?_)
    obtain ⟨j4,hj4,h⟩:=zbT h
    refine za2 (β:=Unit) 0 rfl (fun b=>j4=some r) (fun b=>zdp ds2) (fun b=>[(1,.string a2),(7,zP b2),(9,zP b4),(11,zI c1),(12,zI i1),(13,zI d1),(14,zI k1),(15,zP b5),(16,zP b6),(87,zI (l1.length:Int)),(88,zI x5)]) (fun b=>[cells b2 [hd1.v,.map (some (zaw hd2)),.map (some (zaw hd3)),.map (some (zaw hd4)),hd5.v] 79,zv0 hd1.v p1.units,za5 (fun n:zBA=>Value.string n) (fun n:Int=>Value.int .i64 n) (zaw hd2) p1.place,zbe (zaw hd3) p1.fors,za5 (fun n:zBA=>Value.string n) (fun n:Bool=>Value.bool n) (zaw hd4) p1.skips,zv0 hd5.v p1.lines,cells b4 [hd6.v,.map (some (zaw hd7)),.map (some (zaw hd8)),.map (some (zaw hd9)),hd10.v] 79,zv0 hd6.v p2.units,za5 (fun n:zBA=>Value.string n) (fun n:Int=>Value.int .i64 n) (zaw hd7) p2.place,zbe (zaw hd8) p2.fors,za5 (fun n:zBA=>Value.string n) (fun n:Bool=>Value.bool n) (zaw hd9) p2.skips,zv0 hd10.v p2.lines,cells b5 [hd11.v] 38,zv0 hd11.v l1,cells b6 [hd16.v] 38,zv0 hd16.v m1,zej ((ds2:List Nat).map zdW)]) (fun cut => ?_) ?_
    ·
     refine cut (zaA (zyG (zyR 2 rfl (zyN (zaM (zaM ?_))))))
     obtain ⟨q1,hq16,h⟩:=zbx h
     obtain ⟨q2,hq17,h⟩:=zbx h
     refine zdh 8 [(0,91,hd11.v),(1,92,zI x5),(2,93,.pointer (some ⟨zh6 hd11.v,(x5:Int).toNat*1,none⟩)),(3,94,.string q1),(4,95,hd16.v),(5,96,zI x5),(6,97,.pointer (some ⟨zh6 hd16.v,(x5:Int).toNat*1,none⟩)),(7,98,.string q2)] mixed kr kr dc (by rfl) kr kr (zad ?_ (zyP 1 1 rfl (zad ?_ (zad ?_ (zad ?_ (zyP 1 5 rfl (zad ?_ (zad ?_ DrawPre.nil)))))))) ?_
     · exact fun D n d c u i=>zan (k:=12) zgY rfl dc (za8 (by rfl) rfl) rfl rfl (zaK 0 u i)
     · exact fun D n d c u i=>zbo (k:=13) hq16 underlying38 ziS rfl dc (zaT 0 u d) (zaT 1 u d) rfl rfl (zaK 2 u i)
     · exact fun D n d c u i=>zcv (i:=(x5:Int).toNat) (j:=0) (k:=13) (q:=q1) ze4 zcq rfl dc (zaT 2 u d) rfl (zcj hq16) rfl dc rfl (zaK 3 u i)
     · exact fun D n d c u i=>zan (k:=14) zgY rfl dc (za8 (by rfl) rfl) rfl rfl (zaK 4 u i)
     · exact fun D n d c u i=>zbo (k:=15) hq17 underlying38 ziS rfl dc (zaT 4 u d) (zaT 5 u d) rfl rfl (zaK 6 u i)
     · exact fun D n d c u i=>zcv (i:=(x5:Int).toNat) (j:=0) (k:=15) (q:=q2) ze4 zcq rfl dc (zaT 6 u d) rfl (zcj hq17) rfl dc rfl (zaK 7 u i)
     refine zaW rfl zjx (zyN ?_)
     refine zyB rfl h (fun h => ?_) (fun h => ?_)
     ·
      refine zyG (zyR 1 rfl (zyN (zaD (zai (zal (zai (zai (zal (zai ?_)))))))))
      cases h
      exact zdj (rs:=[.tmp 6]) ds2 () (.inl rfl) (zbf (k:=16) rfl) results4 (.cons (.tmp rfl) .nil) rfl Splits.nil
     refine zaq (zaG (zyG (zyR 1 rfl (zaW rfl zeR (zyN ?_)))))
     refine zyB rfl h (fun h => ?_) (fun h => ?_)
     ·
      refine zaM ?_
      obtain ⟨hg3,h⟩:=zcg h
      obtain ⟨q3,hq18,h⟩:=zbx h
      obtain ⟨q4,hq19,h⟩:=zbx h
      obtain ⟨r12,hq20,h⟩:=zbx h
      refine zdh 15 [(0,103,zP b2),(1,104,hd11.v),(2,105,zI x5),(3,106,zI (x5 - 1)),(4,107,.pointer (some ⟨zh6 hd11.v,(x5 - 1:Int).toNat*1,none⟩)),(5,108,.string q3),(6,109,hd11.v),(7,110,zI x5),(8,111,.pointer (some ⟨zh6 hd11.v,(x5:Int).toNat*1,none⟩)),(9,112,.string q4),(10,113,.tuple #[zI r12.1,zI r12.2]),(11,102,.tuple #[zI r12.1,zI r12.2]),(12,114,zI r12.1),(13,115,zI r12.2),(14,20,zI r12.1)] mixed kr kr dc (by rfl) kr kr (zyP 1 0 rfl (zad ?_ (zyP 1 2 rfl (zad ?_ (zad ?_ (zad ?_ (zad ?_ (zyP 1 7 rfl (zad ?_ (zad ?_ (zad ?_ (zyP 1 11 rfl (zad ?_ (zad ?_ (zyP 1 14 rfl DrawPre.nil))))))))))))))) ?_
      · exact fun D n d c u i=>zan (k:=12) zgY rfl dc (za8 (by rfl) rfl) rfl rfl (zaK 1 u i)
      · exact fun D n d c u i=>zhj rfl dc (zaT 2 u d) rfl (zgE (r:=x5 - 1) (IntWalk.i64_in _ hg3)) (zaK 3 u i)
      · exact fun D n d c u i=>zbo (k:=13) hq18 underlying38 ziS rfl dc (zaT 1 u d) (zaT 3 u d) rfl rfl (zaK 4 u i)
      · exact fun D n d c u i=>zcv (i:=(x5 - 1:Int).toNat) (j:=0) (k:=13) (q:=q3) ze4 zcq rfl dc (zaT 4 u d) rfl (zcj hq18) rfl dc rfl (zaK 5 u i)
      · exact fun D n d c u i=>zan (k:=12) zgY rfl dc (za8 (by rfl) rfl) rfl rfl (zaK 6 u i)
      · exact fun D n d c u i=>zbo (k:=13) hq19 underlying38 ziS rfl dc (zaT 6 u d) (zaT 7 u d) rfl rfl (zaK 8 u i)
      · exact fun D n d c u i=>zcv (i:=(x5:Int).toNat) (j:=0) (k:=13) (q:=q4) ze4 zcq rfl dc (zaT 8 u d) rfl (zcj hq19) rfl dc rfl (zaK 9 u i)
      · exact fun D n d c u i=>zdn (v:=.tuple #[zI r12.1,zI r12.2]) (vs:=[zP b2,.string q3,.string q4]) (Rd.nil:Rd _ _ []) rfl dc rfl (evL.cons (zaT 0 u d) (evL.cons (zaT 5 u d) (evL.cons (zaT 9 u d) evL.nil))) rfl ztU (zdf (bo1:=b2) (o1:=p1) (o1_h0:=hd1) (o1_h1:=hd2) (o1_h2:=hd3) (o1_h3:=hd4) (o1_h4:=hd5) hq20) (.own (zaa [0] kr rfl) (fun _ _ h=>sepL.one1.1 h) (.own (zaa [1] kr rfl) (fun _ _ h=>sepL.one1.1 h) (.own (zaa [2] kr rfl) (fun _ _ h=>sepL.one1.1 h) (.own (zaa [3] kr rfl) (fun _ _ h=>sepL.one1.1 h) (.own (zaa [4] kr rfl) (fun _ _ h=>sepL.one1.1 h) (.own (zaa [5] kr rfl) (fun _ _ h=>sepL.one1.1 h) .nil)))))) (zaK 10 u i)
      · exact fun D n d c u i=>zaH rfl dc (zaT 11 u d) rfl (zaK 12 u i)
      · exact fun D n d c u i=>zaH rfl dc (zaT 11 u d) rfl (zaK 13 u i)
      refine zyR 1 rfl (zyH (zyR 1 rfl (zaW rfl zfr (zyR 1 rfl ?_))))
      refine zyS (s:=118) rfl h (fun h => ?_) (fun h => ?_)
      ·
       refine zyR 3 rfl (zyN (zcf rfl (zyG (zyR 1 rfl (zyN (zaD (zal (zai ?_))))))))
       refine zai (zal (zai ?_))
       cases h
       exact zdj (rs:=[.tmp 6]) ds2 () (.inl rfl) (zbf (k:=16) rfl) results4 (.cons (.tmp rfl) .nil) rfl Splits.nil
      refine zyR 1 rfl (zaW rfl zfr (zyR 1 rfl (zyN ?_)))
      refine zyB rfl h (fun h => ?_) (fun h => ?_)
      ·
       refine zyG (zyR 1 rfl (zyN (zaD (zal (zai (zai (zal (zai ?_))))))))
       cases h
       exact zdj (rs:=[.tmp 6]) ds2 () (.inl rfl) (zbf (k:=16) rfl) results4 (.cons (.tmp rfl) .nil) rfl Splits.nil
      refine zaq (zae ?_)
      exact zaj () h rfl (za9 rfl) (zaa [0,1,2,3,4,5,6,7,8,9,10,11,12,13,14,15,16] kr rfl)
     refine zaq (zae ?_)
     exact zaj () h rfl (za9 rfl) (zaa [0,1,2,3,4,5,6,7,8,9,10,11,12,13,14,15,16] kr rfl)
    rintro _ h
    rw [hj4] at h
    show TC _ _ _ _ _ (zdp ds2) _ _ [(1,.string a2),(7,zP b2),(9,zP b4),(11,zI c1),(12,zI i1),(13,zI d1),(14,zI k1),(15,zP b5),(16,zP b6),(87,zI (l1.length:Int)),(88,zI x5)] [cells b2 [hd1.v,.map (some (zaw hd2)),.map (some (zaw hd3)),.map (some (zaw hd4)),hd5.v] 79,zv0 hd1.v p1.units,za5 (fun n:zBA=>Value.string n) (fun n:Int=>Value.int .i64 n) (zaw hd2) p1.place,zbe (zaw hd3) p1.fors,za5 (fun n:zBA=>Value.string n) (fun n:Bool=>Value.bool n) (zaw hd4) p1.skips,zv0 hd5.v p1.lines,cells b4 [hd6.v,.map (some (zaw hd7)),.map (some (zaw hd8)),.map (some (zaw hd9)),hd10.v] 79,zv0 hd6.v p2.units,za5 (fun n:zBA=>Value.string n) (fun n:Int=>Value.int .i64 n) (zaw hd7) p2.place,zbe (zaw hd8) p2.fors,za5 (fun n:zBA=>Value.string n) (fun n:Bool=>Value.bool n) (zaw hd9) p2.skips,zv0 hd10.v p2.lines,cells b5 [hd11.v] 38,zv0 hd11.v l1,cells b6 [hd16.v] 38,zv0 hd16.v m1,zej ((ds2:List Nat).map zdW)]
    refine zao ?_
    obtain ⟨hg4,h⟩:=zcg h
    refine zaW rfl (zbi (r:=x5+1) (IntWalk.i64_in _ hg4)) (zyR 1 rfl (zaE ?_))
    subst hag3
    exact zbv (n1,x5+1) h (Nat.lt_succ_self _) rfl (za9 rfl) (zaa [0,1,2,3,4,5,6,7,8,9,10,11,12,13,14,15,16] kr rfl)
   refine zbG (zap (zap (zaI ?_)))
   exact zaj () h rfl (za9 rfl) (zaa [0,1,2,3,4,5,6,7,8,9,10,11,16] kr rfl)
 rintro _ h
 rw [hj3] at h
 show TC _ _ _ _ _ (zdp ds2) _ _ [(1,.string a2),(7,zP b2),(9,zP b4),(11,zI c1),(12,zI i1),(13,zI d1),(14,zI k1)] [cells b2 [hd1.v,.map (some (zaw hd2)),.map (some (zaw hd3)),.map (some (zaw hd4)),hd5.v] 79,zv0 hd1.v p1.units,za5 (fun n:zBA=>Value.string n) (fun n:Int=>Value.int .i64 n) (zaw hd2) p1.place,zbe (zaw hd3) p1.fors,za5 (fun n:zBA=>Value.string n) (fun n:Bool=>Value.bool n) (zaw hd4) p1.skips,zv0 hd5.v p1.lines,cells b4 [hd6.v,.map (some (zaw hd7)),.map (some (zaw hd8)),.map (some (zaw hd9)),hd10.v] 79,zv0 hd6.v p2.units,za5 (fun n:zBA=>Value.string n) (fun n:Int=>Value.int .i64 n) (zaw hd7) p2.place,zbe (zaw hd8) p2.fors,za5 (fun n:zBA=>Value.string n) (fun n:Bool=>Value.bool n) (zaw hd9) p2.skips,zv0 hd10.v p2.lines,zej ((ds2:List Nat).map zdW)]
 refine zyG (zyR 2 rfl (zaW rfl zbn (zyR 1 rfl ?_)))
 refine zyS (s:=126) rfl h (fun h => ?_) (fun h => ?_)
 ·
  refine zyR 2 rfl (zaW rfl zbn (zyR 2 rfl ?_))
  refine zyS (s:=131) rfl h (fun h => ?_) (fun h => ?_)
  ·
   refine zyR 2 rfl ?_
   obtain ⟨r13,hq21,h⟩:=zbx h
   refine zdn (v:=.string r13) (vs:=[zP b2,.string a2]) (Rd.nil:Rd _ _ []) rfl dc rfl rfl rfl zvI (zd3 (bo1:=b2) (o1:=p1) (o1_h0:=hd1) (o1_h1:=hd2) (o1_h2:=hd3) (o1_h3:=hd4) (o1_h4:=hd5) hq21) (.own (zaa [0] kr rfl) (fun _ _ h=>sepL.one1.1 h) (.own (zaa [1] kr rfl) (fun _ _ h=>sepL.one1.1 h) (.own (zaa [2] kr rfl) (fun _ _ h=>sepL.one1.1 h) (.own (zaa [3] kr rfl) (fun _ _ h=>sepL.one1.1 h) (.own (zaa [4] kr rfl) (fun _ _ h=>sepL.one1.1 h) (.own (zaa [5] kr rfl) (fun _ _ h=>sepL.one1.1 h) .nil)))))) ?_
   refine zyR 2 rfl ?_
   obtain ⟨r14,hq22,h⟩:=zbx h
   refine zdn (v:=.string r14) (vs:=[zP b4,.string a2]) (Rd.nil:Rd _ _ []) rfl dc rfl rfl rfl zvI (zd3 (bo1:=b4) (o1:=p2) (o1_h0:=hd6) (o1_h1:=hd7) (o1_h2:=hd8) (o1_h3:=hd9) (o1_h4:=hd10) hq22) (.own (zaa [6] kr rfl) (fun _ _ h=>sepL.one1.1 h) (.own (zaa [7] kr rfl) (fun _ _ h=>sepL.one1.1 h) (.own (zaa [8] kr rfl) (fun _ _ h=>sepL.one1.1 h) (.own (zaa [9] kr rfl) (fun _ _ h=>sepL.one1.1 h) (.own (zaa [10] kr rfl) (fun _ _ h=>sepL.one1.1 h) (.own (zaa [11] kr rfl) (fun _ _ h=>sepL.one1.1 h) .nil)))))) ?_
   refine zaW rfl zeL (zyR 2 rfl ?_)
   refine zyS (s:=140) rfl h (fun h => ?_) (fun h => ?_)
   ·
    obtain ⟨r15,hq23,h⟩:=zbx h
    refine zaQ (v:=.bool r15) (vs:=[]) rfl dc rfl rfl rfl zzt (zik hq23) (zyR 2 rfl (zyN (zaD ?_)))
    cases h
    exact zdj (rs:=[.tmp 6]) ds2 () (.inl rfl) (zbf (k:=12) rfl) results4 (.cons (.tmp rfl) .nil) rfl Splits.nil
   refine zyR 3 rfl (zyN (zaD ?_))
   cases h
   exact zdj (rs:=[.tmp 6]) ds2 () (.inl rfl) (zbf (k:=12) rfl) results4 (.cons (.tmp rfl) .nil) rfl Splits.nil
  refine zyR 12 rfl (zyN ?_)
  refine zaD ?_
  cases h
  exact zdj (rs:=[.tmp 6]) ds2 () (.inl rfl) (zbf (k:=12) rfl) results4 (.cons (.tmp rfl) .nil) rfl Splits.nil
 refine zyR 14 rfl ?_
 refine zyR 3 rfl (zyN (zaD ?_))
 cases h
 exact zdj (rs:=[.tmp 6]) ds2 () (.inl rfl) (zbf (k:=12) rfl) results4 (.cons (.tmp rfl) .nil) rfl Splits.nil
theorem zuF (dn:List zBA→Option Bool):∀ (xs acc:List zBA),acc.length+xs.length≤2147483648→zb4 dn zco xs acc=dn (acc++xs)
 | [],acc,_=>by rw [zfY,List.append_nil]
 | x::xs,acc,h=>by
  rw [List.length_cons] at h
  rw [zbQ]
  generalize hag:zb4 dn zco xs=ag
  unfold zco
  refine zct (by omega) ?_
  rw [← hag,zuF dn xs _ (by rw [List.length_append]; show _+1+_≤_; omega),List.append_assoc]; rfl
theorem zuE (dn:List zBA→Option Bool):∀ (xs acc:List zBA),acc.length+xs.length≤2147483648→zb4 dn zcn xs acc=dn (acc++xs)
 | [],acc,_=>by rw [zfY,List.append_nil]
 | x::xs,acc,h=>by
  rw [List.length_cons] at h
  rw [zbQ]
  generalize hag:zb4 dn zcn xs=ag
  unfold zcn
  refine zct (by omega) ?_
  rw [← hag,zuE dn xs _ (by rw [List.length_append]; show _+1+_≤_; omega),List.append_assoc]; rfl
theorem zsK {o:zab} (hi:InvO o) (j:Option Bool):∀ (n k:Nat),k≤o.units.length→o.units.length - k<n →
  zaU (fun _=>none) (zcm o (o.units.map zie) (o.units.map zie) j) n (k:Int)=j:=by
 intro n
 have hul:=hi.ul; have hll:=hi.ll
 induction n with
 | zero=>intro k _ h; omega
 | succ n ih =>
  intro k hk hn
  rw [zfO]
  generalize hag:zaU (fun _=>none) (zcm o (o.units.map zie) (o.units.map zie) j) n=ag at ih
  unfold zcm
  by_cases hlt:k<o.units.length
  ·have hu:=List.getElem?_eq_getElem hlt
   have hg:zd7 (o.units.map zie) (k:Int)=some (zie o.units[k]):=zdq (by rw [List.getElem?_map,hu]; rfl)
   have nx:=ih (k+1) (by omega) (by omega)
   push_cast at nx
   have go:(grd (I64 ((k:Int)+1))<|ag ((k:Int)+1))=j:=zct ⟨by omega,by omega⟩ nx
   refine zaL (decide_eq_true (by rw [List.length_map]; omega)) (zb8 (zaR hg (zaR hg (zaF (by rw [decide_eq_true rfl]; rfl) ?_))))
   by_cases h0:0<k
   ·obtain ⟨m,rfl⟩:∃ m,k=m+1:=⟨k - 1,by omega⟩
    have hu2:=List.getElem?_eq_getElem (show m<o.units.length by omega)
    have hg2:zd7 (o.units.map zie) (((m+1:Nat):Int) - 1)=some (zie o.units[m]):=by
     rw [show (((m+1:Nat):Int) - 1)=(m:Int) by omega]
     exact zdq (by rw [List.getElem?_map,hu2]; rfl)
    exact zaL (decide_eq_true (by omega)) (zct ⟨by omega,by omega⟩ (zaR hg2 (zaR hg (zaR (ztg hi hu2 hu) (zaF rfl (zaF rfl go))))))
   ·exact zaF (decide_eq_false (by omega)) go
  ·exact zaF (decide_eq_false (by rw [List.length_map]; omega)) rfl
theorem zm4 (text a0 b0:zBA):zee text a0 b0=some true:=by
 unfold zee
 refine zaR znm (zaF rfl (zaR (zvf text) (zaF rfl ?_)))
 have hi:=zqv text
 have hr:=zqu text
 generalize zk2 text=o at hi hr
 have hul:=hi.ul; have hll:=hi.ll; have hlw:=hi.lw
 have la:=zsw a0; have lb:=zsw b0
 refine zaR (a:=o) rfl (zaR (zrM hi hr) (zaR (zrG (prS o)) ?_))
 rw [zqo hi hr]
 refine zaF rfl (zaR (a:=o) rfl (zaR (zrM hi hr) (zaF (by rw [decide_eq_true rfl]; rfl) (zb8 (zaR (zry _) (zaR (zry _) ?_))))))
 generalize zws a0=a at la ⊢
 generalize zws b0=b at lb ⊢
 have fa:Few a:=zxI (by omega)
 have fb:Few b:=zxI (by omega)
 have hc:=znZ hi.ok a b fa fb
 generalize zs9 1 (zqF o a) (zqF o b)=c at hc
 refine zaR hc (zaR hc (zaR (a:=()) rfl (zaR (zpj hi) (zb8 ?_))))
 rw [zuF _ _ _ (by rw [List.length_map]; show 0+_≤_; omega),List.nil_append]
 refine zb8 (zaR (a:=()) rfl (zaR (zpj hi) (zb8 ?_)))
 rw [zuE _ _ _ (by rw [List.length_map]; show 0+_≤_; omega),List.nil_append]
 have hlen:(o.units.map zie).length=o.units.length:=List.length_map ..
 refine zaF (bne_eq_false_iff_eq.2 rfl) (zaF (decide_eq_false (by omega)) (zb8 ?_))
 refine (zsK hi _ zcG 0 (Nat.zero_le _) (by unfold zcG; omega)).trans ?_
 refine zaL (beq_self_eq_true _) (zaL (beq_self_eq_true _) (zaR (znK hi a fa) (zaR (znK hi a fa) (zaL (decide_eq_true rfl) (zaR znm rfl)))))
theorem collateBack_any (text a b:zBA) (w:World) (h0:text.size≤140737488351232) (h1:a.size≤140737488351232) (h2:b.size≤140737488351232):Calls prog 4 #[.string text,.string a,.string b] w fun e w'=>e=.returned (.bool true)∧Below w.heap.size w w' :=
 zh9 (zm4 text a b) w
end Go.Proofs.YtifpjbgnikjglaaDoor
