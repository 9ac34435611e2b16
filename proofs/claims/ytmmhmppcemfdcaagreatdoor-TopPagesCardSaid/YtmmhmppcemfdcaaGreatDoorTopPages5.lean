/-
  Texts laid together: PqI, LgA, PgB, PgC, PgD, LgB, PgE, PqJ, PqK, PgM, LtC, LtR, LfF, LfG, LfP, LfT, LfU, LfW2, LfS. Nothing is assumed.
-/
import Derived.Test.YtmmhmppcemfdcaaGreatDoorTopPages4
import Derived.Test.YtmmhmppcemfdcaaGreatDoorTopPages3
import Derived.Test.YtmmhmppcemfdcaaGreatDoorTopPages2
set_option maxRecDepth 100000
set_option maxHeartbeats 4000000
namespace Go.Proofs.YtmmhmppcemfdcaaGreatDoor
open Go.RowKit Go.Lib
open Tryz
set_option linter.unusedVariables false
set_option linter.unusedSimpArgs false
theorem zmk (n:Nat):Lib.repeatL [32] n=List.replicate n 32:=by
 induction n with
 | zero=>rfl
 | succ n ih=>rw [Lib.repeatL,ih,List.replicate_succ]; rfl
theorem ziC:∀ x:List UInt8,List.replicate (ind x) 32++x.drop (ind x)=x
 | []=>rfl
 | b::x=>by
  rw [zlR]
  by_cases h:b=32
  ·rw [if_pos h,List.replicate_succ,List.drop_succ_cons,List.cons_append,ziC x,h]
  ·rw [if_neg h]; rfl
theorem zrw (x:List UInt8):zcv (ind x:Int)++mkB (x.drop (ind x))=mkB x:=by
 unfold zcv
 rw [Int.toNat_natCast,zmk]
 have:(⟨(List.replicate (ind x) (32:UInt8)).toArray⟩:zBA)=mkB (List.replicate (ind x) 32):=rfl
 rw [this,zjx,ziC]
def zkV:Nat→List zax→List (Int×zax)
 | _,[]=>[]
 | i,v::vs=>((i:Int),v)::zkV (i+1) vs
theorem zqo (p:zaC) (h:p.told_lines.length≤4611686018427387904):zdk p=some (zkV 0 p.told_lines):=by
 unfold zdk
 have key:∀ (n i:Nat),i≤p.told_lines.length→p.told_lines.length - i<n→za1 (fun _=>none) (zcS p) n (i:Int)=some (zkV i (p.told_lines.drop i)):=by
  intro n
  induction n with
  | zero=>intro i h1 h2; omega
  | succ n ih =>
   intro i hi hn
   rw [zdv]
   obtain ⟨ag,hag⟩:∃ ag,ag=za1 (fun _=>none) (zcS p) n:=⟨_,rfl⟩
   rw [← hag] at ih ⊢
   unfold zcS
   rcases Nat.lt_or_ge i p.told_lines.length with hl | hl
   ·have hd:=List.drop_eq_getElem_cons hl
    refine zaR (decide_eq_true (by omega)) (za7 (zcY (List.getElem?_eq_getElem hl)) ?_)
    have h1:(grd (I64 ((i:Int)+1))<|ag ((i:Int)+1))=some (zkV (i+1) (p.told_lines.drop (i+1))):=zcm ⟨by omega,by omega⟩ (by rw [show (i:Int)+1=((i+1:Nat):Int) by omega]; exact ih (i+1) (by omega) (by omega))
    rw [h1,hd]; rfl
   ·rw [List.drop_eq_nil_of_le hl]
    exact zaK (decide_eq_false (by omega)) rfl
 have:=key zcD 0 (Nat.zero_le _) (by unfold zcD; omega)
 rw [List.drop_zero] at this
 exact this
abbrev LnE:=Nat×Nat×List UInt8
def zgI (from_ to_:Nat):Nat→List LnE→List Row×Int→List Row×Int
 | _,[],a=>a
 | i,p::L,a =>
  if i<from_∨to_≤i then zgI from_ to_ (i+1) L a
  else if (p.1:Int)≠a.2 then zgI from_ to_ (i+1) L (a.1++[[p.2.2]],(p.1:Int))
  else zgI from_ to_ (i+1) L (a.1.dropLast++[zgQ a.1++[p.2.2]],a.2)
theorem ztq (from_ to_:Nat) (d:(List (List zBA))→Int→Option (List (List zBA))):∀ (L:List LnE) (vs:List zax) (i:Nat) (out:List Row) (s:Int),vs.map zmv=L.map zkJ→(∀ p∈L,p.2.2.length≤1024)→i+L.length≤1000000 →
  out.length≤i→(∀ r∈out,r.length≤i)→(s≠-1→out≠[])→zcQ d (zdb from_ to_) (zkV i vs) (mkZ out) s=d (mkZ (zgI from_ to_ i L (out,s)).1) (zgI from_ to_ i L (out,s)).2
 | [],vs,i,out,s,hk,hx,hi,ho,hr,hs=>by
  have:vs=[]:=by cases vs with | nil=>rfl | cons v vs=>cases hk
  subst this; rfl
 | p::L,vs,i,out,s,hk,hx,hi,ho,hr,hs=>by
  cases vs with
  | nil=>cases hk
  | cons v vs =>
   rw [List.map_cons,List.map_cons] at hk
   obtain ⟨hv,hk⟩:=List.cons.inj hk
   rw [List.length_cons] at hi
   have hv1:v.Text=mkB (p.2.2.drop (ind p.2.2)):=congrArg (fun q=>q.1) hv
   have hv2:v.Indent=(ind p.2.2:Int):=congrArg (fun q=>q.2.1) hv
   have hv3:v.Stanza=(p.1:Int):=congrArg (fun q=>q.2.2.1) hv
   have hxl:=hx p (by simp)
   have hil:=ztU p.2.2
   show zcQ d _ (((i:Int),v)::zkV (i+1) vs) _ _=_
   rw [zhV]
   have ih:=fun out s h1 h2 h3=>ztq from_ to_ d L vs (i+1) out s hk (fun q hq=>hx q (by simp [hq])) (by omega) h1 h2 h3
   obtain ⟨ag,hag⟩:∃ ag,ag=zcQ d (zdb from_ to_) (zkV (i+1) vs):=⟨_,rfl⟩
   rw [← hag] at ih ⊢
   unfold zdb zgI
   by_cases h1:i<from_
   ·rw [if_pos (.inl h1)]
    exact zaR (decide_eq_true (by show (i:Int)<_; omega)) (ih out s (by omega) (fun r h=>by have:=hr r h; omega) hs)
   ·refine zaK (decide_eq_false (by show ¬ (i:Int)<_; omega)) ?_
    by_cases h2:to_≤i
    ·rw [if_pos (.inr h2)]
     exact zaR (decide_eq_true (by show _≤(i:Int); omega)) (ih out s (by omega) (fun r h=>by have:=hr r h; omega) hs)
    ·rw [if_neg (by omega)]
     refine zaK (decide_eq_false (by show ¬ _≤(i:Int); omega)) (zcj ?_)
     have tail:∀ (z:List Row) (s':Int),z≠[]→z.length≤i+1→(∀ r∈z,r.length≤i)→s'≠-1→(grd (I64 (((mkZ z).length:Int) - 1)) <|
       zan (zdf (mkZ z) (((mkZ z).length:Int) - 1)) fun (x2:List zBA) =>
       grd (0≤v.Indent∧v.Indent≤140737488355328) <|
       grd ((zcv v.Indent).size+v.Text.size≤9223372036854775807) <|
       grd (x2.length+1≤2147483648) <|
       ag ((mkZ z).set (((mkZ z).length:Int) - 1:Int).toNat (x2++[(zcv v.Indent)++v.Text])) s')=d (mkZ (zgI from_ to_ (i+1) L (z.dropLast++[zgQ z++[p.2.2]],s')).1) (zgI from_ to_ (i+1) L (z.dropLast++[zgQ z++[p.2.2]],s')).2:=fun z s' hz hzl hzr hs'=>by
      obtain ⟨w,r,rfl⟩:∃ w r,z=w++[r]:=⟨_,_,zmx hz⟩
      have hl9:zgQ (w++[r])=r:=by unfold zgQ; rw [List.getLastD_concat]
      rw [List.dropLast_concat,hl9]
      rw [List.length_append,List.length_singleton] at hzl
      have hlen:(mkZ (w++[r])).length=w.length+1:=by rw [zgK,List.length_append,List.length_singleton]
      have hg:zdf (mkZ (w++[r])) (((mkZ (w++[r])).length:Int) - 1)=some (r.map mkB):=by
       refine zfy (n:=w.length) (by rw [hlen]; omega) ?_
       rw [zot,List.getElem?_append_right (by rw [zgK]; exact Nat.le_refl _),zgK,Nat.sub_self]; rfl
      have hll:r.length≤i:=hzr _ (by simp)
      refine zcm ⟨by omega,by rw [hlen]; omega⟩ (za7 hg (zcm ⟨by rw [hv2]; omega,by rw [hv2]; omega⟩ ?_))
      rw [hv1,hv2,zrw]
      have hsz:(zcv (ind p.2.2:Int)).size+(mkB (p.2.2.drop (ind p.2.2))).size≤9223372036854775807:=by
       have:(zcv (ind p.2.2:Int)++mkB (p.2.2.drop (ind p.2.2))).size=(mkB p.2.2).size:=by rw [zrw]
       rw [ByteArray.size_append,zcr p.2.2] at this
       omega
      refine zcm hsz (zcm (by rw [List.length_map]; omega) ?_)
      have es:(mkZ (w++[r])).set (((mkZ (w++[r])).length:Int) - 1:Int).toNat (r.map mkB++[mkB p.2.2])=mkZ (w++[r++[p.2.2]]):=by
       rw [show (((mkZ (w++[r])).length:Int) - 1:Int).toNat=(mkZ w).length by rw [hlen,zgK]; omega,zot]
       show ((mkZ w++[r.map mkB]).set _ _)=_
       rw [zma,zot]
       show _=_++[(r++[p.2.2]).map mkB]
       rw [List.map_append]; rfl
      rw [es]
      refine ih _ s' (by rw [List.length_append,List.length_singleton]; omega) (fun r' h => ?_) (fun _=>by simp)
      rcases List.mem_append.1 h with h | h
      ·have:=hzr r' (by simp [h]); omega
      ·rw [List.mem_singleton] at h; subst h; rw [List.length_append,List.length_singleton]; omega
     by_cases h3:(p.1:Int)=s
     ·rw [if_neg (by simpa using h3)]
      refine zaK (by rw [hv3,h3]; exact bne_self_eq_false _) ?_
      refine tail out s (hs (by omega)) (by omega) (fun r h=>by have:=hr r h; omega) (by omega)
     ·rw [if_pos h3]
      refine zaR (by rw [hv3]; exact bne_iff_ne.2 h3) (zcm (by rw [zgK]; omega) ?_)
      have h5:=tail (out++[[]]) (p.1:Int) (by simp) (by rw [List.length_append,List.length_singleton]; omega) (fun r h=>by
       rcases List.mem_append.1 h with h | h
       ·exact hr r h
       ·rw [List.mem_singleton] at h; subst h; exact Nat.zero_le _) (by omega)
      have h6:zgQ (out++[[]])=[]:=by unfold zgQ; rw [List.getLastD_concat]
      rw [List.dropLast_concat,h6,zot] at h5
      refine Eq.trans ?_ h5
      rw [hv3]; rfl
def zsQ (from_ to_:Nat):Nat→Row→Row
 | _,[]=>[]
 | at_,x::r=>if from_≤at_∧at_<to_ then x::zsQ from_ to_ (at_+1) r else zsQ from_ to_ (at_+1) r
def zyd (from_ to_:Nat):Nat→List Row→List Row
 | _,[]=>[]
 | at_,r::z=>(if zsQ from_ to_ at_ r=[] then [] else [zsQ from_ to_ at_ r])++zyd from_ to_ (at_+r.length) z
theorem zpv:∀ (r:Row) (j:Nat),(zgL j r).length=r.length
 | [],j=>rfl
 | x::r,j=>by show (zgL (j+1) r).length+1=_; rw [zpv r]; rfl
theorem zmH:∀ (z:List Row) (k:Nat),(zfc k z).length=tot z
 | [],k=>rfl
 | r::z,k=>by
  show ((zgL 0 r).map _++zfc (k+1) z).length=_
  rw [List.length_append,List.length_map,zpv,zmH z,zfH]
theorem zos (from_ to_ k:Nat) (out:List Row):∀ (r:Row) (j at_:Nat) (acc:Row) (L:List LnE),zgI from_ to_ at_ ((zgL j r).map (fun p=>(k,p))++L) (out++[acc],(k:Int))=zgI from_ to_ (at_+r.length) L (out++[acc++zsQ from_ to_ at_ r],(k:Int))
 | [],j,at_,acc,L=>by
  show zgI from_ to_ at_ L _=zgI from_ to_ at_ L (out++[acc++[]],_)
  rw [List.append_nil]
 | x::r,j,at_,acc,L=>by
  show zgI from_ to_ at_ ((k,j,x)::((zgL (j+1) r).map (fun p=>(k,p))++L)) _=_
  rw [zgI,zsQ,List.length_cons,show at_+(r.length+1)=at_+1+r.length by omega]
  by_cases h:from_≤at_∧at_<to_
  ·rw [if_neg (by omega),if_neg (by simp),if_pos h]
   show zgI from_ to_ (at_+1) _ ((out++[acc]).dropLast++[zgQ (out++[acc])++[x]],(k:Int))=_
   have h6:zgQ (out++[acc])=acc:=by unfold zgQ; rw [List.getLastD_concat]
   rw [List.dropLast_concat,h6,zos from_ to_ k out r (j+1) (at_+1) (acc++[x]) L,List.append_assoc]; rfl
  ·rw [if_pos (by omega),if_neg h,zos from_ to_ k out r (j+1) (at_+1) acc L]
theorem zo7 (from_ to_ k:Nat) (out:List Row) (s:Int) (hs:s≠(k:Int)):∀ (r:Row) (j at_:Nat) (L:List LnE),zgI from_ to_ at_ ((zgL j r).map (fun p=>(k,p))++L) (out,s) =
  if zsQ from_ to_ at_ r=[] then zgI from_ to_ (at_+r.length) L (out,s) else zgI from_ to_ (at_+r.length) L (out++[zsQ from_ to_ at_ r],(k:Int))
 | [],j,at_,L=>by rw [show zsQ from_ to_ at_ []=[] from rfl,if_pos rfl]; rfl
 | x::r,j,at_,L=>by
  show zgI from_ to_ at_ ((k,j,x)::((zgL (j+1) r).map (fun p=>(k,p))++L)) _=_
  rw [zgI,zsQ,List.length_cons,show at_+(r.length+1)=at_+1+r.length by omega]
  by_cases h:from_≤at_∧at_<to_
  ·rw [if_neg (by omega),if_pos (by show (k:Int)≠s; omega),if_pos h,if_neg (by simp)]
   exact zos from_ to_ k out r (j+1) (at_+1) [x] L
  ·rw [if_pos (by omega),if_neg h,zo7 from_ to_ k out s hs r (j+1) (at_+1) L]
theorem ziw (from_ to_:Nat):∀ (z:List Row) (k at_:Nat) (out:List Row) (s:Int),s<(k:Int)→(zgI from_ to_ at_ (zfc k z) (out,s)).1=out++zyd from_ to_ at_ z
 | [],k,at_,out,s,hs=>(List.append_nil _).symm
 | r::z,k,at_,out,s,hs=>by
  show (zgI from_ to_ at_ ((zgL 0 r).map (fun p=>(k,p))++zfc (k+1) z) (out,s)).1=_
  rw [zo7 from_ to_ k out s (by omega),zyd]
  split
  ·rw [ziw from_ to_ z (k+1) _ out s (by omega)]; rfl
  ·rw [ziw from_ to_ z (k+1) _ _ (k:Int) (by omega),List.append_assoc]
theorem zpE (to_:Nat):∀ (r:Row) (at_:Nat),at_+r.length≤to_→zsQ 0 to_ at_ r=r
 | [],at_,h=>rfl
 | x::r,at_,h=>by
  rw [List.length_cons] at h
  rw [zsQ,if_pos ⟨Nat.zero_le _,by omega⟩,zpE to_ r (at_+1) (by omega)]
theorem zkk (to_:Nat):∀ (z:List Row) (at_:Nat),(∀ r∈z,r≠[])→at_+tot z≤to_→zyd 0 to_ at_ z=z
 | [],at_,hne,h=>rfl
 | r::z,at_,hne,h=>by
  rw [zfH] at h
  rw [zyd,zpE to_ r at_ (by omega),if_neg (hne r (by simp)),zkk to_ z (at_+r.length) (fun y hy=>hne y (by simp [hy])) (by omega)]
  rfl
structure OkP (p:zaC) (t:List UInt8) (z:List Row):Prop extends GoodP t z where
 title:p.told_title=mkB t
 vok:VOk p.told_lines z
 sp:p.told_stanzas=zkt 0 z
 most:tot z≤512
theorem OkP.len {p:zaC} {t:List UInt8} {z:List Row} (h:OkP p t z):p.told_lines.length=tot z:=by
 have:=congrArg List.length h.vok
 rw [List.length_map,List.length_map,zmH] at this
 exact this
theorem PInv.ok {st:RS} (h:PInv st) (src:zBA):OkP (⟨mkB st.t,st.vs,zkt 0 st.stz,src⟩:zaC) st.t st.stz:=⟨h.good,rfl,h.vok,rfl,by have:=h.tot; have:=h.most; omega⟩
theorem zpk:∀ (r:Row) (j:Nat) (p:Nat×List UInt8),p∈zgL j r→p.2∈r
 | [],j,p,h=>by cases h
 | x::r,j,p,h=>by
  rcases List.mem_cons.1 h with rfl | h
  ·simp
  ·exact List.mem_cons_of_mem _ (zpk r _ p h)
theorem zmu:∀ (z:List Row) (k:Nat) (p:LnE),p∈zfc k z→∃ r∈z,p.2.2∈r
 | [],k,p,h=>by cases h
 | r::z,k,p,h=>by
  rcases List.mem_append.1 (show p∈(zgL 0 r).map (fun p=>(k,p))++zfc (k+1) z from h) with h | h
  ·obtain ⟨q,hq,rfl⟩:=List.mem_map.1 h
   exact ⟨r,by simp,zpk r 0 q hq⟩
  ·obtain ⟨r',h1,h2⟩:=zmu z _ p h
   exact ⟨r',by simp [h1],h2⟩
theorem zyY {p:zaC} {t:List UInt8} {z:List Row} (h:OkP p t z) (from_ to_:Nat):zed p (from_:Int) (to_:Int)=some (mkZ (zyd from_ to_ 0 z)):=by
 unfold zed
 have hm:=h.most
 refine zcj (za7 rfl (za7 (zqo p (by rw [h.len]; omega)) (zcj ?_)))
 have:=ztq from_ to_ (fun (out4:List (List zBA)) (stanza3:Int)=>some out4) (zfc 0 z) p.told_lines 0 [] (-1) h.vok (fun q hq=>by
  obtain ⟨r,h1,h2⟩:=zmu z 0 q hq
  exact (h.ln r h1 _ h2).le) (by rw [zmH]; omega) (Nat.zero_le _) (fun r h=>by cases h) (fun h=>absurd rfl h)
 refine this.trans ?_
 rw [ziw from_ to_ z 0 0 [] (-1) (by omega)]
 rfl
theorem zvR:∀ (r:Row),(∀ x∈r,x.length≤1024)→wtR r≤r.length*1025
 | [],h=>Nat.zero_le _
 | x::r,h=>by
  have h1:=zvR r fun y hy=>h y (by simp [hy])
  have h2:=h x (by simp)
  rw [ziV,List.length_cons]; omega
theorem zq4:∀ (z:List Row),(∀ r∈z,∀ x∈r,x.length≤1024)→wtZ z≤z.length+tot z*1025
 | [],h=>Nat.zero_le _
 | r::z,h=>by
  have h1:=zq4 z fun y hy=>h y (by simp [hy])
  have h2:=zvR r (h r (by simp))
  rw [zlM,zfH,List.length_cons]; omega
theorem OkP.wt {p:zaC} {t:List UInt8} {z:List Row} (h:OkP p t z):t.length+3+wtZ z≤1000000:=by
 have h1:=zq4 z fun r hr x hx=>(h.ln r hr x hx).le
 have h2:=znz z h.ne
 have h3:=h.most
 have h4:=h.tL
 omega
theorem OkP.full {p:zaC} {t:List UInt8} {z:List Row} (h:OkP p t z):zed p 0 (p.told_lines.length:Int)=some (mkZ z):=by
 have:=zyY h 0 p.told_lines.length
 rw [zkk _ z 0 h.ne (by rw [h.len]; omega)] at this
 exact this
theorem OkP.print {p:zaC} {t:List UInt8} {z:List Row} (h:OkP p t z):zeA p=some (mkB (prT t z)):=by
 unfold zeA
 have:=h.wt
 refine za7 h.full (za7 ?_ rfl)
 rw [h.title]
 exact zpb t z h.ne (by omega)
def zdH (p1:za0) (from1:Int) (to1:Int):Option Int := grd (I64 (to1 - from1)) <| grd (I64 (to1 - 1)) <| zan (zdf p1.blanks (to1 - 1)) fun (q1:Int) => grd (I64 ((to1 - from1)+q1)) <| zan (zdf p1.blanks from1) fun (q2:Int) => grd (I64 (((to1 - from1)+q1) - q2)) <| some (((to1 - from1)+q1) - q2)
theorem zg7 {bp1:Nat} {p1:za0} {p1_h0 p1_h1 p1_h2 p1_h3:Hd} {from1:Int} {to1:Int} {r:Int} (h:zdH p1 from1 to1=some r):FnR prog 54 [zP bp1,zI from1,zI to1] [cells bp1 [p1_h0.v,p1_h1.v,p1_h2.v,p1_h3.v,zI p1.heights] 85,zv1 p1_h0.v p1.rows,zv0 p1_h1.v p1.blanks,zv0 p1_h2.v p1.firsts,zv0 p1_h3.v p1.lasts] [] (fun _:Unit=>(zI r)) (fun _=>[]):=by
 unfold zdH at h
 refine FnR.intro func54 rfl ntmps54 (by simp) ?_
 intro w0 K hrd
 refine zyG (zyR 1 rfl (zyN (zaE ?_)))
 obtain ⟨hg1,h⟩:=zbQ h
 obtain ⟨hg2,h⟩:=zbQ h
 obtain ⟨q1,hq1,h⟩:=zbL h
 obtain ⟨hg3,h⟩:=zbQ h
 obtain ⟨q2,hq2,h⟩:=zbL h
 obtain ⟨hg4,h⟩:=zbQ h
 refine zbB 19 [(0,7,zI to1),(1,8,zI from1),(2,9,zI (to1 - from1)),(3,10,zP bp1),(4,11,zP bp1),(5,12,.pointer (some ⟨bp1,1,none⟩)),(6,13,p1_h1.v),(7,14,zI to1),(8,15,zI (to1 - 1)),(9,16,.pointer (some ⟨zdz p1_h1.v,(0+(to1 - 1:Int).toNat)*1,none⟩)),(10,17,zI q1),(11,18,zI ((to1 - from1)+q1)),(12,19,zP bp1),(13,20,zP bp1),(14,21,.pointer (some ⟨bp1,1,none⟩)),(15,22,p1_h1.v),(16,23,zI from1),(17,24,.pointer (some ⟨zdz p1_h1.v,(0+(from1:Int).toNat)*1,none⟩)),(18,25,zI q2)] mixed kr kr dc (by rfl) kr kr (zyP 2 0 rfl (zad ?_ (zyP 1 3 rfl (zad ?_ (zad ?_ (zad ?_ (zyP 1 7 rfl (zad ?_ (zad ?_ (zad ?_ (zad ?_ (zyP 1 12 rfl (zad ?_ (zad ?_ (zad ?_ (zyP 1 16 rfl (zad ?_ (zad ?_ DrawPre.nil)))))))))))))))))) ?_
 · exact fun D n d c u i=>zb6 rfl dc (zam 0 u d) (zam 1 u d) (zce (r:=to1 - from1) (IntWalk.i64_in _ hg1)) (zar 2 u i)
 · exact fun D n d c u i=>zai rfl dc (zam 3 u d) (zar 4 u i)
 · exact fun D n d c u i=>zaa zoA rfl dc (zam 4 u d) (show _=1 from rfl) (zar 5 u i)
 · exact fun D n d c u i=>zbs (i:=0) hrd rfl zhS rfl dc (zam 5 u d) rfl (zar 6 u i)
 · exact fun D n d c u i=>zb6 rfl dc (zam 7 u d) rfl (zce (r:=to1 - 1) (IntWalk.i64_in _ hg2)) (zar 8 u i)
 · exact fun D n d c u i=>zbv (hrd.vw (i:=2) rfl) hq1 underlying24 zeI rfl dc (zam 6 u d) (zam 8 u d) rfl (zar 9 u i)
 · exact fun D n d c u i=>zde (n:=0+(to1 - 1:Int).toNat) (j:=0) (i:=2) (q:=q1) hrd rfl zbW zcJ rfl dc (zam 9 u d) (Vw.get (hrd.vw (i:=2) rfl) hq1) rfl dc rfl (zar 10 u i)
 · exact fun D n d c u i=>zb6 rfl dc (zam 2 u d) (zam 10 u d) (zbb (r:=(to1 - from1)+q1) (IntWalk.i64_in _ hg3)) (zar 11 u i)
 · exact fun D n d c u i=>zai rfl dc (zam 12 u d) (zar 13 u i)
 · exact fun D n d c u i=>zaa zoA rfl dc (zam 13 u d) (show _=1 from rfl) (zar 14 u i)
 · exact fun D n d c u i=>zbs (i:=0) hrd rfl zhS rfl dc (zam 14 u d) rfl (zar 15 u i)
 · exact fun D n d c u i=>zbv (hrd.vw (i:=2) rfl) hq2 underlying24 zeI rfl dc (zam 15 u d) (zam 16 u d) rfl (zar 17 u i)
 · exact fun D n d c u i=>zde (n:=0+(from1:Int).toNat) (j:=0) (i:=2) (q:=q2) hrd rfl zbW zcJ rfl dc (zam 17 u d) (Vw.get (hrd.vw (i:=2) rfl) hq2) rfl dc rfl (zar 18 u i)
 refine zaS rfl (zce (r:=((to1 - from1)+q1) - q2) (IntWalk.i64_in _ hg4)) (zyR 1 rfl (zyN (zau ?_)))
 cases h
 exact za2 6 results54
def zeB (p1:za0) (k1:Int):Option Int := grd (I64 (k1 - 1)) <| zan (zdf p1.rows (k1 - 1)) fun (q1:zap) => zan (zdf p1.rows k1) fun (q2:zap) => zaB ((q1.Stanza:Int) != q2.Stanza) ( some 0
) ( zaB ((q1.Line:Int)==q2.Line) ( some 100
) ( zan (zdf p1.firsts q1.Stanza) fun (q3:Int) => zaB ((q1.Line:Int)==q3) ( some 50
) ( zan (zdf p1.lasts q2.Stanza) fun (q4:Int) => zaB ((q2.Line:Int)==q4) ( some 50
) ( some 10
)
)
)
)
theorem zjW {bp1:Nat} {p1:za0} {p1_h0 p1_h1 p1_h2 p1_h3:Hd} {k1:Int} {r:Int} (h:zeB p1 k1=some r):FnR prog 55 [zP bp1,zI k1] [cells bp1 [p1_h0.v,p1_h1.v,p1_h2.v,p1_h3.v,zI p1.heights] 85,zv1 p1_h0.v p1.rows,zv0 p1_h1.v p1.blanks,zv0 p1_h2.v p1.firsts,zv0 p1_h3.v p1.lasts] [] (fun _:Unit=>(zI r)) (fun _=>[]):=by
 unfold zeB at h
 refine FnR.intro func55 rfl ntmps55 (by simp) ?_
 intro w0 K hrd
 refine zyG (zyR 1 rfl (zyN (zaE ?_)))
 obtain ⟨hg1,h⟩:=zbQ h
 obtain ⟨q1,hq1,h⟩:=zbL h
 obtain ⟨q2,hq2,h⟩:=zbL h
 refine zgG 2 ?_
 refine let vals1:(Nat×Nat)→List (Nat×Nat×Value):=fun b=>[(0,7,zP bp1),(1,8,zP bp1),(2,9,zP bp1),(3,10,p1_h0.v),(4,11,zI k1),(5,12,zI (k1 - 1)),(6,13,.pointer (some ⟨zdz p1_h0.v,(0+(k1 - 1:Int).toNat)*6,none⟩)),(7,14,.agg (zr4 q1).toArray),(8,15,zP bp1),(9,16,zP bp1),(10,17,zP bp1),(11,18,p1_h0.v),(12,19,zI k1),(13,20,.pointer (some ⟨zdz p1_h0.v,(0+(k1:Int).toNat)*6,none⟩)),(14,21,.agg (zr4 q2).toArray),(15,5,zP b.1),(16,6,zP b.2)]; let LL1:(Nat→Prop)→(Nat×Nat)→List Asn:=fun D b=>[eD D emp [(17,cells b.1 (zr4 q1) 43),(15,cells b.1 [zI 0,zI 0,zI 0,zI 0,zI 0,.string ByteArray.empty] 43)],eD D emp [(16,cells b.2 [zI 0,zI 0,zI 0,zI 0,zI 0,.string ByteArray.empty] 43)]]; ?_
 have zhq:zyQ [15,16,17] LL1:=fun i h D b=>zac (zkr rfl h) (zac (zkr rfl h) rfl)
 refine zeb (β:=Nat×Nat) 18 ((0:Nat),(0:Nat)) vals1 LL1 mixed kr kr dc (fun _=>rfl) (zac zci (zac zci rfl)) (zm5 zhq (fun _=>rfl) (fun _=>rfl) 1 0 (fun _=>rfl) rfl (zyq zhq rfl (fun _=>rfl) (fun _=>rfl) ?_ (zyq zhq rfl (fun _=>rfl) (fun _=>rfl) ?_ (zyq zhq rfl (fun _=>rfl) (fun _=>rfl) ?_ (zm5 zhq (fun _=>rfl) (fun _=>rfl) 1 4 (fun _=>rfl) rfl (zyq zhq rfl (fun _=>rfl) (fun _=>rfl) ?_ (zyq zhq rfl (fun _=>rfl) (fun _=>rfl) ?_ (zhC zhq rfl (fun _=>rfl) (fun _=>rfl) ?_ (zm5 zhq (fun _=>rfl) (fun _=>rfl) 1 8 (fun _=>rfl) rfl (zyq zhq rfl (fun _=>rfl) (fun _=>rfl) ?_ (zyq zhq rfl (fun _=>rfl) (fun _=>rfl) ?_ (zyq zhq rfl (fun _=>rfl) (fun _=>rfl) ?_ (zm5 zhq (fun _=>rfl) (fun _=>rfl) 1 12 (fun _=>rfl) rfl (zyq zhq rfl (fun _=>rfl) (fun _=>rfl) ?_ (zhC zhq rfl (fun _=>rfl) (fun _=>rfl) ?_ (zaF ?_ (zaF ?_ (zaF ?_ DrawG.nil)))))))))))))))))) ?_
 · exact fun D ⟨b1,b2⟩ n d c u i=>zai rfl dc (zam 0 u d) (zar 1 u i)
 · exact fun D ⟨b1,b2⟩ n d c u i=>zaa ziJ rfl dc (zam 1 u d) (show _=0 from rfl) (zar 2 u i)
 · exact fun D ⟨b1,b2⟩ n d c u i=>zbs (i:=0) hrd rfl zo1 rfl dc (zam 2 u d) rfl (zar 3 u i)
 · exact fun D ⟨b1,b2⟩ n d c u i=>zb6 rfl dc (zam 4 u d) rfl (zce (r:=k1 - 1) (IntWalk.i64_in _ hg1)) (zar 5 u i)
 · exact fun D ⟨b1,b2⟩ n d c u i=>zbv (hrd.vw (i:=1) rfl) hq1 underlying37 zjq rfl dc (zam 3 u d) (zam 5 u d) rfl (zar 6 u i)
 · exact fun D ⟨b1,b2⟩ n d c u i=>⟨_,(zac (zah (fun hD=>n (c 17 _ rfl hD 7 dc)) rfl) rfl),zdT (m:=0+(k1 - 1:Int).toNat) (j:=0) (i:=1) (q:=q1) (cs:=(zr4 q1)) hrd rfl zoo zbN rfl dc (zam 6 u d) (Vw.get (hrd.vw (i:=1) rfl) hq1) rfl rfl rfl (zar 7 u i)⟩
 · exact fun D ⟨b1,b2⟩ n d c u i=>zai rfl dc (zam 8 u d) (zar 9 u i)
 · exact fun D ⟨b1,b2⟩ n d c u i=>zaa ziJ rfl dc (zam 9 u d) (show _=0 from rfl) (zar 10 u i)
 · exact fun D ⟨b1,b2⟩ n d c u i=>zbs (i:=0) hrd rfl zo1 rfl dc (zam 10 u d) rfl (zar 11 u i)
 · exact fun D ⟨b1,b2⟩ n d c u i=>zbv (hrd.vw (i:=1) rfl) hq2 underlying37 zjq rfl dc (zam 11 u d) (zam 12 u d) rfl (zar 13 u i)
 · exact fun D ⟨b1,b2⟩ n d c u i=>⟨_,(zez rfl),zdT (m:=0+(k1:Int).toNat) (j:=0) (i:=1) (q:=q2) (cs:=(zr4 q2)) hrd rfl zoo zbN rfl dc (zam 13 u d) (Vw.get (hrd.vw (i:=1) rfl) hq2) rfl rfl rfl (zar 14 u i)⟩
 ·
  intro D b hn hd hcl
  obtain ⟨zb0,b2⟩:=b
  refine zaY (zac (zah (fun hD=>hn (hcl 17 _ rfl hD 15 dc)) (zah hn zat)) rfl) ?_
  refine zbh zr8 rfl dc (fun b1 => ?_)
  refine zdg 0 rfl rfl ?_
  exact za4 (b:=(zb0,b2)) (b1,b2) 15 (by rfl) (by rfl) rfl (zuT (zd5 (zaz (fun hD=>absurd hD hn) (zaz (fun _=>rfl) rfl)))) (zac (zah (fun h=>h.elim (fun hD=>hn (hcl 17 _ rfl hD 15 dc)) (fun h=>absurd h dc)) (zaW (Or.inr rfl) rfl)) (zac (zav (by rfl)) rfl))
 ·
  intro D b hn hd hcl
  obtain ⟨b1,zb1⟩:=b
  refine zaY (zac (zah (fun hD=>hn (hcl 17 _ rfl hD 16 dc)) rfl) (zac (zah hn zat) rfl)) ?_
  refine zbh zr8 rfl dc (fun b2 => ?_)
  refine zdg 1 rfl rfl ?_
  exact za4 (b:=(b1,zb1)) (b1,b2) 16 (by rfl) (by rfl) rfl (zzQ (zd5 (zaz (fun hD=>absurd hD hn) rfl))) (zac ((zav (by rfl)).trans (zah (fun hD=>hn (hcl 17 _ rfl hD 16 dc)) rfl)) (zac (zaW (Or.inr rfl) rfl) rfl))
 ·
  intro D b hn hd hcl
  obtain ⟨b1,b2⟩:=b
  refine zaY (zac (zah hn (zaW (hd 15 dc) rfl)) (zac (zaW (hd 16 dc) rfl) rfl)) (zaZ (k:=0) (vs:=(zr4 q1)) (l':=(zr4 q1)) zjq rfl (zaI (m:=15) rfl rfl (hd 15 dc)) (zaI (m:=7) rfl rfl (hd 7 dc)) rfl rfl (show _≤_ by simp) rfl rfl ?_)
  exact zi5 (b:=(b1,b2)) (b1,b2) (by rfl) (zn7 (zd5 rfl)) (zac (zaW (Or.inr rfl) rfl) (zac ((zav (by rfl)).trans (zaW (hd 16 dc) rfl)) rfl))
 intro D b hall
 obtain ⟨b1,b2⟩:=b
 refine zaY (zac (zaW (hall 17 dc) rfl) (zac (zaW (hall 16 dc) rfl) rfl)) (zaZ (k:=1) (vs:=(zr4 q2)) (l':=(zr4 q2)) zjq rfl rfl rfl rfl rfl (show _≤_ by simp) rfl rfl (zyN (zaE (zaG (zyG (zaa zfA rfl dc rfl (show _=1 from rfl) (zaj (k:=0) zbW rfl dc rfl rfl rfl (zaa zfA rfl dc rfl (show _=1 from rfl) (zaj (k:=1) zbW rfl dc rfl rfl rfl (zaS rfl zbH (zyR 1 rfl ?_)))))))))))
 refine zyN ?_
 refine zyB rfl h (fun h => ?_) (fun h => ?_)
 ·
  refine zyG (zyR 1 rfl (zyN (zau (zag (zaf ?_)))))
  cases h
  exact za2 4 results55
 refine zyG (zaa zfB rfl dc rfl (show _=0 from rfl) (zaj (k:=0) zbW rfl dc rfl rfl rfl (zaa zfB rfl dc rfl (show _=0 from rfl) (zaj (k:=1) zbW rfl dc rfl rfl rfl (zaS rfl zaL (zyR 1 rfl (zyN ?_)))))))
 refine zyB rfl h (fun h => ?_) (fun h => ?_)
 ·
  refine zyG (zyR 1 rfl (zyN (zau (zag (zaf ?_)))))
  cases h
  exact za2 4 results55
 refine zaE ?_
 obtain ⟨q3,hq3,h⟩:=zbL h
 refine zeH (b:=(q1.Line:Int)==q3) (fun hb3 => ?_) (fun hb3 => ?_)
 ·
  have h:=zgT hb3 h
  refine zbB 22 [(0,35,zP b1),(1,36,zI q1.Line),(2,37,zP bp1),(3,38,zP bp1),(4,39,.pointer (some ⟨bp1,2,none⟩)),(5,40,p1_h2.v),(6,41,.pointer (some ⟨b1,1,none⟩)),(7,42,zI q1.Stanza),(8,43,.pointer (some ⟨zdz p1_h2.v,(0+(q1.Stanza:Int).toNat)*1,none⟩)),(9,44,zI q3),(10,45,.bool true),(11,46,.bool true),(12,47,undef),(13,48,undef),(14,49,undef),(15,50,undef),(16,51,undef),(17,52,undef),(18,53,undef),(19,54,undef),(20,55,undef),(21,56,undef)] mixed kr kr dc (by rfl) kr kr (zad ?_ (zad ?_ (zyP 1 2 rfl (zad ?_ (zad ?_ (zad ?_ (zad ?_ (zad ?_ (zad ?_ (zad ?_ (zad ?_ (zyP 11 11 rfl DrawPre.nil)))))))))))) ?_
  · exact fun D n d c u i=>zaa zfB rfl dc (zbd (by rfl) rfl) (show _=0 from rfl) (zar 0 u i)
  · exact fun D n d c u i=>zaj (k:=0) zbW rfl dc (zam 0 u d) rfl rfl (zar 1 u i)
  · exact fun D n d c u i=>zai rfl dc (zam 2 u d) (zar 3 u i)
  · exact fun D n d c u i=>zaa zmJ rfl dc (zam 3 u d) (show _=2 from rfl) (zar 4 u i)
  · exact fun D n d c u i=>zbs (i:=0) hrd rfl zhS rfl dc (zam 4 u d) rfl (zar 5 u i)
  · exact fun D n d c u i=>zaa zfA rfl dc (zbd (by rfl) rfl) (show _=1 from rfl) (zar 6 u i)
  · exact fun D n d c u i=>zaj (k:=0) zbW rfl dc (zam 6 u d) rfl rfl (zar 7 u i)
  · exact fun D n d c u i=>zbv (hrd.vw (i:=3) rfl) hq3 underlying24 zeI rfl dc (zam 5 u d) (zam 7 u d) rfl (zar 8 u i)
  · exact fun D n d c u i=>zde (n:=0+(q1.Stanza:Int).toNat) (j:=0) (i:=3) (q:=q3) hrd rfl zbW zcJ rfl dc (zam 8 u d) (Vw.get (hrd.vw (i:=3) rfl) hq3) rfl dc rfl (zar 9 u i)
  · exact fun D n d c u i=>zb6 rfl dc (zam 1 u d) (zam 9 u d) zaL (zdF (show Value.bool ((q1.Line:Int)==q3)=Value.bool true from congrArg Value.bool hb3) (zar 10 u i))
  refine zyR 3 rfl (zyN (zba rfl (zyG (zyR 1 rfl (zyN (zau (zag (zaf ?_))))))))
  cases h
  exact za2 4 results55
 have h:=zgU hb3 h
 obtain ⟨q4,hq4,h⟩:=zbL h
 refine zbB 22 [(0,35,zP b1),(1,36,zI q1.Line),(2,37,zP bp1),(3,38,zP bp1),(4,39,.pointer (some ⟨bp1,2,none⟩)),(5,40,p1_h2.v),(6,41,.pointer (some ⟨b1,1,none⟩)),(7,42,zI q1.Stanza),(8,43,.pointer (some ⟨zdz p1_h2.v,(0+(q1.Stanza:Int).toNat)*1,none⟩)),(9,44,zI q3),(10,45,.bool false),(11,46,.bool false),(12,47,zP b2),(13,48,zI q2.Line),(14,49,zP bp1),(15,50,zP bp1),(16,51,.pointer (some ⟨bp1,3,none⟩)),(17,52,p1_h3.v),(18,53,.pointer (some ⟨b2,1,none⟩)),(19,54,zI q2.Stanza),(20,55,.pointer (some ⟨zdz p1_h3.v,(0+(q2.Stanza:Int).toNat)*1,none⟩)),(21,56,zI q4)] mixed kr kr dc (by rfl) kr kr (zad ?_ (zad ?_ (zyP 1 2 rfl (zad ?_ (zad ?_ (zad ?_ (zad ?_ (zad ?_ (zad ?_ (zad ?_ (zad ?_ (zyP 1 11 rfl (zad ?_ (zad ?_ (zyP 1 14 rfl (zad ?_ (zad ?_ (zad ?_ (zad ?_ (zad ?_ (zad ?_ (zad ?_ DrawPre.nil)))))))))))))))))))))) ?_
 · exact fun D n d c u i=>zaa zfB rfl dc (zbd (by rfl) rfl) (show _=0 from rfl) (zar 0 u i)
 · exact fun D n d c u i=>zaj (k:=0) zbW rfl dc (zam 0 u d) rfl rfl (zar 1 u i)
 · exact fun D n d c u i=>zai rfl dc (zam 2 u d) (zar 3 u i)
 · exact fun D n d c u i=>zaa zmJ rfl dc (zam 3 u d) (show _=2 from rfl) (zar 4 u i)
 · exact fun D n d c u i=>zbs (i:=0) hrd rfl zhS rfl dc (zam 4 u d) rfl (zar 5 u i)
 · exact fun D n d c u i=>zaa zfA rfl dc (zbd (by rfl) rfl) (show _=1 from rfl) (zar 6 u i)
 · exact fun D n d c u i=>zaj (k:=0) zbW rfl dc (zam 6 u d) rfl rfl (zar 7 u i)
 · exact fun D n d c u i=>zbv (hrd.vw (i:=3) rfl) hq3 underlying24 zeI rfl dc (zam 5 u d) (zam 7 u d) rfl (zar 8 u i)
 · exact fun D n d c u i=>zde (n:=0+(q1.Stanza:Int).toNat) (j:=0) (i:=3) (q:=q3) hrd rfl zbW zcJ rfl dc (zam 8 u d) (Vw.get (hrd.vw (i:=3) rfl) hq3) rfl dc rfl (zar 9 u i)
 · exact fun D n d c u i=>zb6 rfl dc (zam 1 u d) (zam 9 u d) zaL (zdF (show Value.bool ((q1.Line:Int)==q3)=Value.bool false from congrArg Value.bool hb3) (zar 10 u i))
 · exact fun D n d c u i=>zaa zfB (zeV rfl (zam 11 u d)) dc (zbd (by rfl) rfl) (show _=0 from rfl) (zar 12 u i)
 · exact fun D n d c u i=>zaj (k:=1) zbW (zeV rfl (zam 11 u d)) dc (zam 12 u d) rfl rfl (zar 13 u i)
 · exact fun D n d c u i=>zai (zeV rfl (zam 11 u d)) dc (zam 14 u d) (zar 15 u i)
 · exact fun D n d c u i=>zaa zoz (zeV rfl (zam 11 u d)) dc (zam 15 u d) (show _=3 from rfl) (zar 16 u i)
 · exact fun D n d c u i=>zbs (i:=0) hrd rfl zhS (zeV rfl (zam 11 u d)) dc (zam 16 u d) rfl (zar 17 u i)
 · exact fun D n d c u i=>zaa zfA (zeV rfl (zam 11 u d)) dc (zbd (by rfl) rfl) (show _=1 from rfl) (zar 18 u i)
 · exact fun D n d c u i=>zaj (k:=1) zbW (zeV rfl (zam 11 u d)) dc (zam 18 u d) rfl rfl (zar 19 u i)
 · exact fun D n d c u i=>zbv (hrd.vw (i:=4) rfl) hq4 underlying24 zeI (zeV rfl (zam 11 u d)) dc (zam 17 u d) (zam 19 u d) rfl (zar 20 u i)
 · exact fun D n d c u i=>zde (n:=0+(q2.Stanza:Int).toNat) (j:=0) (i:=4) (q:=q4) hrd rfl zbW zcJ (zeV rfl (zam 11 u d)) dc (zam 20 u d) (Vw.get (hrd.vw (i:=4) rfl) hq4) rfl dc rfl (zar 21 u i)
 refine zaS rfl zaL (zyR 2 rfl (zyN ?_))
 refine zyB rfl h (fun h => ?_) (fun h => ?_)
 ·
  refine zyG (zyR 1 rfl (zyN (zau (zag (zaf ?_)))))
  cases h
  exact za2 4 results55
 refine zal (zae (zay (zyG (zyR 1 rfl (zyN (zau ?_))))))
 cases h
 exact za2 4 results55
def zcf (p1:za0) (from3:Int) (j2:(List zaw)→Option ((List Int)×Int)) (ag2:(List zaw)→Int→Option ((List Int)×Int)) (all8:List zaw) (to3:Int):Option ((List Int)×Int) := zaB (decide ((to3:Int)≤(p1.rows.length:Int))) ( zan (zdH p1 from3 to3) fun (r1:Int) => zaB (decide ((r1:Int)≤p1.heights)) ( zbE (fun (j3:(List zaw)→Option ((List Int)×Int)) => zbE (fun (j4:Int→Int→Option ((List Int)×Int)) => zaB (decide ((to3:Int)<(p1.rows.length:Int))) ( zan (zdH p1 from3 to3) fun (r2:Int) => grd (I64 (p1.heights - r2)) <| grd (I64 ((p1.heights - r2)*(p1.heights - r2))) <| zan (zeB p1 to3) fun (r3:Int) => grd (I64 (((p1.heights - r2)*(p1.heights - r2))+r3)) <| zan (zdf all8 to3) fun (q2:zaw) => grd (I64 ((((p1.heights - r2)*(p1.heights - r2))+r3)+q2.cost)) <| grd (I64 (q2.rows+1)) <| j4 ((((p1.heights - r2)*(p1.heights - r2))+r3)+q2.cost) (q2.rows+1)
) ( j4 0 1
)
) (fun (b2:Int) (b3:Int) => zan (zdf all8 from3) fun (q3:zaw) => zaB (decide ((q3.rows:Int)<0)) ( zan (zdf all8 from3) fun (q4:zaw) => j3 (all8.set (from3:Int).toNat (⟨b2,b3,to3⟩:zaw))
) ( zaB (decide ((b2:Int)<q3.cost)) ( zan (zdf all8 from3) fun (q5:zaw) => j3 (all8.set (from3:Int).toNat (⟨b2,b3,to3⟩:zaw))
) ( zaB ((b2:Int)==q3.cost) ( zaB (decide ((b3:Int)≤q3.rows)) ( zan (zdf all8 from3) fun (q6:zaw) => j3 (all8.set (from3:Int).toNat (⟨b2,b3,to3⟩:zaw))
) ( j3 all8
)
) ( j3 all8
)
)
)
)
) (fun (all9:List zaw) => grd (I64 (to3+1)) <| ag2 all9 (to3+1)
)
) ( j2 all8
)
) ( j2 all8
)
def zcg (p1:za0) (j1:(List zaw)→Option ((List Int)×Int)) (ag1:(List zaw)→Int→Option ((List Int)×Int)) (all4:List zaw) (from3:Int):Option ((List Int)×Int) := zaB (decide ((0:Int)≤from3)) ( zbE (fun (j2:(List zaw)→Option ((List Int)×Int)) => zan (zdf all4 from3) fun (q1:zaw) => grd (I64 (from3+1)) <| za1 (fun _ _=>none) (zcf p1 from3 j2) zcD (all4.set (from3:Int).toNat (⟨q1.cost,(-1),q1.to_⟩:zaw)) (from3+1)
) (fun (all5:List zaw) => grd (I64 (from3 - 1)) <| ag1 all5 (from3 - 1)
)
) ( j1 all4
)
def zbX (p1:za0) (all1:List zaw) (j5:(List Int)→Option ((List Int)×Int)) (ag3:(List Int)→Int→Option ((List Int)×Int)) (out4:List Int) (from6:Int):Option ((List Int)×Int) := zaB (decide ((from6:Int)<(p1.rows.length:Int))) ( zan (zdf all1 from6) fun (q7:zaw) => grd (out4.length+1≤2147483648) <| zan (zdf all1 from6) fun (q8:zaw) => ag3 (out4++[q7.to_]) q8.to_
) ( j5 out4
)
def zd6 (p1:za0):Option ((List Int)×Int) := zbE (fun (j1:(List zaw)→Option ((List Int)×Int)) => grd (I64 ((p1.rows.length:Int)+1)) <| grd (0≤((p1.rows.length:Int)+1)∧((p1.rows.length:Int)+1)≤2147483648) <| grd (I64 ((p1.rows.length:Int) - 1)) <| za1 (fun _ _=>none) (zcg p1 j1) zcD (List.replicate ((p1.rows.length:Int)+1:Int).toNat (⟨0,0,0⟩:zaw):List zaw) ((p1.rows.length:Int) - 1)
) (fun (all1:List zaw) => zbE (fun (j5:(List Int)→Option ((List Int)×Int)) => za1 (fun _ _=>none) (zbX p1 all1 j5) zcD ([]:List Int) 0
) (fun (out1:List Int) => zan (zdf all1 0) fun (q9:zaw) => some (out1,q9.cost)
)
)
theorem zi9 {bp1:Nat} {p1:za0} {p1_h0 p1_h1 p1_h2 p1_h3:Hd} {r:((List Int)×Int)} (h:zd6 p1=some r):FnR prog 30 [zP bp1] [cells bp1 [p1_h0.v,p1_h1.v,p1_h2.v,p1_h3.v,zI p1.heights] 85,zv1 p1_h0.v p1.rows,zv0 p1_h1.v p1.blanks,zv0 p1_h2.v p1.firsts,zv0 p1_h3.v p1.lasts] [] (fun v0:Value=>.tuple #[v0,zI r.2]) (fun v0=>[zv0 v0 r.1]):=by
 unfold zd6 at h
 refine FnR.intro func30 rfl ntmps30 (by simp) ?_
 intro w0 K hrd
 obtain ⟨j1,hj1,h⟩:=zbT h
 refine za8 (β:=(List zaw)×Value) 3 rfl (fun b=>j1 b.1=some r) (fun b=>[]) (fun b=>[(4,zI (p1.rows.length:Int)),(5,b.2)]) (fun b=>[zv9 b.2 b.1]) (fun cut => ?_) ?_
 ·
  refine zyG (zyR 2 rfl (zyH (zyR 1 rfl (zai rfl dc rfl (zaa ziJ rfl dc rfl (show _=0 from rfl) (zbs (i:=0) hrd rfl zo1 rfl dc rfl rfl (zcO (hrd.vw (i:=1) rfl) rfl dc rfl underlying37 (zyR 1 rfl ?_))))))))
  refine zyH (zyR 1 rfl ?_)
  obtain ⟨hg1,h⟩:=zbQ h
  refine zaS rfl (zbb (r:=(p1.rows.length:Int)+1) (IntWalk.i64_in _ hg1)) ?_
  obtain ⟨hg2,h⟩:=zbQ h
  refine zk6 (z:=(⟨0,0,0⟩:zaw)) underlying135 zwA znt zbe rfl dc rfl hg2 (fun v2 => ?_)
  refine zyR 1 rfl (zyN (cut (zyG (zyR 1 rfl ?_))))
  obtain ⟨hg3,h⟩:=zbQ h
  refine zaS rfl (zce (r:=(p1.rows.length:Int) - 1) (IntWalk.i64_in _ hg3)) (zyR 1 rfl (zyN (zaG ?_)))
  refine zbP (β:=Nat×(List zaw)×Int) (fun b=>za1 (fun _ _=>none) (zcg p1 j1) b.1 b.2.1 b.2.2=some r) (fun b=>[]) (fun b=>[(0,zP bp1),(4,zI (p1.rows.length:Int)),(5,v2),(6,zI b.2.2)]) (fun b=>[zv9 v2 b.2.1]) (fun b=>b.1) (zcD,(List.replicate ((p1.rows.length:Int)+1:Int).toNat (⟨0,0,0⟩:zaw):List zaw),(p1.rows.length:Int) - 1) h rfl (zbf rfl) (zab [0] kr rfl) ?_
  rintro ⟨n1,all4,from3⟩ h
  cases n1 with
  | zero=>exact zdO h
  | succ n1 =>
   obtain ⟨ag1,hag1⟩:∃ ag,ag=za1 (fun _ _=>none) (zcg p1 j1) n1:=⟨_,rfl⟩
   have h:zcg p1 j1 ag1 all4 from3=some r:=by rw [hag1]; exact h
   unfold zcg at h
   refine zaE (zyG (zyR 1 rfl (zaS rfl zbG (zyN ?_))))
   refine zyB rfl h (fun h => ?_) (fun h => ?_)
   ·
    refine zal (zay ?_)
    obtain ⟨j2,hj2,h⟩:=zbT h
    refine za8 (β:=(List zaw)) 0 rfl (fun b=>j2 b=some r) (fun b=>[]) (fun b=>[(0,zP bp1),(4,zI (p1.rows.length:Int)),(5,v2),(6,zI from3)]) (fun b=>[zv9 v2 b]) (fun cut => ?_) ?_
    ·
     refine cut (zaG (zyG (zyR 2 rfl ?_)))
     obtain ⟨q1,hq1,h⟩:=zbL h
     refine za3 (k:=0) hq1 underlying135 zdL rfl dc rfl rfl rfl rfl (zaa zf9 rfl dc rfl (show _=((from3:Int).toNat)*3+1 from rfl) ?_)
     refine zex (i:=(from3:Int).toNat) (j:=1) (k:=0) (q:=q1) (q':=(⟨q1.cost,(-1),q1.to_⟩:zaw)) zeI zbe rfl rfl rfl rfl (zbo hq1) rfl dc rfl (fun _ _=>rfl) ?_
     refine zyH (zyR 1 rfl ?_)
     obtain ⟨hg4,h⟩:=zbQ h
     refine zaS rfl (zbb (r:=from3+1) (IntWalk.i64_in _ hg4)) (zyR 1 rfl (zyN (zaG ?_)))
     refine zbP (β:=Nat×(List zaw)×Int) (fun b=>za1 (fun _ _=>none) (zcf p1 from3 j2) b.1 b.2.1 b.2.2=some r) (fun b=>[]) (fun b=>[(0,zP bp1),(4,zI (p1.rows.length:Int)),(5,v2),(6,zI from3),(7,zI b.2.2)]) (fun b=>[zv9 v2 b.2.1]) (fun b=>b.1) (zcD,all4.set (from3:Int).toNat (⟨q1.cost,(-1),q1.to_⟩:zaw),from3+1) h rfl (zbf rfl) (zab [0] kr rfl) ?_
     rintro ⟨n2,all8,to3⟩ h
     cases n2 with
     | zero=>exact zdO h
     | succ n2 =>
      obtain ⟨ag2,hag2⟩:∃ ag,ag=za1 (fun _ _=>none) (zcf p1 from3 j2) n2:=⟨_,rfl⟩
      have h:zcf p1 from3 j2 ag2 all8 to3=some r:=by rw [hag2]; exact h
      unfold zcf at h
      refine zaE (zaE ?_)
      refine zeH (b:=decide ((to3:Int)≤(p1.rows.length:Int))) (fun hb2 => ?_) (fun hb2 => ?_)
      ·
       have h:=zgT hb2 h
       obtain ⟨r1,hq2,h⟩:=zbL h
       refine zbB 12 [(0,33,zI to3),(1,34,zI (p1.rows.length:Int)),(2,35,.bool true),(3,36,.bool true),(4,37,zP bp1),(5,38,zI from3),(6,39,zI to3),(7,40,zI r1),(8,41,zP bp1),(9,42,zP bp1),(10,43,.pointer (some ⟨bp1,4,none⟩)),(11,44,zI p1.heights)] mixed kr kr dc (by rfl) kr kr (zyP 2 0 rfl (zad ?_ (zyP 4 3 rfl (zad ?_ (zyP 1 8 rfl (zad ?_ (zad ?_ (zad ?_ DrawPre.nil)))))))) ?_
       · exact fun D n d c u i=>zb6 rfl dc (zam 0 u d) (zam 1 u d) zbM (zdF (show Value.bool (decide ((to3:Int)≤(p1.rows.length:Int)))=Value.bool true from congrArg Value.bool hb2) (zar 2 u i))
       · exact fun D n d c u i=>zbK (v:=zI r1) (vs:=[zP bp1,zI from3,zI to3]) hrd (zeV rfl (zam 3 u d)) dc rfl (evL.cons (zam 4 u d) (evL.cons (zam 5 u d) (evL.cons (zam 6 u d) evL.nil))) rfl zzm (zg7 (bp1:=bp1) (p1:=p1) (p1_h0:=p1_h0) (p1_h1:=p1_h1) (p1_h2:=p1_h2) (p1_h3:=p1_h3) hq2) (.ro 0 rfl (.ro 1 rfl (.ro 2 rfl (.ro 3 rfl (.ro 4 rfl .nil))))) (zar 7 u i)
       · exact fun D n d c u i=>zai (zeV rfl (zam 3 u d)) dc (zam 8 u d) (zar 9 u i)
       · exact fun D n d c u i=>zaa zt5 (zeV rfl (zam 3 u d)) dc (zam 9 u d) (show _=4 from rfl) (zar 10 u i)
       · exact fun D n d c u i=>zbs (i:=0) hrd rfl zbW (zeV rfl (zam 3 u d)) dc (zam 10 u d) rfl (zar 11 u i)
       refine zaS rfl zbM (zyR 1 rfl (zyN ?_))
       refine zyB rfl h (fun h => ?_) (fun h => ?_)
       ·
        refine zal (zay ?_)
        obtain ⟨j3,hj3,h⟩:=zbT h
        refine za8 (β:=(List zaw)) 0 rfl (fun b=>j3 b=some r) (fun b=>[]) (fun b=>[(0,zP bp1),(4,zI (p1.rows.length:Int)),(5,v2),(6,zI from3),(7,zI to3),(37,zP bp1),(38,zI from3),(39,zI to3),(40,zI r1),(41,zP bp1),(42,zP bp1),(43,.pointer (some ⟨bp1,4,none⟩)),(44,zI p1.heights),(45,.bool (decide ((r1:Int)≤p1.heights)))]) (fun b=>[zv9 v2 b]) (fun cut => ?_) ?_
        ·
         refine cut (zaG ?_)
         obtain ⟨j4,hj4,h⟩:=zbT h
         refine za8 (β:=Int×Int×Nat) 1 rfl (fun b=>j4 b.1 b.2.1=some r) (fun b=>[]) (fun b=>[(0,zP bp1),(4,zI (p1.rows.length:Int)),(5,v2),(6,zI from3),(7,zI to3),(8,zP b.2.2),(37,zP bp1),(38,zI from3),(39,zI to3),(40,zI r1),(41,zP bp1),(42,zP bp1),(43,.pointer (some ⟨bp1,4,none⟩)),(44,zI p1.heights),(45,.bool (decide ((r1:Int)≤p1.heights)))]) (fun b=>[zv9 v2 all8,cells b.2.2 [zI b.1,zI b.2.1,zI to3] 137]) (fun cut => ?_) ?_
         ·
          refine zyG (zyR 1 rfl ?_)
          refine zbA (v:=.agg #[zI 0,zI 1,zI to3]) (ps:=[(1,.const (zI 1)),(2,.tmp 49)]) rfl dc rfl (fun _=>by kernel_rfl) ?_
          refine zbh znt rfl dc (fun b4 => ?_)
          refine zaZ (k:=1) (vs:=[zI 0,zI 1,zI to3]) (l':=[zI 0,zI 1,zI to3]) zdL rfl rfl rfl rfl rfl (show _≤_ by simp) rfl rfl ?_
          refine zyN (cut (zyG (zyR 2 rfl (zaS rfl zbF (zyN ?_)))))
          refine zyB rfl h (fun h => ?_) (fun h => ?_)
          ·
           refine zaE ?_
           obtain ⟨r2,hq3,h⟩:=zbL h
           obtain ⟨hg5,h⟩:=zbQ h
           refine zbB 8 [(0,54,zP bp1),(1,55,zP bp1),(2,56,.pointer (some ⟨bp1,4,none⟩)),(3,57,zI p1.heights),(4,58,zP bp1),(5,59,zI from3),(6,60,zI to3),(7,61,zI r2)] mixed kr kr dc (by rfl) kr kr (zyP 1 0 rfl (zad ?_ (zad ?_ (zad ?_ (zyP 3 4 rfl (zad ?_ DrawPre.nil)))))) ?_
           · exact fun D n d c u i=>zai rfl dc (zam 0 u d) (zar 1 u i)
           · exact fun D n d c u i=>zaa zt5 rfl dc (zam 1 u d) (show _=4 from rfl) (zar 2 u i)
           · exact fun D n d c u i=>zbs (i:=0) hrd rfl zbW rfl dc (zam 2 u d) rfl (zar 3 u i)
           · exact fun D n d c u i=>zbK (v:=zI r2) (vs:=[zP bp1,zI from3,zI to3]) hrd rfl dc rfl (evL.cons (zam 4 u d) (evL.cons (zam 5 u d) (evL.cons (zam 6 u d) evL.nil))) rfl zzm (zg7 (bp1:=bp1) (p1:=p1) (p1_h0:=p1_h0) (p1_h1:=p1_h1) (p1_h2:=p1_h2) (p1_h3:=p1_h3) hq3) (.ro 0 rfl (.ro 1 rfl (.ro 2 rfl (.ro 3 rfl (.ro 4 rfl .nil))))) (zar 7 u i)
           refine zaS rfl (zce (r:=p1.heights - r2) (IntWalk.i64_in _ hg5)) (zyR 1 rfl (zyN ?_))
           obtain ⟨hg6,h⟩:=zbQ h
           obtain ⟨r3,hq4,h⟩:=zbL h
           obtain ⟨hg7,h⟩:=zbQ h
           obtain ⟨q2,hq5,h⟩:=zbL h
           obtain ⟨hg8,h⟩:=zbQ h
           obtain ⟨hg9,h⟩:=zbQ h
           refine zbB 20 [(0,63,zI (p1.heights - r2)),(1,64,zI (p1.heights - r2)),(2,65,zI ((p1.heights - r2)*(p1.heights - r2))),(3,66,zP bp1),(4,67,zI to3),(5,68,zI r3),(6,69,zI (((p1.heights - r2)*(p1.heights - r2))+r3)),(7,70,v2),(8,71,zI to3),(9,72,.pointer (some ⟨zdz v2,(to3:Int).toNat*3,none⟩)),(10,73,.pointer (some ⟨zdz v2,((to3:Int).toNat)*3,none⟩)),(11,74,zI q2.cost),(12,75,zI ((((p1.heights - r2)*(p1.heights - r2))+r3)+q2.cost)),(13,76,v2),(14,77,zI to3),(15,78,.pointer (some ⟨zdz v2,(to3:Int).toNat*3,none⟩)),(16,79,.pointer (some ⟨zdz v2,((to3:Int).toNat)*3+1,none⟩)),(17,80,zI q2.rows),(18,81,zI (q2.rows+1)),(19,82,zI to3)] mixed kr kr dc (by rfl) kr kr (zyP 2 0 rfl (zad ?_ (zyP 2 3 rfl (zad ?_ (zad ?_ (zyP 2 7 rfl (zad ?_ (zad ?_ (zad ?_ (zad ?_ (zyP 2 13 rfl (zad ?_ (zad ?_ (zad ?_ (zad ?_ (zyP 1 19 rfl DrawPre.nil)))))))))))))))) ?_
           · exact fun D n d c u i=>zb6 rfl dc (zam 0 u d) (zam 1 u d) (zqT (r:=(p1.heights - r2)*(p1.heights - r2)) (IntWalk.i64_in _ hg6)) (zar 2 u i)
           · exact fun D n d c u i=>zbK (v:=zI r3) (vs:=[zP bp1,zI to3]) hrd rfl dc rfl (evL.cons (zam 3 u d) (evL.cons (zam 4 u d) evL.nil)) rfl zAt (zjW (bp1:=bp1) (p1:=p1) (p1_h0:=p1_h0) (p1_h1:=p1_h1) (p1_h2:=p1_h2) (p1_h3:=p1_h3) hq4) (.ro 0 rfl (.ro 1 rfl (.ro 2 rfl (.ro 3 rfl (.ro 4 rfl .nil))))) (zar 5 u i)
           · exact fun D n d c u i=>zb6 rfl dc (zam 2 u d) (zam 5 u d) (zbb (r:=((p1.heights - r2)*(p1.heights - r2))+r3) (IntWalk.i64_in _ hg7)) (zar 6 u i)
           · exact fun D n d c u i=>za3 (k:=0) hq5 underlying135 zdL rfl dc (zam 7 u d) (zam 8 u d) rfl rfl (zar 9 u i)
           · exact fun D n d c u i=>zaa zfK rfl dc (zam 9 u d) (show _=((to3:Int).toNat)*3 from rfl) (zar 10 u i)
           · exact fun D n d c u i=>zbD (i:=(to3:Int).toNat) (j:=0) (k:=0) (q:=q2) zbW zbe rfl dc (zam 10 u d) rfl (zbo hq5) rfl dc rfl (zar 11 u i)
           · exact fun D n d c u i=>zb6 rfl dc (zam 6 u d) (zam 11 u d) (zbb (r:=(((p1.heights - r2)*(p1.heights - r2))+r3)+q2.cost) (IntWalk.i64_in _ hg8)) (zar 12 u i)
           · exact fun D n d c u i=>za3 (k:=0) hq5 underlying135 zdL rfl dc (zam 13 u d) (zam 14 u d) rfl rfl (zar 15 u i)
           · exact fun D n d c u i=>zaa zf9 rfl dc (zam 15 u d) (show _=((to3:Int).toNat)*3+1 from rfl) (zar 16 u i)
           · exact fun D n d c u i=>zbD (i:=(to3:Int).toNat) (j:=1) (k:=0) (q:=q2) zbW zbe rfl dc (zam 16 u d) rfl (zbo hq5) rfl dc rfl (zar 17 u i)
           · exact fun D n d c u i=>zb6 rfl dc (zam 17 u d) rfl (zbb (r:=q2.rows+1) (IntWalk.i64_in _ hg9)) (zar 18 u i)
           refine zbA (v:=.agg #[zI ((((p1.heights - r2)*(p1.heights - r2))+r3)+q2.cost),zI (q2.rows+1),zI to3]) (ps:=[(0,.tmp 75),(1,.tmp 81),(2,.tmp 82)]) rfl dc rfl (fun _=>by kernel_rfl) ?_
           refine zaZ (k:=1) (vs:=[zI ((((p1.heights - r2)*(p1.heights - r2))+r3)+q2.cost),zI (q2.rows+1),zI to3]) (l':=[zI ((((p1.heights - r2)*(p1.heights - r2))+r3)+q2.cost),zI (q2.rows+1),zI to3]) zdL rfl rfl rfl rfl rfl (show _≤_ by simp) rfl rfl (zaP ?_)
           exact zak ((((p1.heights - r2)*(p1.heights - r2))+r3)+q2.cost,q2.rows+1,b4) h rfl (zbf rfl) (zab [0,1] kr rfl)
          refine zal ?_
          exact zak (0,1,b4) h rfl (zbf rfl) (zab [0,1] kr rfl)
         rintro ⟨b2,b3,b1⟩ h
         rw [hj4] at h
         refine zyG (zyR 2 rfl ?_)
         obtain ⟨q3,hq6,h⟩:=zbL h
         refine za3 (k:=0) hq6 underlying135 zdL rfl dc rfl rfl rfl rfl (zgr (i:=(from3:Int).toNat) (j:=0) (k:=0) (q:=q3) (cs:=(zr5 q3)) zle zbe rfl dc rfl rfl (zbo hq6) rfl rfl rfl ?_)
         refine zbh znt rfl dc (fun b5 => ?_)
         refine zaZ (k:=2) (vs:=(zr5 q3)) (l':=(zr5 q3)) zdL rfl rfl rfl rfl rfl (show _≤_ by simp) rfl rfl ?_
         refine zyH (zaa zf9 rfl dc rfl (show _=1 from rfl) (zaj (k:=2) zbW rfl dc rfl rfl rfl (zaS rfl zbF (zyR 1 rfl ?_))))
         refine zyS (s:=91) rfl h (fun h => ?_) (fun h => ?_)
         ·
          refine zyR 14 rfl ?_
          refine zyR 6 rfl (zyN (zba rfl (zas (zyR 2 rfl (zaV (k:=1) (cs:=[zI b2,zI b3,zI to3]) zle rfl dc rfl rfl rfl rfl ?_)))))
          obtain ⟨q4,hq7,h⟩:=zbL h
          refine za3 (k:=0) hq7 underlying135 zdL rfl dc rfl rfl rfl rfl ?_
          refine zfX (i:=(from3:Int).toNat) (j:=0) (k:=0) (q:=q4) (q':=(⟨b2,b3,to3⟩:zaw)) (vs:=[zI b2,zI b3,zI to3]) zdL zbe rfl rfl rfl rfl (zbo hq7) rfl dc rfl rfl (fun m=>[q4,(⟨b2,q4.rows,q4.to_⟩:zaw),(⟨b2,b3,q4.to_⟩:zaw),(⟨b2,b3,to3⟩:zaw)].getD m q4) rfl rfl (by intro m hm; rcases m with _ | _ | _ | m <;> first | rfl | (exfalso; omega)) ?_
          refine zaP (zae ?_)
          exact zak (all8.set (from3:Int).toNat (⟨b2,b3,to3⟩:zaw)) h rfl (zbf rfl) (zab [0] kr rfl)
         refine zaa zfK rfl dc rfl (show _=0 from rfl) (zaj (k:=1) zbW rfl dc rfl rfl rfl (zaa zfK rfl dc rfl (show _=0 from rfl) (zaj (k:=2) zbW rfl dc rfl rfl rfl (zaS rfl zbF (zyR 2 rfl ?_)))))
         refine zyS (s:=98) rfl h (fun h => ?_) (fun h => ?_)
         ·
          refine zyR 13 rfl (zaP ?_)
          refine zay (zba rfl (zas (zyR 2 rfl (zaV (k:=1) (cs:=[zI b2,zI b3,zI to3]) zle rfl dc rfl rfl rfl rfl ?_))))
          obtain ⟨q5,hq8,h⟩:=zbL h
          refine za3 (k:=0) hq8 underlying135 zdL rfl dc rfl rfl rfl rfl ?_
          refine zfX (i:=(from3:Int).toNat) (j:=0) (k:=0) (q:=q5) (q':=(⟨b2,b3,to3⟩:zaw)) (vs:=[zI b2,zI b3,zI to3]) zdL zbe rfl rfl rfl rfl (zbo hq8) rfl dc rfl rfl (fun m=>[q5,(⟨b2,q5.rows,q5.to_⟩:zaw),(⟨b2,b3,q5.to_⟩:zaw),(⟨b2,b3,to3⟩:zaw)].getD m q5) rfl rfl (by intro m hm; rcases m with _ | _ | _ | m <;> first | rfl | (exfalso; omega)) ?_
          refine zaP (zae ?_)
          exact zak (all8.set (from3:Int).toNat (⟨b2,b3,to3⟩:zaw)) h rfl (zbf rfl) (zab [0] kr rfl)
         refine zaa zfK rfl dc rfl (show _=0 from rfl) (zaj (k:=1) zbW rfl dc rfl rfl rfl (zaa zfK rfl dc rfl (show _=0 from rfl) (zaj (k:=2) zbW rfl dc rfl rfl rfl (zaS rfl zaL (zyR 1 rfl ?_)))))
         refine zyS (s:=104) rfl h (fun h => ?_) (fun h => ?_)
         ·
          refine zaa zf9 rfl dc rfl (show _=1 from rfl) (zaj (k:=1) zbW rfl dc rfl rfl rfl (zaa zf9 rfl dc rfl (show _=1 from rfl) (zaj (k:=2) zbW rfl dc rfl rfl rfl (zaS rfl zbM (zyR 2 rfl (zyN ?_))))))
          refine zyB rfl h (fun h => ?_) (fun h => ?_)
          ·
           refine zas (zyR 2 rfl (zaV (k:=1) (cs:=[zI b2,zI b3,zI to3]) zle rfl dc rfl rfl rfl rfl ?_))
           obtain ⟨q6,hq9,h⟩:=zbL h
           refine za3 (k:=0) hq9 underlying135 zdL rfl dc rfl rfl rfl rfl ?_
           refine zfX (i:=(from3:Int).toNat) (j:=0) (k:=0) (q:=q6) (q':=(⟨b2,b3,to3⟩:zaw)) (vs:=[zI b2,zI b3,zI to3]) zdL zbe rfl rfl rfl rfl (zbo hq9) rfl dc rfl rfl (fun m=>[q6,(⟨b2,q6.rows,q6.to_⟩:zaw),(⟨b2,b3,q6.to_⟩:zaw),(⟨b2,b3,to3⟩:zaw)].getD m q6) rfl rfl (by intro m hm; rcases m with _ | _ | _ | m <;> first | rfl | (exfalso; omega)) ?_
           refine zaP (zae ?_)
           exact zak (all8.set (from3:Int).toNat (⟨b2,b3,to3⟩:zaw)) h rfl (zbf rfl) (zab [0] kr rfl)
          refine zal (zae ?_)
          exact zak all8 h rfl (zbf rfl) (zab [0] kr rfl)
         refine zyR 7 rfl (zyN (zaM rfl (zal (zae ?_))))
         exact zak all8 h rfl (zbf rfl) (zab [0] kr rfl)
        rintro all9 h
        rw [hj3] at h
        refine zas (zyR 1 rfl ?_)
        obtain ⟨hg10,h⟩:=zbQ h
        refine zaS rfl (zbb (r:=to3+1) (IntWalk.i64_in _ hg10)) (zyR 1 rfl (zaP ?_))
        subst hag2
        exact zbr (n2,all9,to3+1) h (Nat.lt_succ_self _) rfl (zbf rfl) (zab [0] kr rfl)
       refine zbu (zaq (zaq (zaJ (zae ?_))))
       exact zak all8 h rfl (zbf rfl) (zab [0] kr rfl)
      have h:=zgU hb2 h
      refine zbB 12 [(0,33,zI to3),(1,34,zI (p1.rows.length:Int)),(2,35,.bool false),(3,36,.bool false),(4,37,undef),(5,38,undef),(6,39,undef),(7,40,undef),(8,41,undef),(9,42,undef),(10,43,undef),(11,44,undef)] mixed kr kr dc (by rfl) kr kr (zyP 2 0 rfl (zad ?_ (zyP 9 3 rfl DrawPre.nil))) ?_
      · exact fun D n d c u i=>zb6 rfl dc (zam 0 u d) (zam 1 u d) zbM (zdF (show Value.bool (decide ((to3:Int)≤(p1.rows.length:Int)))=Value.bool false from congrArg Value.bool hb2) (zar 2 u i))
      refine zyR 2 rfl (zyN (zaM rfl (zbu (zaq (zaq (zaJ (zae ?_)))))))
      exact zak all8 h rfl (zbf rfl) (zab [0] kr rfl)
    rintro all5 h
    rw [hj2] at h
    refine zas (zyR 1 rfl ?_)
    obtain ⟨hg11,h⟩:=zbQ h
    refine zaS rfl (zce (r:=from3 - 1) (IntWalk.i64_in _ hg11)) (zyR 1 rfl (zaP ?_))
    subst hag1
    exact zbr (n1,all5,from3 - 1) h (Nat.lt_succ_self _) rfl (zbf rfl) (zab [0] kr rfl)
   refine zbu (zaq (zaq (zaJ ?_)))
   exact zak (all4,v2) h rfl (zbf rfl) (zab [0] kr rfl)
 rintro ⟨all1,v1⟩ h
 rw [hj1] at h
 obtain ⟨j5,hj5,h⟩:=zbT h
 refine za8 (β:=(List Int)×Hd) 1 rfl (fun b=>j5 b.1=some r) (fun b=>[]) (fun b=>[(5,v1),(11,b.2.v)]) (fun b=>[zv9 v1 all1,zv0 b.2.v b.1]) (fun cut => ?_) ?_
 ·
  refine zyG (zyR 1 rfl (zyN (cut (zyG (zyR 1 rfl (zyN (zaG (zer (enc:=(zlp (.i64))) (e:=3) (size:=1) ?_))))))))
  refine zbP (β:=Nat×(List Int)×Int×Hd) (fun b=>za1 (fun _ _=>none) (zbX p1 all1 j5) b.1 b.2.1 b.2.2.1=some r) (fun b=>[]) (fun b=>[(4,zI (p1.rows.length:Int)),(5,v1),(11,b.2.2.2.v),(12,zI b.2.2.1)]) (fun b=>[zv9 v1 all1,zv0 b.2.2.2.v b.2.1]) (fun b=>b.1) (zcD,([]:List Int),0,Hd.nil) h rfl (zbf rfl) (zab [0,1] kr rfl) ?_
  rintro ⟨n3,out4,from6,hd4⟩ h
  cases n3 with
  | zero=>exact zdO h
  | succ n3 =>
   obtain ⟨ag3,hag3⟩:∃ ag,ag=za1 (fun _ _=>none) (zbX p1 all1 j5) n3:=⟨_,rfl⟩
   have h:zbX p1 all1 j5 ag3 out4 from6=some r:=by rw [hag3]; exact h
   unfold zbX at h
   refine zaE (zyG (zyR 2 rfl (zaS rfl zbF (zyN ?_))))
   refine zyB rfl h (fun h => ?_) (fun h => ?_)
   ·
    refine zal (zay (zaE (zaG (zas (zyR 3 rfl ?_)))))
    obtain ⟨q7,hq10,h⟩:=zbL h
    refine za3 (k:=0) hq10 underlying135 zdL rfl dc rfl rfl rfl rfl (zaa zlU rfl dc rfl (show _=((from6:Int).toNat)*3+2 from rfl) (zbD (i:=(from6:Int).toNat) (j:=2) (k:=0) (q:=q7) zbW zbe rfl dc rfl rfl (zbo hq10) rfl dc rfl ?_))
    refine zbc (cs:=[zI q7.to_]) (te:=3) (ps:=[(0,.tmp 129)]) rfl dc rfl (fun _=>by kernel_rfl) (fun b6 => ?_)
    obtain ⟨hg12,h⟩:=zbQ h
    refine zbx (k:=1) (k2:=2) (ys:=[q7.to_]) underlying24 zxM zcJ zgw rfl dc rfl rfl rfl rfl rfl rfl hg12 (fun v3 => ?_)
    refine zbJ (k:=1) rfl (fun hd5 he1 => ?_)
    subst he1
    refine zyR 1 rfl (zaP (zae (zay (zas (zyR 2 rfl ?_)))))
    obtain ⟨q8,hq11,h⟩:=zbL h
    refine za3 (k:=0) hq11 underlying135 zdL rfl dc rfl rfl rfl rfl (zaa zlU rfl dc rfl (show _=((from6:Int).toNat)*3+2 from rfl) (zbD (i:=(from6:Int).toNat) (j:=2) (k:=0) (q:=q8) zbW zbe rfl dc rfl rfl (zbo hq11) rfl dc rfl (zyR 1 rfl (zaP ?_))))
    subst hag3
    exact zbr (n3,out4++[q7.to_],q8.to_,hd5) h (Nat.lt_succ_self _) rfl (zbf rfl) (zab [0,1] kr rfl)
   refine zbu (zaq (zaq (zaJ ?_)))
   exact zak (out4,hd4) h rfl (zbf rfl) (zab [0,1] kr rfl)
 rintro ⟨out1,hd1⟩ h
 rw [hj5] at h
 refine zaE ?_
 obtain ⟨q9,hq12,h⟩:=zbL h
 refine zbB 6 [(0,132,hd1.v),(1,133,v1),(2,134,.pointer (some ⟨zdz v1,(0:Int).toNat*3,none⟩)),(3,135,.pointer (some ⟨zdz v1,((0:Int).toNat)*3,none⟩)),(4,136,zI q9.cost),(5,2,hd1.v)] mixed kr kr dc (by rfl) kr kr (zyP 2 0 rfl (zad ?_ (zad ?_ (zad ?_ (zyP 1 5 rfl DrawPre.nil))))) ?_
 · exact fun D n d c u i=>za3 (k:=0) hq12 underlying135 zdL rfl dc (zam 1 u d) rfl rfl rfl (zar 2 u i)
 · exact fun D n d c u i=>zaa zfK rfl dc (zam 2 u d) (show _=((0:Int).toNat)*3 from rfl) (zar 3 u i)
 · exact fun D n d c u i=>zbD (i:=(0:Int).toNat) (j:=0) (k:=0) (q:=q9) zbW zbe rfl dc (zam 3 u d) rfl (zbo hq12) rfl dc rfl (zar 4 u i)
 refine zyR 1 rfl (zyN (zau ?_))
 cases h
 exact zbt (rs:=[.tmp 2,.tmp 3]) hd1.v (.inl rfl) results30 (.cons (.tmp rfl) (.cons (.tmp rfl) .nil)) rfl (zab [1] kr rfl)
def zbY (l1:zaO) (x2:Int×zax) (ag1:(List zap)→(List Int)→(List Int)→(List Int)→Int→Option (Int×za0)) (cost4:Int) (l18:List Int) (l19:List Int) (r2:((List zBA)×Int)) (ag2:(List zap)→(List Int)→Int→Option (Int×za0)) (l24:List zap) (l25:List Int) (x5:Int):Option (Int×za0) := zaB (decide ((x5:Int)<(r2.1.length:Int))) ( zbE (fun (j3:Int→Int→zBA→Option (Int×za0)) => zan (zdf r2.1 x5) fun (q2:zBA) => zaB ((x5:Int)==0) ( zaB (decide ((0:Int)<l1.Every)) ( grd (I64 (x2.1+1)) <| grd (l1.Every≠0) <| zaB (((Int.tmod (x2.1+1) l1.Every):Int)==0) ( grd (I64 (x2.1+1)) <| j3 x2.2.Indent (x2.1+1) q2
) ( j3 x2.2.Indent 0 q2
)
) ( j3 x2.2.Indent 0 q2
)
) ( j3 l1.Turn 0 q2
)
) (fun (r3:Int) (r4:Int) (r5:zBA) => grd (l24.length+1≤2147483648) <| grd (l25.length+1≤2147483648) <| grd (I64 (x5+1)) <| ag2 (l24++[(⟨x2.1,x2.2.Stanza,x5,r3,r4,r5⟩:zap)]) (l25++[x2.2.Stanza]) (x5+1)
)
) ( ag1 l24 l25 l18 (l19.set (x2.2.Stanza:Int).toNat x2.1) (cost4+r2.2)
)
def zch (l1:zaO) (x2:Int×zax) (ag1:(List zap)→(List Int)→(List Int)→(List Int)→Int→Option (Int×za0)) (l14:List zap) (l15:List Int) (l16:List Int) (l17:List Int) (cost4:Int):Option (Int×za0) := zbE (fun (j2:(List Int)→(List Int)→Option (Int×za0)) => zaB ((x2.2.Stanza:Int)==(l16.length:Int)) ( grd (l16.length+1≤2147483648) <| grd (l17.length+1≤2147483648) <| j2 (l16++[x2.1]) (l17++[x2.1])
) ( j2 l16 l17
)
) (fun (l18:List Int) (l19:List Int) => zan (zdf l19 x2.2.Stanza) fun (q1:Int) => zan (zfR x2.2.Text x2.2.Indent l1) fun (r2:((List zBA)×Int)) => grd (I64 (cost4+r2.2)) <| za1 (fun _ _ _=>none) (zbY l1 x2 ag1 cost4 l18 l19 r2) zcD l14 l15 0
)
def zd7 (p1:za0) (x1:zaC) (l1:zaO):Option (Int×za0) := zbE (fun (j1:(List zap)→(List Int)→(List Int)→(List Int)→Int→Option (Int×za0)) => zan (zef x1) fun (r1:Unit) => zan (zdk x1) fun (its1:(List (Int×zax))) => zbE (fun (dn1:(List zap)→(List Int)→(List Int)→(List Int)→Int→Option (Int×za0)) => zcQ dn1 (zch l1) its1 p1.rows p1.blanks p1.firsts p1.lasts 0
) (fun (l14:List zap) (l15:List Int) (l16:List Int) (l17:List Int) (cost4:Int) => j1 l14 l15 l16 l17 cost4
)
) (fun (l2:List zap) (l3:List Int) (l4:List Int) (l5:List Int) (cost1:Int) => some (cost1,(⟨l2,l3,l4,l5,p1.heights⟩:za0))
)
theorem zja {bp1:Nat} {p1:za0} {p1_h0 p1_h1 p1_h2 p1_h3:Hd} {bx1:Nat} {x1:zaC} {x1_h0 x1_h1:Hd} {l1:zaO} {r:(Int×za0)} (h:zd7 p1 x1 l1=some r):FnR prog 29 [zP bp1,zP bx1,.agg (zr0 l1).toArray] [cells bx1 [.string x1.told_title,x1_h0.v,x1_h1.v,.string x1.source] 76,zv7 x1_h0.v x1.told_lines,zv8 x1_h1.v x1.told_stanzas] [cells bp1 [p1_h0.v,p1_h1.v,p1_h2.v,p1_h3.v,zI p1.heights] 85,zv1 p1_h0.v p1.rows,zv0 p1_h1.v p1.blanks,zv0 p1_h2.v p1.firsts,zv0 p1_h3.v p1.lasts] (fun b:Hd×Hd×Hd×Hd=>zI r.1) (fun b=>[cells bp1 [b.1.v,b.2.1.v,b.2.2.1.v,b.2.2.2.v,zI r.2.heights] 85,zv1 b.1.v r.2.rows,zv0 b.2.1.v r.2.blanks,zv0 b.2.2.1.v r.2.firsts,zv0 b.2.2.2.v r.2.lasts]):=by
 unfold zd7 at h
 refine FnR.intro func29 rfl ntmps29 (by simp) ?_
 intro w0 K hrd
 refine zgz ?_
 obtain ⟨j1,hj1,h⟩:=zbT h
 refine za8 (β:=(List zap)×(List Int)×(List Int)×(List Int)×Int×Hd×Hd×Hd×Hd×Nat×(List Nat)) 2 rfl (fun b=>j1 b.1 b.2.1 b.2.2.1 b.2.2.2.1 b.2.2.2.2.1=some r) (fun b=>zec b.2.2.2.2.2.2.2.2.2.2) (fun b=>[(7,zP b.2.2.2.2.2.2.2.2.2.1)]) (fun b=>[cells bp1 [b.2.2.2.2.2.1.v,b.2.2.2.2.2.2.1.v,b.2.2.2.2.2.2.2.1.v,b.2.2.2.2.2.2.2.2.1.v,zI p1.heights] 85,zv1 b.2.2.2.2.2.1.v b.1,zv0 b.2.2.2.2.2.2.1.v b.2.1,zv0 b.2.2.2.2.2.2.2.1.v b.2.2.1,zv0 b.2.2.2.2.2.2.2.2.1.v b.2.2.2.1,cells b.2.2.2.2.2.2.2.2.2.1 [zI b.2.2.2.2.1] 3,zhG ((b.2.2.2.2.2.2.2.2.2.2:List Nat).map zib)]) (fun cut => ?_) ?_
 ·
  refine zyG ?_
  refine zdi rfl dc rfl (fun b2 => ?_)
  refine zdi rfl dc rfl (fun b3 => ?_)
  refine zyR 1 rfl (zyH ?_)
  refine zbh zyk rfl dc (fun b4 => ?_)
  refine zaT (k:=8) (l':=[zI 0]) zeI rfl rfl rfl rfl rfl (fun _ _=>rfl) rfl ?_
  refine zyN (cut (zyG (zyR 1 rfl ?_)))
  obtain ⟨r1,hq1,h⟩:=zbL h
  refine zft (vs:=[zP bx1]) hrd rfl dc rfl rfl rfl zxK (zgk (bp1:=bx1) (p1:=x1) (p1_h0:=x1_h0) (p1_h1:=x1_h1) hq1) Splits.nil (.ro 0 rfl (.ro 1 rfl (.ro 2 rfl .nil))) ?_
  rintro b5
  refine zcs (L':=[cells bp1 [p1_h0.v,p1_h1.v,p1_h2.v,p1_h3.v,zI p1.heights] 85,zv1 p1_h0.v p1.rows,zv0 p1_h1.v p1.blanks,zv0 p1_h2.v p1.firsts,zv0 p1_h3.v p1.lasts,zhG ((([]:List Nat):List Nat).map zib),cells b2 [zP bp1] 83,cells b3 (zr0 l1) 23,cells b4 [zI 0] 3,cells b5 [zP bx1] 28]) (zab [0,1,2,3,4,5,6,7,8,9] kr rfl) (zyN (zaG ?_))
  obtain ⟨its1,hq2,h⟩:=zbL h
  obtain ⟨dn1,hdn1,h⟩:=zbT h
  refine zmY (α:=Int×zax) (β:=(List zap)×(List Int)×(List Int)×(List Int)×Int×Hd×Hd×Hd×Hd) (γ:=Unit) (δ:=Nat) (ps:=[17,18]) hrd Ro.nil rfl zxI (zfw hq2) (fun pre b=>∀ post,its1=pre++post→zcQ dn1 (zch l1) post b.1 b.2.1 b.2.2.1 b.2.2.2.1 b.2.2.2.2.1=some r) (fun pre b=>[cells bp1 [b.2.2.2.2.2.1.v,b.2.2.2.2.2.2.1.v,b.2.2.2.2.2.2.2.1.v,b.2.2.2.2.2.2.2.2.v,zI p1.heights] 85,zv1 b.2.2.2.2.2.1.v b.1,zv0 b.2.2.2.2.2.2.1.v b.2.1,zv0 b.2.2.2.2.2.2.2.1.v b.2.2.1,zv0 b.2.2.2.2.2.2.2.2.v b.2.2.2.1,cells b2 [zP bp1] 83,cells b3 (zr0 l1) 23,cells b4 [zI b.2.2.2.2.1] 3]) (fun c pre g=>False) (fun c pre g=>[]) (fun pre x b j=>[(3,zP b2),(5,zP b3),(6,zI 0),(7,zP b4),(16,.func (.func 32) #[] #[zP b5]),(8,zI x.1),(9,zP j)]) (fun pre x b j=>[cells bp1 [b.2.2.2.2.2.1.v,b.2.2.2.2.2.2.1.v,b.2.2.2.2.2.2.2.1.v,b.2.2.2.2.2.2.2.2.v,zI p1.heights] 85,zv1 b.2.2.2.2.2.1.v b.1,zv0 b.2.2.2.2.2.2.1.v b.2.1,zv0 b.2.2.2.2.2.2.2.1.v b.2.2.1,zv0 b.2.2.2.2.2.2.2.2.v b.2.2.2.1,cells b2 [zP bp1] 83,cells b3 (zr0 l1) 23,cells b4 [zI b.2.2.2.2.1] 3,cells j (zr1 x.2) 50]) (p1.rows,p1.blanks,p1.firsts,p1.lasts,0,p1_h0,p1_h1,p1_h2,p1_h3) (fun post e=>by rw [List.nil_append] at e; subst e; exact h) (zab [0,1,2,3,4,6,7,8] kr rfl) (.own (As:=[cells b5 [zP bx1] 28]) (zab [9] kr rfl) (fun _ _ h=>sepL.one1.1 h) (.ro 0 rfl (.ro 1 rfl (.ro 2 rfl .nil)))) (fun _=>rfl) dc ?_ ?_ ?_ ?_
  ·
   rintro lp rc pre x2 post ⟨l14,l15,l16,l17,cost4,hd13,hd14,hd15,hd16⟩ w1 K1 hxs1 hext hro hinv
   have hrd:=hrd.ext hext
   refine zyG (zyR 1 rfl (zyN (zas ?_)))
   refine zbh zoU rfl dc (fun b6 => ?_)
   refine zaZ (k:=8) (vs:=(zr1 x2.2)) (l':=(zr1 x2.2)) zjH rfl rfl rfl rfl rfl (show _≤_ by simp) rfl rfl ?_
   refine zaP ?_
   exact fun a w ha hw=>⟨b6,(zbf rfl) _ _ _ ha,hw.weaken (zab [0,1,2,3,4,5,6,7,8] kr rfl)⟩
  ·
   rintro lp rc pre x2 post1 ⟨l14,l15,l16,l17,cost4,hd13,hd14,hd15,hd16⟩ jb1 w1 K1 hxs1 hext hro hinv
   have hrd:=hrd.ext hext
   have h:=hinv (x2::post1) hxs1
   obtain ⟨ag1,hag1⟩:∃ ag,ag=zcQ dn1 (zch l1) post1:=⟨_,rfl⟩
   have h:zch l1 x2 ag1 l14 l15 l16 l17 cost4=some r:=by rw [hag1]; exact h
   unfold zch at h
   refine zaG ?_
   obtain ⟨j2,hj2,h⟩:=zbT h
   refine za8 (β:=(List Int)×(List Int)×Hd×Hd) 0 rfl (fun b=>j2 b.1 b.2.1=some r) (fun b=>[]) (fun b=>[(3,zP b2),(5,zP b3),(6,zI 0),(7,zP b4),(8,zI x2.1),(9,zP jb1),(16,.func (.func 32) #[] #[zP b5])]) (fun b=>[cells bp1 [hd13.v,hd14.v,b.2.2.1.v,b.2.2.2.v,zI p1.heights] 85,zv1 hd13.v l14,zv0 hd14.v l15,zv0 b.2.2.1.v b.1,zv0 b.2.2.2.v b.2.1,cells b2 [zP bp1] 83,cells b3 (zr0 l1) 23,cells b4 [zI cost4] 3,cells jb1 (zr1 x2.2) 50]) (fun cut => ?_) ?_
   ·
    refine cut (zaE ?_)
    refine zbB 7 [(0,19,.pointer (some ⟨jb1,2,none⟩)),(1,20,zI x2.2.Stanza),(2,21,zP bp1),(3,22,zP bp1),(4,23,.pointer (some ⟨bp1,2,none⟩)),(5,24,hd15.v),(6,25,zI (l16.length:Int))] mixed kr kr dc (by rfl) kr kr (zad ?_ (zad ?_ (zad ?_ (zad ?_ (zad ?_ (zad ?_ (zad ?_ DrawPre.nil))))))) ?_
    · exact fun D n d c u i=>zaa ziL rfl dc (zbd (by rfl) rfl) (show _=2 from rfl) (zar 0 u i)
    · exact fun D n d c u i=>zaj (k:=8) zbW rfl dc (zam 0 u d) rfl rfl (zar 1 u i)
    · exact fun D n d c u i=>zaj (k:=5) znc rfl dc (zbd (by rfl) rfl) rfl rfl (zar 2 u i)
    · exact fun D n d c u i=>zai rfl dc (zam 2 u d) (zar 3 u i)
    · exact fun D n d c u i=>zaa zmJ rfl dc (zam 3 u d) (show _=2 from rfl) (zar 4 u i)
    · exact fun D n d c u i=>zaj (k:=0) zhS rfl dc (zam 4 u d) rfl rfl (zar 5 u i)
    · exact fun D n d c u i=>zdu (k:=3) rfl dc (zam 5 u d) rfl underlying24 (zar 6 u i)
    refine zaS rfl zaL (zyN ?_)
    refine zyB rfl h (fun h => ?_) (fun h => ?_)
    ·
     obtain ⟨hg1,h⟩:=zbQ h
     obtain ⟨hg2,h⟩:=zbQ h
     refine zgG 2 ?_
     refine let vals1:(Nat×Hd×Nat×Hd)→List (Nat×Nat×Value):=fun b=>[(0,27,zP bp1),(1,28,zP bp1),(2,29,zP bp1),(3,30,zP bp1),(4,31,.pointer (some ⟨bp1,2,none⟩)),(5,32,hd15.v),(6,33,zI x2.1),(7,34,.slice (some ⟨b.1,0,none⟩) 1 1),(8,35,b.2.1.v),(9,36,zP bp1),(10,37,zP bp1),(11,38,.pointer (some ⟨bp1,3,none⟩)),(12,39,hd16.v),(13,40,zI x2.1),(14,41,.slice (some ⟨b.2.2.1,0,none⟩) 1 1),(15,42,b.2.2.2.v),(16,43,zP bp1),(17,44,.pointer (some ⟨bp1,2,none⟩))]; let LL1:(Nat→Prop)→(Nat×Hd×Nat×Hd)→List Asn:=fun D b=>[eD D (cells bp1 [hd13.v,hd14.v,hd15.v,hd16.v,zI p1.heights] 85) [(18,cells bp1 [hd13.v,hd14.v,b.2.1.v,hd16.v,zI p1.heights] 85)],zv1 hd13.v l14,zv0 hd14.v l15,eD D (zv0 hd15.v l16) [(8,zv0 b.2.1.v (l16++[x2.1]))],eD D (zv0 hd16.v l17) [(15,zv0 b.2.2.2.v (l17++[x2.1]))],cells b2 [zP bp1] 83,cells b3 (zr0 l1) 23,cells b4 [zI cost4] 3,cells jb1 (zr1 x2.2) 50,eD D emp [(7,cells b.1 [zI x2.1] 3)],eD D emp [(14,cells b.2.2.1 [zI x2.1] 3)]]; ?_
     have zhq:zyQ [7,8,14,15,18] LL1:=fun i h D b=>zac (zkr rfl h) (zac rfl (zac rfl (zac (zkr rfl h) (zac (zkr rfl h) (zac rfl (zac rfl (zac rfl (zac rfl (zac (zkr rfl h) (zac (zkr rfl h) rfl))))))))))
     refine zeb (β:=Nat×Hd×Nat×Hd) 19 ((0:Nat),Hd.nil,(0:Nat),Hd.nil) vals1 LL1 mixed kr kr dc (fun _=>rfl) (zac zci (zez (zac zci (zac zci (zfu (zac zci (zac zci rfl))))))) (zhC zhq rfl (fun _=>rfl) (fun _=>rfl) ?_ (zhC zhq rfl (fun _=>rfl) (fun _=>rfl) ?_ (zhC zhq rfl (fun _=>rfl) (fun _=>rfl) ?_ (zyq zhq rfl (fun _=>rfl) (fun _=>rfl) ?_ (zyq zhq rfl (fun _=>rfl) (fun _=>rfl) ?_ (zhC zhq rfl (fun _=>rfl) (fun _=>rfl) ?_ (zm5 zhq (fun _=>rfl) (fun _=>rfl) 1 6 (fun _=>rfl) rfl (zaF ?_ (zaF ?_ (zhC zhq rfl (fun _=>rfl) (fun _=>rfl) ?_ (zyq zhq rfl (fun _=>rfl) (fun _=>rfl) ?_ (zyq zhq rfl (fun _=>rfl) (fun _=>rfl) ?_ (zhC zhq rfl (fun _=>rfl) (fun _=>rfl) ?_ (zm5 zhq (fun _=>rfl) (fun _=>rfl) 1 13 (fun _=>rfl) rfl (zaF ?_ (zaF ?_ (zyq zhq rfl (fun _=>rfl) (fun _=>rfl) ?_ (zyq zhq rfl (fun _=>rfl) (fun _=>rfl) ?_ (zaF ?_ DrawG.nil))))))))))))))))))) ?_
     · exact fun D ⟨b7,hd19,b8,hd20⟩ n d c u i=>⟨_,(zac (zah (fun hD=>n (c 18 _ rfl hD 0 dc)) zat) (zn6 rfl)),zaj (k:=5) znc rfl dc (zbd (by rfl) rfl) rfl rfl (zar 0 u i)⟩
     · exact fun D ⟨b7,hd19,b8,hd20⟩ n d c u i=>⟨_,(zzV rfl),zaj (k:=5) znc rfl dc (zbd (by rfl) rfl) rfl rfl (zar 1 u i)⟩
     · exact fun D ⟨b7,hd19,b8,hd20⟩ n d c u i=>⟨_,(zac (zah (fun hD=>n (c 18 _ rfl hD 2 dc)) zat) (zez (zac (zah (fun hD=>n (c 3 _ rfl (c 4 _ rfl (c 5 _ rfl (c 8 _ rfl hD 5 dc) 4 dc) 3 dc) 2 dc)) zat) (zac (zah (fun hD=>n (c 3 _ rfl (c 4 _ rfl (c 5 _ rfl (c 8 _ rfl (c 15 _ rfl hD 8 dc) 5 dc) 4 dc) 3 dc) 2 dc)) zat) (zwK rfl))))),zaj (k:=5) znc rfl dc (zbd (by rfl) rfl) rfl rfl (zar 2 u i)⟩
     · exact fun D ⟨b7,hd19,b8,hd20⟩ n d c u i=>zai rfl dc (zam 2 u d) (zar 3 u i)
     · exact fun D ⟨b7,hd19,b8,hd20⟩ n d c u i=>zaa zmJ rfl dc (zam 3 u d) (show _=2 from rfl) (zar 4 u i)
     · exact fun D ⟨b7,hd19,b8,hd20⟩ n d c u i=>⟨_,(zac (zah (fun hD=>n (c 18 _ rfl hD 5 dc)) zat) (zez (zac (zah (fun hD=>n (c 8 _ rfl hD 5 dc)) zat) (zac (zah (fun hD=>n (c 8 _ rfl (c 15 _ rfl hD 8 dc) 5 dc)) zat) (zwK rfl))))),zaj (k:=0) zhS rfl dc (zam 4 u d) rfl rfl (zar 5 u i)⟩
     ·
      intro D b hn hd hcl
      obtain ⟨zb0,hd19,b8,hd20⟩:=b
      refine zaY (zac (zah (fun hD=>hn (hcl 18 _ rfl hD 7 dc)) zat) (zez (zac (zah (fun hD=>hn (hcl 8 _ rfl hD 7 dc)) zat) (zac (zah (fun hD=>hn (hcl 8 _ rfl (hcl 15 _ rfl hD 8 dc) 7 dc)) zat) (zfu (zac (zah hn zat) rfl)))))) ?_
      refine zbc (cs:=[zI x2.1]) (te:=3) (ps:=[(0,.tmp 33)]) rfl dc (evP.cons (zaI (m:=6) rfl rfl (hd 6 dc)) evP.nil) (fun _=>by kernel_rfl) (fun b7 => ?_)
      refine zdg 9 rfl rfl ?_
      exact za4 (b:=(zb0,hd19,b8,hd20)) (b7,hd19,b8,hd20) 7 (by rfl) (by rfl) rfl (zls (zaz (fun hD=>absurd hD hn) (zwL rfl))) (zac ((zav (by rfl)).trans (zah (fun hD=>hn (hcl 18 _ rfl hD 7 dc)) zat)) (zez (zac ((zav (by rfl)).trans (zah (fun hD=>hn (hcl 8 _ rfl hD 7 dc)) zat)) (zac ((zav (by rfl)).trans (zah (fun hD=>hn (hcl 8 _ rfl (hcl 15 _ rfl hD 8 dc) 7 dc)) zat)) (zfu (zac (zaW (Or.inr rfl) rfl) (zac (zav (by rfl)) rfl)))))))
     ·
      intro D b hn hd hcl
      obtain ⟨b7,zb1,b8,hd20⟩:=b
      refine zaY (zac (zah (fun hD=>hn (hcl 18 _ rfl hD 8 dc)) zat) (zez (zac (zah hn zat) (zac (zah (fun hD=>hn (hcl 15 _ rfl hD 8 dc)) zat) (zfu (zac (zaW (hd 7 dc) rfl) rfl)))))) ?_
      refine zbx (k:=3) (k2:=9) (ys:=[x2.1]) underlying24 zxM zcJ zgw rfl dc (zaI (m:=5) rfl rfl (hd 5 dc)) (zaI (m:=7) rfl rfl (hd 7 dc)) rfl rfl rfl rfl hg1 (fun v1 => ?_)
      refine zbJ (k:=3) rfl (fun hd19 he1 => ?_)
      subst he1
      exact za4 (b:=(b7,zb1,b8,hd20)) (b7,hd19,b8,hd20) 8 (by rfl) (by rfl) rfl (zks (zaz (fun hD=>absurd hD hn) (zBj rfl))) (zac ((zav (by rfl)).trans (zah (fun hD=>hn (hcl 18 _ rfl hD 8 dc)) zat)) (zez (zac (zaW (Or.inr rfl) rfl) (zac ((zav (by rfl)).trans (zah (fun hD=>hn (hcl 15 _ rfl hD 8 dc)) zat)) (zfu (zac ((zav (by rfl)).trans (zaW (hd 7 dc) rfl)) (zac (zav (by rfl)) rfl)))))))
     · exact fun D ⟨b7,hd19,b8,hd20⟩ n d c u i=>⟨_,(zac (zah (fun hD=>n (c 10 _ rfl (c 11 _ rfl (c 12 _ rfl (c 18 _ rfl hD 12 dc) 11 dc) 10 dc) 9 dc)) zat) (zcK (zac (zah (fun hD=>n (c 10 _ rfl (c 11 _ rfl (c 12 _ rfl (c 15 _ rfl hD 12 dc) 11 dc) 10 dc) 9 dc)) zat) (zwK rfl)))),zaj (k:=5) znc rfl dc (zbd (by rfl) rfl) rfl rfl (zar 9 u i)⟩
     · exact fun D ⟨b7,hd19,b8,hd20⟩ n d c u i=>zai rfl dc (zam 9 u d) (zar 10 u i)
     · exact fun D ⟨b7,hd19,b8,hd20⟩ n d c u i=>zaa zoz rfl dc (zam 10 u d) (show _=3 from rfl) (zar 11 u i)
     · exact fun D ⟨b7,hd19,b8,hd20⟩ n d c u i=>⟨_,(zac (zah (fun hD=>n (c 18 _ rfl hD 12 dc)) zat) (zcK (zac (zah (fun hD=>n (c 15 _ rfl hD 12 dc)) zat) (zwK rfl)))),zaj (k:=0) zhS rfl dc (zam 11 u d) rfl rfl (zar 12 u i)⟩
     ·
      intro D b hn hd hcl
      obtain ⟨b7,hd19,zb2,hd20⟩:=b
      refine zaY (zac (zah (fun hD=>hn (hcl 15 _ rfl (hcl 18 _ rfl hD 15 dc) 14 dc)) zat) (zcK (zac (zah (fun hD=>hn (hcl 15 _ rfl hD 14 dc)) zat) (zp7 (zac (zah hn zat) rfl))))) ?_
      refine zbc (cs:=[zI x2.1]) (te:=3) (ps:=[(0,.tmp 40)]) rfl dc (evP.cons (zaI (m:=13) rfl rfl (hd 13 dc)) evP.nil) (fun _=>by kernel_rfl) (fun b8 => ?_)
      refine zdg 10 rfl rfl ?_
      exact za4 (b:=(b7,hd19,zb2,hd20)) (b7,hd19,b8,hd20) 14 (by rfl) (by rfl) rfl (zx7 (zd5 (zaz (fun hD=>absurd hD hn) (zuT rfl)))) (zac ((zav (by rfl)).trans (zah (fun hD=>hn (hcl 15 _ rfl (hcl 18 _ rfl hD 15 dc) 14 dc)) zat)) (zez (zac (zav (by rfl)) (zac ((zav (by rfl)).trans (zah (fun hD=>hn (hcl 15 _ rfl hD 14 dc)) zat)) (zfu (zac (zav (by rfl)) (zac (zaW (Or.inr rfl) rfl) rfl)))))))
     ·
      intro D b hn hd hcl
      obtain ⟨b7,hd19,b8,zb3⟩:=b
      refine zaY (zac (zah (fun hD=>hn (hcl 18 _ rfl hD 15 dc)) zat) (zez (zac (zaW (hd 8 dc) rfl) (zac (zah hn zat) (zfu (zac (zaW (hcl 8 _ rfl (hd 8 dc) 7 dc) rfl) (zac (zaW (hd 14 dc) rfl) rfl))))))) ?_
      refine zbx (k:=4) (k2:=10) (ys:=[x2.1]) underlying24 zxM zcJ zgw rfl dc (zaI (m:=12) rfl rfl (hd 12 dc)) (zaI (m:=14) rfl rfl (hd 14 dc)) rfl rfl rfl rfl hg2 (fun v2 => ?_)
      refine zbJ (k:=4) rfl (fun hd20 he2 => ?_)
      subst he2
      exact za4 (b:=(b7,hd19,b8,zb3)) (b7,hd19,b8,hd20) 15 (by rfl) (by rfl) rfl (zuT (zd5 (zaz (fun hD=>absurd hD hn) (zx7 rfl)))) (zac ((zav (by rfl)).trans (zah (fun hD=>hn (hcl 18 _ rfl hD 15 dc)) zat)) (zez (zac ((zav (by rfl)).trans (zaW (hd 8 dc) rfl)) (zac (zaW (Or.inr rfl) rfl) (zfu (zac ((zav (by rfl)).trans (zaW (hcl 8 _ rfl (hd 8 dc) 7 dc) rfl)) (zac ((zav (by rfl)).trans (zaW (hd 14 dc) rfl)) rfl)))))))
     · exact fun D ⟨b7,hd19,b8,hd20⟩ n d c u i=>zai rfl dc (zam 0 u d) (zar 16 u i)
     · exact fun D ⟨b7,hd19,b8,hd20⟩ n d c u i=>zaa zmJ rfl dc (zam 16 u d) (show _=2 from rfl) (zar 17 u i)
     ·
      intro D b hn hd hcl
      obtain ⟨b7,hd19,b8,hd20⟩:=b
      refine zaY (zac (zah hn zat) (zez (zac (zaW (hd 8 dc) rfl) (zac (zaW (hd 15 dc) rfl) (zfu (zac (zaW (hd 7 dc) rfl) (zac (zaW (hcl 15 _ rfl (hd 15 dc) 14 dc) rfl) rfl))))))) ?_
      refine zaT (k:=0) (l':=[hd13.v,hd14.v,hd19.v,hd16.v,zI p1.heights]) zs6 rfl (zaI (m:=17) rfl rfl (hd 17 dc)) (zaI (m:=8) rfl rfl (hd 8 dc)) rfl rfl (fun _ _=>rfl) rfl ?_
      exact zi5 (b:=(b7,hd19,b8,hd20)) (b7,hd19,b8,hd20) (by rfl) (zvM (zd5 rfl)) (zac (zaW (Or.inr rfl) rfl) (zez (zac ((zav (by rfl)).trans (zaW (hd 8 dc) rfl)) (zac ((zav (by rfl)).trans (zaW (hd 15 dc) rfl)) (zfu (zac ((zav (by rfl)).trans (zaW (hd 7 dc) rfl)) (zac ((zav (by rfl)).trans (zaW (hcl 15 _ rfl (hd 15 dc) 14 dc) rfl)) rfl)))))))
     intro D b hall
     obtain ⟨b7,hd19,b8,hd20⟩:=b
     refine zaY (zac (zaW (hall 18 dc) rfl) (zez (zac (zaW (hall 8 dc) rfl) (zac (zaW (hall 15 dc) rfl) (zfu (zac (zaW (hall 7 dc) rfl) (zac (zaW (hall 14 dc) rfl) rfl))))))) (zai rfl dc rfl (zaa zoz rfl dc rfl (show _=3 from rfl) ?_))
     refine zaT (k:=0) (l':=[hd13.v,hd14.v,hd19.v,hd20.v,zI p1.heights]) zs6 rfl rfl rfl rfl rfl (fun _ _=>rfl) rfl ?_
     refine zaP ?_
     exact zak (l16++[x2.1],l17++[x2.1],hd19,hd20) h rfl (zbf rfl) (zab [0,1,2,3,4,5,6,7,8] kr rfl)
    refine zal ?_
    exact zak (l16,l17,hd15,hd16) h rfl (zbf rfl) (zab [0,1,2,3,4,5,6,7,8] kr rfl)
   rintro ⟨l18,l19,hd17,hd18⟩ h
   rw [hj2] at h
   refine zaE ?_
   obtain ⟨q1,hq3,h⟩:=zbL h
   refine zbB 7 [(0,47,zP bp1),(1,48,zP bp1),(2,49,.pointer (some ⟨bp1,3,none⟩)),(3,50,hd18.v),(4,51,.pointer (some ⟨jb1,2,none⟩)),(5,52,zI x2.2.Stanza),(6,53,zI x2.1)] mixed kr kr dc (by rfl) kr kr (zad ?_ (zad ?_ (zad ?_ (zad ?_ (zad ?_ (zad ?_ (zyP 1 6 rfl DrawPre.nil))))))) ?_
   · exact fun D n d c u i=>zaj (k:=5) znc rfl dc (zbd (by rfl) rfl) rfl rfl (zar 0 u i)
   · exact fun D n d c u i=>zai rfl dc (zam 0 u d) (zar 1 u i)
   · exact fun D n d c u i=>zaa zoz rfl dc (zam 1 u d) (show _=3 from rfl) (zar 2 u i)
   · exact fun D n d c u i=>zaj (k:=0) zhS rfl dc (zam 2 u d) rfl rfl (zar 3 u i)
   · exact fun D n d c u i=>zaa ziL rfl dc (zbd (by rfl) rfl) (show _=2 from rfl) (zar 4 u i)
   · exact fun D n d c u i=>zaj (k:=8) zbW rfl dc (zam 4 u d) rfl rfl (zar 5 u i)
   refine za3 (k:=4) hq3 underlying24 zeI rfl dc rfl rfl rfl rfl ?_
   refine zex (i:=(x2.2.Stanza:Int).toNat) (j:=0) (k:=4) (q:=q1) (q':=x2.1) zeI zcJ rfl rfl rfl rfl (zbo hq3) rfl dc rfl (fun _ _=>rfl) ?_
   refine zyH (zaa ziN rfl dc rfl (show _=0 from rfl) (zaj (k:=8) zhk rfl dc rfl rfl rfl (zaa ziM rfl dc rfl (show _=1 from rfl) (zaj (k:=8) zbW rfl dc rfl rfl rfl (zaV (k:=6) (cs:=(zr0 l1)) zjs rfl dc rfl rfl rfl rfl ?_)))))
   obtain ⟨r2,hq4,h⟩:=zbL h
   refine zcE (vs:=[.string x2.2.Text,zI x2.2.Indent,.agg (zr0 l1).toArray]) rfl dc rfl rfl rfl zzn (zlh (l1:=l1) hq4) Splits.nil ?_
   rintro v3
   refine zbJ (k:=9) rfl (fun hd21 he3 => ?_)
   subst he3
   refine zyR 1 rfl (zaN rfl dc rfl rfl (zaN rfl dc rfl rfl (zyR 2 rfl (zyH (zaj (k:=7) zbW rfl dc rfl rfl rfl (zyR 1 rfl ?_))))))
   obtain ⟨hg3,h⟩:=zbQ h
   refine zaS rfl (zbb (r:=cost4+r2.2) (IntWalk.i64_in _ hg3)) ?_
   refine zaT (k:=7) (l':=[zI (cost4+r2.2)]) zeI rfl rfl rfl rfl rfl (fun _ _=>rfl) rfl ?_
   refine zyH (zyR 1 rfl (zdu (k:=9) rfl dc rfl rfl underlying38 (zyR 1 rfl (zyN (zaG ?_)))))
   refine zbP (β:=Nat×(List zap)×(List Int)×Int×Hd×Hd) (fun b=>za1 (fun _ _ _=>none) (zbY l1 x2 ag1 cost4 l18 l19 r2) b.1 b.2.1 b.2.2.1 b.2.2.2.1=some r) (fun b=>[]) (fun b=>[(3,zP b2),(5,zP b3),(6,zI 0),(7,zP b4),(8,zI x2.1),(9,zP jb1),(16,.func (.func 32) #[] #[zP b5]),(67,hd21.v),(68,zI (r2.1.length:Int)),(69,zI b.2.2.2.1)]) (fun b=>[cells bp1 [b.2.2.2.2.1.v,b.2.2.2.2.2.v,hd17.v,hd18.v,zI p1.heights] 85,zv1 b.2.2.2.2.1.v b.2.1,zv0 b.2.2.2.2.2.v b.2.2.1,zv0 hd17.v l18,zv0 hd18.v (l19.set (x2.2.Stanza:Int).toNat x2.1),cells b2 [zP bp1] 83,cells b3 (zr0 l1) 23,cells b4 [zI (cost4+r2.2)] 3,cells jb1 (zr1 x2.2) 50,zv2 hd21.v r2.1]) (fun b=>b.1) (zcD,l14,l15,0,hd13,hd14) h rfl (zbf rfl) (zab [0,1,2,3,4,5,6,7,8,9] kr rfl) ?_
   rintro ⟨n1,l24,l25,x5,hd26,hd27⟩ h
   cases n1 with
   | zero=>exact zdO h
   | succ n1 =>
    obtain ⟨ag2,hag2⟩:∃ ag,ag=za1 (fun _ _ _=>none) (zbY l1 x2 ag1 cost4 l18 l19 r2) n1:=⟨_,rfl⟩
    have h:zbY l1 x2 ag1 cost4 l18 l19 r2 ag2 l24 l25 x5=some r:=by rw [hag2]; exact h
    unfold zbY at h
    refine zyG (zaS rfl zbF (zyN (zaE ?_)))
    refine zyB rfl h (fun h => ?_) (fun h => ?_)
    ·
     refine zal (zay (zaE (zaG ?_)))
     obtain ⟨j3,hj3,h⟩:=zbT h
     refine za8 (β:=Int×Int×zBA×Nat) 2 rfl (fun b=>j3 b.1 b.2.1 b.2.2.1=some r) (fun b=>[]) (fun b=>[(3,zP b2),(5,zP b3),(6,zI 0),(7,zP b4),(8,zI x2.1),(9,zP jb1),(14,zP b.2.2.2),(16,.func (.func 32) #[] #[zP b5]),(67,hd21.v),(68,zI (r2.1.length:Int)),(69,zI x5)]) (fun b=>[cells bp1 [hd26.v,hd27.v,hd17.v,hd18.v,zI p1.heights] 85,zv1 hd26.v l24,zv0 hd27.v l25,zv0 hd17.v l18,zv0 hd18.v (l19.set (x2.2.Stanza:Int).toNat x2.1),cells b2 [zP bp1] 83,cells b3 (zr0 l1) 23,cells b4 [zI (cost4+r2.2)] 3,cells jb1 (zr1 x2.2) 50,cells b.2.2.2 [zI x2.1,zI x2.2.Stanza,zI x5,zI b.1,zI b.2.1,.string b.2.2.1] 43,zv2 hd21.v r2.1]) (fun cut => ?_) ?_
     ·
      refine zyG (zyR 1 rfl ?_)
      obtain ⟨q2,hq5,h⟩:=zbL h
      refine za3 (k:=9) hq5 underlying38 zof rfl dc rfl rfl rfl rfl (zbD (i:=(x5:Int).toNat) (j:=0) (k:=9) (q:=q2) zhk zey rfl dc rfl rfl (zbo hq5) rfl dc rfl (zyR 2 rfl (zyH (zyR 1 rfl (zaa ziL rfl dc rfl (show _=2 from rfl) (zaj (k:=8) zbW rfl dc rfl rfl rfl (zyR 1 rfl (zaa zoE rfl dc rfl (show _=2 from rfl) (zaj (k:=6) zbW rfl dc rfl rfl rfl ?_)))))))))
      refine zyR 1 rfl ?_
      refine zbA (v:=.agg #[zI x2.1,zI x2.2.Stanza,zI x5,zI l1.Turn,zI 0,.string q2]) (ps:=[(0,.tmp 74),(1,.tmp 76),(2,.tmp 77),(3,.tmp 79),(5,.tmp 80)]) rfl dc rfl (fun _=>by kernel_rfl) ?_
      refine zbh zr8 rfl dc (fun b10 => ?_)
      refine zaZ (k:=10) (vs:=[zI x2.1,zI x2.2.Stanza,zI x5,zI l1.Turn,zI 0,.string q2]) (l':=[zI x2.1,zI x2.2.Stanza,zI x5,zI l1.Turn,zI 0,.string q2]) zjq rfl rfl rfl rfl rfl (show _≤_ by simp) rfl rfl ?_
      refine zyN (cut (zyG (zyR 1 rfl (zaS rfl zaL (zyN ?_)))))
      refine zyB rfl h (fun h => ?_) (fun h => ?_)
      ·
       refine zyG (zaa ziM rfl dc rfl (show _=1 from rfl) (zaj (k:=8) zbW rfl dc rfl rfl rfl (zaa zoC rfl dc rfl (show _=3 from rfl) ?_)))
       refine zaT (k:=10) (l':=[zI x2.1,zI x2.2.Stanza,zI x5,zI x2.2.Indent,zI 0,.string q2]) zeI rfl rfl rfl rfl rfl (fun _ _=>rfl) rfl ?_
       refine zyH (zaa zoD rfl dc rfl (show _=3 from rfl) (zaj (k:=6) zbW rfl dc rfl rfl rfl (zaS rfl zc1 (zyR 1 rfl ?_))))
       refine zyS (s:=90) rfl h (fun h => ?_) (fun h => ?_)
       ·
        refine zyR 1 rfl ?_
        obtain ⟨hg4,h⟩:=zbQ h
        refine zaS rfl (zbb (r:=x2.1+1) (IntWalk.i64_in _ hg4)) (zaa zoD rfl dc rfl (show _=3 from rfl) (zaj (k:=6) zbW rfl dc rfl rfl rfl ?_))
        obtain ⟨hg5,h⟩:=zbQ h
        refine zaS rfl (zuw hg5 rfl) (zaS rfl zaL (zyR 1 rfl (zyN ?_)))
        refine zyB rfl h (fun h => ?_) (fun h => ?_)
        ·
         refine zas (zyR 1 rfl ?_)
         obtain ⟨hg6,h⟩:=zbQ h
         refine zaS rfl (zbb (r:=x2.1+1) (IntWalk.i64_in _ hg6)) (zaa zxt rfl dc rfl (show _=4 from rfl) ?_)
         refine zaT (k:=10) (l':=[zI x2.1,zI x2.2.Stanza,zI x5,zI x2.2.Indent,zI (x2.1+1),.string q2]) zeI rfl rfl rfl rfl rfl (fun _ _=>rfl) rfl ?_
         refine zaP ?_
         exact zak (x2.2.Indent,x2.1+1,q2,b10) h rfl (zbf rfl) (zab [0,1,2,3,4,5,6,7,8,10,9] kr rfl)
        refine zal ?_
        exact zak (x2.2.Indent,0,q2,b10) h rfl (zbf rfl) (zab [0,1,2,3,4,5,6,7,8,10,9] kr rfl)
       refine zyR 7 rfl (zyN (zaM rfl (zal ?_)))
       exact zak (x2.2.Indent,0,q2,b10) h rfl (zbf rfl) (zab [0,1,2,3,4,5,6,7,8,10,9] kr rfl)
      refine zal ?_
      exact zak (l1.Turn,0,q2,b10) h rfl (zbf rfl) (zab [0,1,2,3,4,5,6,7,8,10,9] kr rfl)
     rintro ⟨r3,r4,r5,b9⟩ h
     rw [hj3] at h
     obtain ⟨hg7,h⟩:=zbQ h
     obtain ⟨hg8,h⟩:=zbQ h
     refine zgG 2 ?_
     refine let vals2:(Nat×Hd×Nat×Hd)→List (Nat×Nat×Value):=fun b=>[(0,101,zP bp1),(1,102,zP bp1),(2,103,zP bp1),(3,104,zP bp1),(4,105,zP bp1),(5,106,hd26.v),(6,107,.agg #[zI x2.1,zI x2.2.Stanza,zI x5,zI r3,zI r4,.string r5]),(7,108,.slice (some ⟨b.1,0,none⟩) 1 1),(8,109,b.2.1.v),(9,110,zP bp1),(10,111,zP bp1),(11,112,.pointer (some ⟨bp1,1,none⟩)),(12,113,hd27.v),(13,114,.pointer (some ⟨jb1,2,none⟩)),(14,115,zI x2.2.Stanza),(15,116,.slice (some ⟨b.2.2.1,0,none⟩) 1 1),(16,117,b.2.2.2.v),(17,118,zP bp1),(18,119,zP bp1)]; let LL2:(Nat→Prop)→(Nat×Hd×Nat×Hd)→List Asn:=fun D b=>[eD D (cells bp1 [hd26.v,hd27.v,hd17.v,hd18.v,zI p1.heights] 85) [(19,cells bp1 [b.2.1.v,hd27.v,hd17.v,hd18.v,zI p1.heights] 85)],eD D (zv1 hd26.v l24) [(8,zv1 b.2.1.v (l24++[(⟨x2.1,x2.2.Stanza,x5,r3,r4,r5⟩:zap)]))],eD D (zv0 hd27.v l25) [(16,zv0 b.2.2.2.v (l25++[x2.2.Stanza]))],zv0 hd17.v l18,zv0 hd18.v (l19.set (x2.2.Stanza:Int).toNat x2.1),cells b2 [zP bp1] 83,cells b3 (zr0 l1) 23,cells b4 [zI (cost4+r2.2)] 3,cells jb1 (zr1 x2.2) 50,cells b9 [zI x2.1,zI x2.2.Stanza,zI x5,zI r3,zI r4,.string r5] 43,zv2 hd21.v r2.1,eD D emp [(7,cells b.1 [zI x2.1,zI x2.2.Stanza,zI x5,zI r3,zI r4,.string r5] 43)],eD D emp [(15,cells b.2.2.1 [zI x2.2.Stanza] 3)]]; ?_
     refine zeb (β:=Nat×Hd×Nat×Hd) 20 ((0:Nat),Hd.nil,(0:Nat),Hd.nil) vals2 LL2 mixed kr kr dc (fun _=>rfl) (zac zci (zac zci (zac zci (zjE (zac zci (zac zci rfl)))))) (zaF ?_ (zaF ?_ (zaF ?_ (zaF ?_ (zaF ?_ (zaF ?_ (zaF ?_ (zaF ?_ (zaF ?_ (zaF ?_ (zaF ?_ (zaF ?_ (zaF ?_ (zaF ?_ (zaF ?_ (zaF ?_ (zaF ?_ (zaF ?_ (zaF ?_ (zaF ?_ DrawG.nil)))))))))))))))))))) ?_
     ·
      intro D b hn hd hcl
      obtain ⟨b11,hd28,b12,hd29⟩:=b
      refine zaY (zac (zah (fun hD=>hn (hcl 19 _ rfl hD 0 dc)) zat) (zyh rfl)) ?_
      refine zaj (k:=5) znc rfl dc (zbd (by rfl) rfl) rfl rfl ?_
      exact za4 (b:=(b11,hd28,b12,hd29)) (b11,hd28,b12,hd29) 0 (by rfl) (by rfl) rfl (zls (zd5 rfl)) (zac ((zav (by rfl)).trans (zah (fun hD=>hn (hcl 19 _ rfl hD 0 dc)) zat)) (zac (zav (by rfl)) (zac (zav (by rfl)) (zjE (zac (zav (by rfl)) (zac (zav (by rfl)) rfl))))))
     ·
      intro D b hn hd hcl
      obtain ⟨b11,hd28,b12,hd29⟩:=b
      refine zaY (zac rfl (zyh rfl)) (zaj (k:=5) znc rfl dc (zbd (by rfl) rfl) rfl rfl ?_)
      exact za4 (b:=(b11,hd28,b12,hd29)) (b11,hd28,b12,hd29) 1 (by rfl) (by rfl) rfl (zls (zd5 rfl)) (zac (zav (by rfl)) (zac (zav (by rfl)) (zac (zav (by rfl)) (zjE (zac (zav (by rfl)) (zac (zav (by rfl)) rfl))))))
     ·
      intro D b hn hd hcl
      obtain ⟨b11,hd28,b12,hd29⟩:=b
      refine zaY (zac (zah (fun hD=>hn (hcl 19 _ rfl hD 2 dc)) zat) (zac (zah (fun hD=>hn (hcl 3 _ rfl (hcl 4 _ rfl (hcl 5 _ rfl (hcl 8 _ rfl hD 5 dc) 4 dc) 3 dc) 2 dc)) zat) (zac (zah (fun hD=>hn (hcl 3 _ rfl (hcl 4 _ rfl (hcl 5 _ rfl (hcl 8 _ rfl (hcl 16 _ rfl hD 8 dc) 5 dc) 4 dc) 3 dc) 2 dc)) zat) (zn6 rfl)))) ?_
      refine zaj (k:=5) znc rfl dc (zbd (by rfl) rfl) rfl rfl ?_
      exact za4 (b:=(b11,hd28,b12,hd29)) (b11,hd28,b12,hd29) 2 (by rfl) (by rfl) rfl (zls (zd5 rfl)) (zac ((zav (by rfl)).trans (zah (fun hD=>hn (hcl 19 _ rfl hD 2 dc)) zat)) (zac ((zav (by rfl)).trans (zah (fun hD=>hn (hcl 3 _ rfl (hcl 4 _ rfl (hcl 5 _ rfl (hcl 8 _ rfl hD 5 dc) 4 dc) 3 dc) 2 dc)) zat)) (zac ((zav (by rfl)).trans (zah (fun hD=>hn (hcl 3 _ rfl (hcl 4 _ rfl (hcl 5 _ rfl (hcl 8 _ rfl (hcl 16 _ rfl hD 8 dc) 5 dc) 4 dc) 3 dc) 2 dc)) zat)) (zjE (zac (zav (by rfl)) (zac (zav (by rfl)) rfl))))))
     ·
      intro D b hn hd hcl
      obtain ⟨b11,hd28,b12,hd29⟩:=b
      refine zaY (zac (zah (fun hD=>hn (hcl 19 _ rfl hD 3 dc)) zat) (zac (zah (fun hD=>hn (hcl 4 _ rfl (hcl 5 _ rfl (hcl 8 _ rfl hD 5 dc) 4 dc) 3 dc)) zat) (zac (zah (fun hD=>hn (hcl 4 _ rfl (hcl 5 _ rfl (hcl 8 _ rfl (hcl 16 _ rfl hD 8 dc) 5 dc) 4 dc) 3 dc)) zat) (zn6 rfl)))) ?_
      refine zai rfl dc (zaI (m:=2) rfl rfl (hd 2 dc)) ?_
      exact za4 (b:=(b11,hd28,b12,hd29)) (b11,hd28,b12,hd29) 3 (by rfl) (by rfl) rfl (zls (zd5 rfl)) (zac ((zav (by rfl)).trans (zah (fun hD=>hn (hcl 19 _ rfl hD 3 dc)) zat)) (zac ((zav (by rfl)).trans (zah (fun hD=>hn (hcl 4 _ rfl (hcl 5 _ rfl (hcl 8 _ rfl hD 5 dc) 4 dc) 3 dc)) zat)) (zac ((zav (by rfl)).trans (zah (fun hD=>hn (hcl 4 _ rfl (hcl 5 _ rfl (hcl 8 _ rfl (hcl 16 _ rfl hD 8 dc) 5 dc) 4 dc) 3 dc)) zat)) (zjE (zac (zav (by rfl)) (zac (zav (by rfl)) rfl))))))
     ·
      intro D b hn hd hcl
      obtain ⟨b11,hd28,b12,hd29⟩:=b
      refine zaY (zac (zah (fun hD=>hn (hcl 19 _ rfl hD 4 dc)) zat) (zac (zah (fun hD=>hn (hcl 5 _ rfl (hcl 8 _ rfl hD 5 dc) 4 dc)) zat) (zac (zah (fun hD=>hn (hcl 5 _ rfl (hcl 8 _ rfl (hcl 16 _ rfl hD 8 dc) 5 dc) 4 dc)) zat) (zn6 rfl)))) ?_
      refine zaa ziJ rfl dc (zaI (m:=3) rfl rfl (hd 3 dc)) (show _=0 from rfl) ?_
      exact za4 (b:=(b11,hd28,b12,hd29)) (b11,hd28,b12,hd29) 4 (by rfl) (by rfl) rfl (zls (zd5 rfl)) (zac ((zav (by rfl)).trans (zah (fun hD=>hn (hcl 19 _ rfl hD 4 dc)) zat)) (zac ((zav (by rfl)).trans (zah (fun hD=>hn (hcl 5 _ rfl (hcl 8 _ rfl hD 5 dc) 4 dc)) zat)) (zac ((zav (by rfl)).trans (zah (fun hD=>hn (hcl 5 _ rfl (hcl 8 _ rfl (hcl 16 _ rfl hD 8 dc) 5 dc) 4 dc)) zat)) (zjE (zac (zav (by rfl)) (zac (zav (by rfl)) rfl))))))
     ·
      intro D b hn hd hcl
      obtain ⟨b11,hd28,b12,hd29⟩:=b
      refine zaY (zac (zah (fun hD=>hn (hcl 19 _ rfl hD 5 dc)) zat) (zac (zah (fun hD=>hn (hcl 8 _ rfl hD 5 dc)) zat) (zac (zah (fun hD=>hn (hcl 8 _ rfl (hcl 16 _ rfl hD 8 dc) 5 dc)) zat) (zn6 rfl)))) ?_
      refine zaj (k:=0) zo1 rfl dc (zaI (m:=4) rfl rfl (hd 4 dc)) rfl rfl ?_
      exact za4 (b:=(b11,hd28,b12,hd29)) (b11,hd28,b12,hd29) 5 (by rfl) (by rfl) rfl (zls (zd5 rfl)) (zac ((zav (by rfl)).trans (zah (fun hD=>hn (hcl 19 _ rfl hD 5 dc)) zat)) (zac ((zav (by rfl)).trans (zah (fun hD=>hn (hcl 8 _ rfl hD 5 dc)) zat)) (zac ((zav (by rfl)).trans (zah (fun hD=>hn (hcl 8 _ rfl (hcl 16 _ rfl hD 8 dc) 5 dc)) zat)) (zjE (zac (zav (by rfl)) (zac (zav (by rfl)) rfl))))))
     ·
      intro D b hn hd hcl
      obtain ⟨b11,hd28,b12,hd29⟩:=b
      refine zaY (zac (zah (fun hD=>hn (hcl 19 _ rfl hD 6 dc)) zat) (zac (zah (fun hD=>hn (hcl 7 _ rfl (hcl 8 _ rfl hD 7 dc) 6 dc)) zat) (zac (zah (fun hD=>hn (hcl 7 _ rfl (hcl 8 _ rfl (hcl 16 _ rfl hD 8 dc) 7 dc) 6 dc)) zat) (zjE (zac (zah (fun hD=>hn (hcl 7 _ rfl hD 6 dc)) zat) rfl))))) ?_
      refine zaV (k:=9) (cs:=[zI x2.1,zI x2.2.Stanza,zI x5,zI r3,zI r4,.string r5]) zoo rfl dc (zbd (by rfl) rfl) rfl rfl rfl ?_
      exact za4 (b:=(b11,hd28,b12,hd29)) (b11,hd28,b12,hd29) 6 (by rfl) (by rfl) rfl (zls (zd5 rfl)) (zac ((zav (by rfl)).trans (zah (fun hD=>hn (hcl 19 _ rfl hD 6 dc)) zat)) (zac ((zav (by rfl)).trans (zah (fun hD=>hn (hcl 7 _ rfl (hcl 8 _ rfl hD 7 dc) 6 dc)) zat)) (zac ((zav (by rfl)).trans (zah (fun hD=>hn (hcl 7 _ rfl (hcl 8 _ rfl (hcl 16 _ rfl hD 8 dc) 7 dc) 6 dc)) zat)) (zjE (zac ((zav (by rfl)).trans (zah (fun hD=>hn (hcl 7 _ rfl hD 6 dc)) zat)) (zac (zav (by rfl)) rfl))))))
     ·
      intro D b hn hd hcl
      obtain ⟨zb0,hd28,b12,hd29⟩:=b
      refine zaY (zac (zah (fun hD=>hn (hcl 19 _ rfl hD 7 dc)) zat) (zac (zah (fun hD=>hn (hcl 8 _ rfl hD 7 dc)) zat) (zac (zah (fun hD=>hn (hcl 8 _ rfl (hcl 16 _ rfl hD 8 dc) 7 dc)) zat) (zjE (zac (zah hn zat) rfl))))) ?_
      refine zbc (cs:=[zI x2.1,zI x2.2.Stanza,zI x5,zI r3,zI r4,.string r5]) (te:=43) (ps:=[(0,.tmp 107)]) rfl dc (evP.cons (zaI (m:=6) rfl rfl (hd 6 dc)) evP.nil) (fun _=>by kernel_rfl) (fun b11 => ?_)
      refine zdg 11 rfl rfl ?_
      exact za4 (b:=(zb0,hd28,b12,hd29)) (b11,hd28,b12,hd29) 7 (by rfl) (by rfl) rfl (zls (zaz (fun hD=>absurd hD hn) (zkw rfl))) (zac ((zav (by rfl)).trans (zah (fun hD=>hn (hcl 19 _ rfl hD 7 dc)) zat)) (zac ((zav (by rfl)).trans (zah (fun hD=>hn (hcl 8 _ rfl hD 7 dc)) zat)) (zac ((zav (by rfl)).trans (zah (fun hD=>hn (hcl 8 _ rfl (hcl 16 _ rfl hD 8 dc) 7 dc)) zat)) (zjE (zac (zaW (Or.inr rfl) rfl) (zac (zav (by rfl)) rfl))))))
     ·
      intro D b hn hd hcl
      obtain ⟨b11,zb1,b12,hd29⟩:=b
      refine zaY (zac (zah (fun hD=>hn (hcl 19 _ rfl hD 8 dc)) zat) (zac (zah hn zat) (zac (zah (fun hD=>hn (hcl 16 _ rfl hD 8 dc)) zat) (zjE (zac (zaW (hd 7 dc) rfl) rfl))))) ?_
      refine zbx (k:=1) (k2:=11) (ys:=[(⟨x2.1,x2.2.Stanza,x5,r3,r4,r5⟩:zap)]) underlying37 zuf zbN zeW rfl dc (zaI (m:=5) rfl rfl (hd 5 dc)) (zaI (m:=7) rfl rfl (hd 7 dc)) rfl rfl rfl rfl hg7 (fun v4 => ?_)
      refine zbJ (k:=1) rfl (fun hd28 he4 => ?_)
      subst he4
      exact za4 (b:=(b11,zb1,b12,hd29)) (b11,hd28,b12,hd29) 8 (by rfl) (by rfl) rfl (zks (zaz (fun hD=>absurd hD hn) (zwL rfl))) (zac ((zav (by rfl)).trans (zah (fun hD=>hn (hcl 19 _ rfl hD 8 dc)) zat)) (zac (zaW (Or.inr rfl) rfl) (zac ((zav (by rfl)).trans (zah (fun hD=>hn (hcl 16 _ rfl hD 8 dc)) zat)) (zjE (zac ((zav (by rfl)).trans (zaW (hd 7 dc) rfl)) (zac (zav (by rfl)) rfl))))))
     ·
      intro D b hn hd hcl
      obtain ⟨b11,hd28,b12,hd29⟩:=b
      refine zaY (zac (zah (fun hD=>hn (hcl 10 _ rfl (hcl 11 _ rfl (hcl 12 _ rfl (hcl 19 _ rfl hD 12 dc) 11 dc) 10 dc) 9 dc)) zat) (zac rfl (zac (zah (fun hD=>hn (hcl 10 _ rfl (hcl 11 _ rfl (hcl 12 _ rfl (hcl 16 _ rfl hD 12 dc) 11 dc) 10 dc) 9 dc)) zat) (zn6 rfl)))) ?_
      refine zaj (k:=5) znc rfl dc (zbd (by rfl) rfl) rfl rfl ?_
      exact za4 (b:=(b11,hd28,b12,hd29)) (b11,hd28,b12,hd29) 9 (by rfl) (by rfl) rfl (zls (zd5 rfl)) (zac ((zav (by rfl)).trans (zah (fun hD=>hn (hcl 10 _ rfl (hcl 11 _ rfl (hcl 12 _ rfl (hcl 19 _ rfl hD 12 dc) 11 dc) 10 dc) 9 dc)) zat)) (zac (zav (by rfl)) (zac ((zav (by rfl)).trans (zah (fun hD=>hn (hcl 10 _ rfl (hcl 11 _ rfl (hcl 12 _ rfl (hcl 16 _ rfl hD 12 dc) 11 dc) 10 dc) 9 dc)) zat)) (zjE (zac (zav (by rfl)) (zac (zav (by rfl)) rfl))))))
     ·
      intro D b hn hd hcl
      obtain ⟨b11,hd28,b12,hd29⟩:=b
      refine zaY (zac (zah (fun hD=>hn (hcl 11 _ rfl (hcl 12 _ rfl (hcl 19 _ rfl hD 12 dc) 11 dc) 10 dc)) zat) (zac rfl (zac (zah (fun hD=>hn (hcl 11 _ rfl (hcl 12 _ rfl (hcl 16 _ rfl hD 12 dc) 11 dc) 10 dc)) zat) (zn6 rfl)))) ?_
      refine zai rfl dc (zaI (m:=9) rfl rfl (hd 9 dc)) ?_
      exact za4 (b:=(b11,hd28,b12,hd29)) (b11,hd28,b12,hd29) 10 (by rfl) (by rfl) rfl (zls (zd5 rfl)) (zac ((zav (by rfl)).trans (zah (fun hD=>hn (hcl 11 _ rfl (hcl 12 _ rfl (hcl 19 _ rfl hD 12 dc) 11 dc) 10 dc)) zat)) (zac (zav (by rfl)) (zac ((zav (by rfl)).trans (zah (fun hD=>hn (hcl 11 _ rfl (hcl 12 _ rfl (hcl 16 _ rfl hD 12 dc) 11 dc) 10 dc)) zat)) (zjE (zac (zav (by rfl)) (zac (zav (by rfl)) rfl))))))
     ·
      intro D b hn hd hcl
      obtain ⟨b11,hd28,b12,hd29⟩:=b
      refine zaY (zac (zah (fun hD=>hn (hcl 12 _ rfl (hcl 19 _ rfl hD 12 dc) 11 dc)) zat) (zac rfl (zac (zah (fun hD=>hn (hcl 12 _ rfl (hcl 16 _ rfl hD 12 dc) 11 dc)) zat) (zn6 rfl)))) ?_
      refine zaa zoA rfl dc (zaI (m:=10) rfl rfl (hd 10 dc)) (show _=1 from rfl) ?_
      exact za4 (b:=(b11,hd28,b12,hd29)) (b11,hd28,b12,hd29) 11 (by rfl) (by rfl) rfl (zls (zd5 rfl)) (zac ((zav (by rfl)).trans (zah (fun hD=>hn (hcl 12 _ rfl (hcl 19 _ rfl hD 12 dc) 11 dc)) zat)) (zac (zav (by rfl)) (zac ((zav (by rfl)).trans (zah (fun hD=>hn (hcl 12 _ rfl (hcl 16 _ rfl hD 12 dc) 11 dc)) zat)) (zjE (zac (zav (by rfl)) (zac (zav (by rfl)) rfl))))))
     ·
      intro D b hn hd hcl
      obtain ⟨b11,hd28,b12,hd29⟩:=b
      refine zaY (zac (zah (fun hD=>hn (hcl 19 _ rfl hD 12 dc)) zat) (zac rfl (zac (zah (fun hD=>hn (hcl 16 _ rfl hD 12 dc)) zat) (zn6 rfl)))) ?_
      refine zaj (k:=0) zhS rfl dc (zaI (m:=11) rfl rfl (hd 11 dc)) rfl rfl ?_
      exact za4 (b:=(b11,hd28,b12,hd29)) (b11,hd28,b12,hd29) 12 (by rfl) (by rfl) rfl (zls (zd5 rfl)) (zac ((zav (by rfl)).trans (zah (fun hD=>hn (hcl 19 _ rfl hD 12 dc)) zat)) (zac (zav (by rfl)) (zac ((zav (by rfl)).trans (zah (fun hD=>hn (hcl 16 _ rfl hD 12 dc)) zat)) (zjE (zac (zav (by rfl)) (zac (zav (by rfl)) rfl))))))
     ·
      intro D b hn hd hcl
      obtain ⟨b11,hd28,b12,hd29⟩:=b
      refine zaY (zac (zah (fun hD=>hn (hcl 14 _ rfl (hcl 15 _ rfl (hcl 16 _ rfl (hcl 19 _ rfl hD 16 dc) 15 dc) 14 dc) 13 dc)) zat) (zac rfl (zac (zah (fun hD=>hn (hcl 14 _ rfl (hcl 15 _ rfl (hcl 16 _ rfl hD 15 dc) 14 dc) 13 dc)) zat) (zzP (zac (zah (fun hD=>hn (hcl 14 _ rfl (hcl 15 _ rfl hD 14 dc) 13 dc)) zat) rfl))))) ?_
      refine zaa ziL rfl dc (zbd (by rfl) rfl) (show _=2 from rfl) ?_
      exact za4 (b:=(b11,hd28,b12,hd29)) (b11,hd28,b12,hd29) 13 (by rfl) (by rfl) rfl (zls (zd5 rfl)) (zac ((zav (by rfl)).trans (zah (fun hD=>hn (hcl 14 _ rfl (hcl 15 _ rfl (hcl 16 _ rfl (hcl 19 _ rfl hD 16 dc) 15 dc) 14 dc) 13 dc)) zat)) (zac (zav (by rfl)) (zac ((zav (by rfl)).trans (zah (fun hD=>hn (hcl 14 _ rfl (hcl 15 _ rfl (hcl 16 _ rfl hD 15 dc) 14 dc) 13 dc)) zat)) (zjE (zac (zav (by rfl)) (zac ((zav (by rfl)).trans (zah (fun hD=>hn (hcl 14 _ rfl (hcl 15 _ rfl hD 14 dc) 13 dc)) zat)) rfl))))))
     ·
      intro D b hn hd hcl
      obtain ⟨b11,hd28,b12,hd29⟩:=b
      refine zaY (zac (zah (fun hD=>hn (hcl 15 _ rfl (hcl 16 _ rfl (hcl 19 _ rfl hD 16 dc) 15 dc) 14 dc)) zat) (zac rfl (zac (zah (fun hD=>hn (hcl 15 _ rfl (hcl 16 _ rfl hD 15 dc) 14 dc)) zat) (zzP (zac (zah (fun hD=>hn (hcl 15 _ rfl hD 14 dc)) zat) rfl))))) ?_
      refine zaj (k:=8) zbW rfl dc (zaI (m:=13) rfl rfl (hd 13 dc)) rfl rfl ?_
      exact za4 (b:=(b11,hd28,b12,hd29)) (b11,hd28,b12,hd29) 14 (by rfl) (by rfl) rfl (zls (zd5 rfl)) (zac ((zav (by rfl)).trans (zah (fun hD=>hn (hcl 15 _ rfl (hcl 16 _ rfl (hcl 19 _ rfl hD 16 dc) 15 dc) 14 dc)) zat)) (zac (zav (by rfl)) (zac ((zav (by rfl)).trans (zah (fun hD=>hn (hcl 15 _ rfl (hcl 16 _ rfl hD 15 dc) 14 dc)) zat)) (zjE (zac (zav (by rfl)) (zac ((zav (by rfl)).trans (zah (fun hD=>hn (hcl 15 _ rfl hD 14 dc)) zat)) rfl))))))
     ·
      intro D b hn hd hcl
      obtain ⟨b11,hd28,zb2,hd29⟩:=b
      refine zaY (zac (zah (fun hD=>hn (hcl 16 _ rfl (hcl 19 _ rfl hD 16 dc) 15 dc)) zat) (zac rfl (zac (zah (fun hD=>hn (hcl 16 _ rfl hD 15 dc)) zat) (zzP (zac (zah hn zat) rfl))))) ?_
      refine zbc (cs:=[zI x2.2.Stanza]) (te:=3) (ps:=[(0,.tmp 115)]) rfl dc (evP.cons (zaI (m:=14) rfl rfl (hd 14 dc)) evP.nil) (fun _=>by kernel_rfl) (fun b12 => ?_)
      refine zdg 12 rfl rfl ?_
      exact za4 (b:=(b11,hd28,zb2,hd29)) (b11,hd28,b12,hd29) 15 (by rfl) (by rfl) rfl (zuT (zd5 (zaz (fun hD=>absurd hD hn) (zuT rfl)))) (zac ((zav (by rfl)).trans (zah (fun hD=>hn (hcl 16 _ rfl (hcl 19 _ rfl hD 16 dc) 15 dc)) zat)) (zac (zav (by rfl)) (zac ((zav (by rfl)).trans (zah (fun hD=>hn (hcl 16 _ rfl hD 15 dc)) zat)) (zjE (zac (zav (by rfl)) (zac (zaW (Or.inr rfl) rfl) rfl))))))
     ·
      intro D b hn hd hcl
      obtain ⟨b11,hd28,b12,zb3⟩:=b
      refine zaY (zac (zah (fun hD=>hn (hcl 19 _ rfl hD 16 dc)) zat) (zac (zaW (hd 8 dc) rfl) (zac (zah hn zat) (zjE (zac (zaW (hcl 8 _ rfl (hd 8 dc) 7 dc) rfl) (zac (zaW (hd 15 dc) rfl) rfl)))))) ?_
      refine zbx (k:=2) (k2:=12) (ys:=[x2.2.Stanza]) underlying24 zxM zcJ zgw rfl dc (zaI (m:=12) rfl rfl (hd 12 dc)) (zaI (m:=15) rfl rfl (hd 15 dc)) rfl rfl rfl rfl hg8 (fun v5 => ?_)
      refine zbJ (k:=2) rfl (fun hd29 he5 => ?_)
      subst he5
      exact za4 (b:=(b11,hd28,b12,zb3)) (b11,hd28,b12,hd29) 16 (by rfl) (by rfl) rfl (zzQ (zd5 (zaz (fun hD=>absurd hD hn) (zx7 rfl)))) (zac ((zav (by rfl)).trans (zah (fun hD=>hn (hcl 19 _ rfl hD 16 dc)) zat)) (zac ((zav (by rfl)).trans (zaW (hd 8 dc) rfl)) (zac (zaW (Or.inr rfl) rfl) (zjE (zac ((zav (by rfl)).trans (zaW (hcl 8 _ rfl (hd 8 dc) 7 dc) rfl)) (zac ((zav (by rfl)).trans (zaW (hd 15 dc) rfl)) rfl))))))
     ·
      intro D b hn hd hcl
      obtain ⟨b11,hd28,b12,hd29⟩:=b
      refine zaY (zac (zah (fun hD=>hn (hcl 18 _ rfl (hcl 19 _ rfl hD 18 dc) 17 dc)) zat) (zac (zaW (hd 8 dc) rfl) (zac (zaW (hd 16 dc) rfl) (zjE (zac (zaW (hd 7 dc) rfl) (zac (zaW (hcl 16 _ rfl (hd 16 dc) 15 dc) rfl) rfl)))))) ?_
      refine zai rfl dc (zaI (m:=0) rfl rfl (hd 0 dc)) ?_
      exact za4 (b:=(b11,hd28,b12,hd29)) (b11,hd28,b12,hd29) 17 (by rfl) (by rfl) rfl (zls (zd5 rfl)) (zac ((zav (by rfl)).trans (zah (fun hD=>hn (hcl 18 _ rfl (hcl 19 _ rfl hD 18 dc) 17 dc)) zat)) (zac ((zav (by rfl)).trans (zaW (hd 8 dc) rfl)) (zac ((zav (by rfl)).trans (zaW (hd 16 dc) rfl)) (zjE (zac ((zav (by rfl)).trans (zaW (hd 7 dc) rfl)) (zac ((zav (by rfl)).trans (zaW (hcl 16 _ rfl (hd 16 dc) 15 dc) rfl)) rfl))))))
     ·
      intro D b hn hd hcl
      obtain ⟨b11,hd28,b12,hd29⟩:=b
      refine zaY (zac (zah (fun hD=>hn (hcl 19 _ rfl hD 18 dc)) zat) (zac (zaW (hd 8 dc) rfl) (zac (zaW (hd 16 dc) rfl) (zjE (zac (zaW (hd 7 dc) rfl) (zac (zaW (hcl 16 _ rfl (hd 16 dc) 15 dc) rfl) rfl)))))) ?_
      refine zaa ziJ rfl dc (zaI (m:=17) rfl rfl (hd 17 dc)) (show _=0 from rfl) ?_
      exact za4 (b:=(b11,hd28,b12,hd29)) (b11,hd28,b12,hd29) 18 (by rfl) (by rfl) rfl (zls (zd5 rfl)) (zac ((zav (by rfl)).trans (zah (fun hD=>hn (hcl 19 _ rfl hD 18 dc)) zat)) (zac ((zav (by rfl)).trans (zaW (hd 8 dc) rfl)) (zac ((zav (by rfl)).trans (zaW (hd 16 dc) rfl)) (zjE (zac ((zav (by rfl)).trans (zaW (hd 7 dc) rfl)) (zac ((zav (by rfl)).trans (zaW (hcl 16 _ rfl (hd 16 dc) 15 dc) rfl)) rfl))))))
     ·
      intro D b hn hd hcl
      obtain ⟨b11,hd28,b12,hd29⟩:=b
      refine zaY (zac (zah hn zat) (zac (zaW (hd 8 dc) rfl) (zac (zaW (hd 16 dc) rfl) (zjE (zac (zaW (hd 7 dc) rfl) (zac (zaW (hcl 16 _ rfl (hd 16 dc) 15 dc) rfl) rfl)))))) ?_
      refine zaT (k:=0) (l':=[hd28.v,hd27.v,hd17.v,hd18.v,zI p1.heights]) zyI rfl (zaI (m:=18) rfl rfl (hd 18 dc)) (zaI (m:=8) rfl rfl (hd 8 dc)) rfl rfl (fun _ _=>rfl) rfl ?_
      exact zi5 (b:=(b11,hd28,b12,hd29)) (b11,hd28,b12,hd29) (by rfl) (zls (zd5 rfl)) (zac (zaW (Or.inr rfl) rfl) (zac ((zav (by rfl)).trans (zaW (hd 8 dc) rfl)) (zac ((zav (by rfl)).trans (zaW (hd 16 dc) rfl)) (zjE (zac ((zav (by rfl)).trans (zaW (hd 7 dc) rfl)) (zac ((zav (by rfl)).trans (zaW (hcl 16 _ rfl (hd 16 dc) 15 dc) rfl)) rfl))))))
     intro D b hall
     obtain ⟨b11,hd28,b12,hd29⟩:=b
     refine zaY (zac (zaW (hall 19 dc) rfl) (zac (zaW (hall 8 dc) rfl) (zac (zaW (hall 16 dc) rfl) (zjE (zac (zaW (hall 7 dc) rfl) (zac (zaW (hall 15 dc) rfl) rfl)))))) (zai rfl dc rfl (zaa zoA rfl dc rfl (show _=1 from rfl) ?_))
     refine zaT (k:=0) (l':=[hd28.v,hd29.v,hd17.v,hd18.v,zI p1.heights]) zs6 rfl rfl rfl rfl rfl (fun _ _=>rfl) rfl ?_
     refine zaP (zae (zay (zas ?_)))
     obtain ⟨hg9,h⟩:=zbQ h
     refine zaS rfl (zbb (r:=x5+1) (IntWalk.i64_in _ hg9)) (zyR 1 rfl (zaP ?_))
     subst hag2
     exact zbr (n1,l24++[(⟨x2.1,x2.2.Stanza,x5,r3,r4,r5⟩:zap)],l25++[x2.2.Stanza],x5+1,hd28,hd29) h (Nat.lt_succ_self _) rfl (zbf rfl) (zab [0,1,2,3,4,5,6,7,8,10] kr rfl)
    refine zbu (zaq (zaq (zaJ (zae ?_))))
    exact zcN (l24,l25,l18,l19.set (x2.2.Stanza:Int).toNat x2.1,cost4+r2.2,hd26,hd27,hd17,hd18) (fun post2 e2=>by have e9:=zds hxs1 e2; subst e9; subst hag1; exact h) (zab [0,1,2,3,4,5,6,7] kr rfl)
  ·
   rintro dm1 ⟨l14,l15,l16,l17,cost4,hd13,hd14,hd15,hd16⟩ hinv
   have h:dn1 l14 l15 l16 l17 cost4=some r:=hinv [] (List.append_nil _).symm
   rw [hdn1] at h
   refine zew (k:=18) (j:=5) rfl rfl dc ?_
   refine zae ?_
   exact zak (l14,l15,l16,l17,cost4,hd13,hd14,hd15,hd16,b4,dm1::([]:List Nat)) h rfl (zbf rfl) (zab [10,11,12,13,14,17,5] kr rfl)
  rintro dm1 c pre x2 post g hxs hX
  exact (show False from hX).elim
 rintro ⟨l2,l3,l4,l5,cost1,hd1,hd2,hd3,hd4,b1,ds1⟩ h
 rw [hj1] at h
 refine zyG (zaj (k:=5) zbW rfl dc rfl rfl rfl (zyR 1 rfl (zyN (zau ?_))))
 cases h
 exact zdh (rs:=[.tmp 6]) ds1 (hd1,hd2,hd3,hd4) (.inl rfl) (zbq (k:=6) rfl) results29 (.cons (.tmp rfl) .nil) rfl (zab [0,1,2,3,4] kr rfl)
def znx (l:zaO) (v:zax):List zBA:=zgg v.Text 0 (zlC v.Text (zm4 v.Indent l) (zm3 l))
def zxP (l:zaO) (v:zax):Int:=(TT v.Text (zm4 v.Indent l) (zm3 l) 0).cost
def zBn (l:zaO) (k:Int):Int:=if 0<l.Every then (if Int.tmod (k+1) l.Every=0 then k+1 else 0) else 0
def zm2 (l:zaO) (k:Int) (v:zax) (p:Int) (t:zBA):zap:=⟨k,v.Stanza,p,if p=0 then v.Indent else l.Turn,if p=0 then zBn l k else 0,t⟩
def zhl (l:zaO) (k:Int) (v:zax):Int→List zBA→List zap
 | _,[]=>[]
 | p,t::ts=>zm2 l k v p t::zhl l k v (p+1) ts
def zdq (l:zaO):Int→List zax→List zap
 | _,[]=>[]
 | k,v::vs=>zhl l k v 0 (znx l v)++zdq l (k+1) vs
def zkZ (l:zaO):List zax→Int
 | []=>0
 | v::vs=>zxP l v+zkZ l vs
theorem zmh (l:zaO) (k:Int) (v:zax):∀ (ts:List zBA) (p:Int),(zhl l k v p ts).length=ts.length
 | [],_=>rfl
 | t::ts,p=>by show (zhl l k v (p+1) ts).length+1=_; rw [zmh l k v ts]; rfl
structure OkV (v:zax):Prop where
 sz:v.Text.size≤1024
 ne:0<v.Text.size
 i0:0≤v.Indent∧v.Indent≤1024
section
variable {l:zaO} (hm:zku l=true)
include hm
theorem zqc {v:zax} (h:OkV v):(znx l v).length≤1024:=by
 obtain ⟨h1,h2,h3⟩:=zm7 hm h.i0
 have hs:v.Text.size≤100000:=by have:=h.sz; omega
 have hr:=ziP hs h2 h3 (zaD v.Text).length 0 (zqF hs h2 h3) (Nat.zero_le _)
 have hl:0+(zlC v.Text (zm4 v.Indent l) (zm3 l)).length≤max (zaD v.Text).length 0:=zlP hr
 have hc:=zi4 v.Text
 have ht:∀ (ts:List Nat) (f:Nat),(zgg v.Text f ts).length=ts.length:=by
  intro ts
  induction ts with
  | nil=>intro f; rfl
  | cons t ts ih=>intro f; show (zgg v.Text t ts).length+1=_; rw [ih]; rfl
 unfold znx
 rw [ht]
 have:=h.sz
 omega
theorem zuk {v:zax} (h:OkV v):0≤zxP l v∧zxP l v≤2000000000000*1024:=by
 obtain ⟨h1,h2,h3⟩:=zm7 hm h.i0
 have hs:v.Text.size≤100000:=by have:=h.sz; omega
 have hok:=zp2 (R:=Rs v.Text (zm4 v.Indent l) (zm3 l)) (K:=Ks v.Text (zm4 v.Indent l) (zm3 l)) (n:=(zaD v.Text).length) (zhe hs h2 h3) (zaD v.Text).length 0
 obtain ⟨a,b,_⟩:=hok
 have hc:=zi4 v.Text
 have hz:=h.sz
 refine ⟨a,?_⟩
 show (Bf (Rs v.Text (zm4 v.Indent l) (zm3 l)) (Ks v.Text (zm4 v.Indent l) (zm3 l)) (zaD v.Text).length (zaD v.Text).length 0).cost≤_
 omega
theorem zpH:∀ (vs:List zax),(∀ v∈vs,OkV v)→0≤zkZ l vs∧zkZ l vs≤2000000000000*1024*vs.length
 | [],_=>⟨Int.le_refl _,Int.le_refl _⟩
 | v::vs,h=>by
  have h1:=zuk hm (h v (List.mem_cons_self ..))
  have h2:=zpH vs fun w hw=>h w (List.mem_cons_of_mem _ hw)
  have e:zkZ l (v::vs)=zxP l v+zkZ l vs:=rfl
  rw [e,List.length_cons]; push_cast; omega
theorem zmf:∀ (vs:List zax) (k:Int),(∀ v∈vs,OkV v)→(zdq l k vs).length≤1024*vs.length
 | [],_,_=>Nat.le_refl _
 | v::vs,k,h=>by
  have h1:=zqc hm (h v (List.mem_cons_self ..))
  have h2:=zmf vs (k+1) fun w hw=>h w (List.mem_cons_of_mem _ hw)
  show (zhl l k v 0 (znx l v)++zdq l (k+1) vs).length≤_
  rw [List.length_append,zmh,List.length_cons]; omega
end
def Stp:Int→List zax→Prop
 | _,[]=>True
 | c,v::vs=>(v.Stanza=c∨(0<c∧v.Stanza=c - 1))∧Stp (v.Stanza+1) vs
def flS:Int→List Int×List Int→List zax→List Int×List Int
 | _,a,[]=>a
 | k,a,v::vs=>flS (k+1) (if v.Stanza=(a.1.length:Int) then (a.1++[k],a.2++[k]) else (a.1,a.2.set v.Stanza.toNat k)) vs
theorem zvj (l:zaO) (k:Int) (hk:0≤k∧k≤1000000) (v:zax) (ag1:(List zap)→(List Int)→(List Int)→(List Int)→Int→Option (Int×za0)) (cost:Int) (F L:List Int) (ts:List zBA) (hts:ts.length≤1000000) (c:Int) :
  ∀ (d p m:Nat) (out:List zap) (bl:List Int),p+d=ts.length→d<m→out.length+d≤2147483648→bl.length=out.length→za1 (fun _ _ _=>none) (zbY l (k,v) ag1 cost F L (ts,c)) m out bl (p:Int) =
   ag1 (out++zhl l k v p (ts.drop p)) (bl++(zhl l k v p (ts.drop p)).map (·.Stanza)) F (L.set v.Stanza.toNat k) (cost+c):=by
 intro d
 induction d with
 | zero =>
  intro p m out bl hp hm ho hb
  obtain ⟨m,rfl⟩:∃ q,m=q+1:=⟨m - 1,by omega⟩
  rw [zen]
  generalize za1 (fun _ _ _=>none) (zbY l (k,v) ag1 cost F L (ts,c)) m=ag
  unfold zbY
  refine zaK (decide_eq_false (by show ¬ (p:Int)<(ts.length:Int); omega)) ?_
  rw [List.drop_of_length_le (by omega)]
  show ag1 out bl F (L.set v.Stanza.toNat k) (cost+c)=ag1 (out++[]) (bl++[]) F (L.set v.Stanza.toNat k) (cost+c)
  rw [List.append_nil,List.append_nil]
 | succ d ih =>
  intro p m out bl hp hm ho hb
  obtain ⟨m,rfl⟩:∃ q,m=q+1:=⟨m - 1,by omega⟩
  rw [zen]
  have ih':=fun out' bl' (h:out'.length=out.length+1) (h2:bl'.length=out'.length)=>ih (p+1) m out' bl' (by omega) (by omega) (by omega) h2
  generalize za1 (fun _ _ _=>none) (zbY l (k,v) ag1 cost F L (ts,c)) m=ag at ih' ⊢
  have ht:ts[p]?=some ts[p]:=List.getElem?_eq_getElem (by omega)
  rw [show ((p+1:Nat):Int)=(p:Int)+1 by omega] at ih'
  have go:∀ (i n:Int),i=(zm2 l k v p ts[p]).Indent→n=(zm2 l k v p ts[p]).Number→(grd (out.length+1≤2147483648)<|grd (bl.length+1≤2147483648)<|grd (I64 ((p:Int)+1))<|ag (out++[(⟨k,v.Stanza,(p:Int),i,n,ts[p]⟩:zap)]) (bl++[v.Stanza]) ((p:Int)+1)) =
    ag1 (out++zhl l k v p (ts.drop p)) (bl++(zhl l k v p (ts.drop p)).map (·.Stanza)) F (L.set v.Stanza.toNat k) (cost+c):=by
   intro i n hi hn
   refine zcm (by omega) (zcm (by omega) (zcm ⟨by omega,by omega⟩ ?_))
   subst hi; subst hn
   rw [ih' _ _ (by simp) (by simp; omega),List.drop_eq_getElem_cons (show p<ts.length by omega),List.append_assoc,List.append_assoc]; rfl
  unfold zbY
  refine zaR (decide_eq_true (by show (p:Int)<(ts.length:Int); omega)) (zcj (za7 (zeD ht) ?_))
  by_cases h0:(p:Int)=0
  ·refine zaR (zmR h0) ?_
   by_cases he:0<l.Every
   ·refine zaR (decide_eq_true he) (zcm ?_ (zcm (by omega) ?_))
    ·show I64 (k+1); exact ⟨by omega,by omega⟩
    by_cases ht2:Int.tmod (k+1) l.Every=0
    ·exact zaR (zmR ht2) (zcm (show I64 (k+1) from ⟨by omega,by omega⟩) (go _ _ (if_pos h0).symm ((if_pos h0).trans ((if_pos he).trans (if_pos ht2))).symm))
    ·exact zaK (zmS ht2) (go _ _ (if_pos h0).symm ((if_pos h0).trans ((if_pos he).trans (if_neg ht2))).symm)
   ·exact zaK (decide_eq_false he) (go _ _ (if_pos h0).symm ((if_pos h0).trans (if_neg he)).symm)
  ·exact zaK (zmS h0) (go _ _ (if_neg h0).symm (if_neg h0).symm)
theorem zpl (l:zaO) (hm:zku l=true) (dn:(List zap)→(List Int)→(List Int)→(List Int)→Int→Option (Int×za0)) :
  ∀ (vs:List zax) (k:Nat) (out:List zap) (bl F L:List Int) (cost:Int),(∀ v∈vs,OkV v)→k+vs.length≤512→out.length≤1024*k→bl.length=out.length→0≤cost∧cost≤2000000000000*1024*k→F.length≤k→L.length=F.length→Stp F.length vs →
  zcQ dn (zch l) (zkV k vs) out bl F L cost=dn (out++zdq l k vs) (bl++(zdq l k vs).map (·.Stanza)) (flS k (F,L) vs).1 (flS k (F,L) vs).2 (cost+zkZ l vs)
 | [],k,out,bl,F,L,cost,_,_,_,_,_,_,_,_=>by
  show dn out bl F L cost=dn (out++[]) (bl++[]) F L (cost+0)
  rw [List.append_nil,List.append_nil,Int.add_zero]
 | v::vs,k,out,bl,F,L,cost,hv,hk,ho,hb,hc,hF,hL,hst=>by
  obtain ⟨s1,s2⟩:=hst
  have hok:OkV v:=hv v (List.mem_cons_self ..)
  have h1:=zqc hm hok
  have h2:=zuk hm hok
  obtain ⟨w1,w2,w3⟩:=zm7 hm hok.i0
  have hsz:v.Text.size≤100000:=by have:=hok.sz; omega
  rw [List.length_cons] at hk
  have ih:=fun out bl F L cost h3 h4 h5 h6 h7 h8=>zpl l hm dn vs (k+1) out bl F L cost (fun w hw=>hv w (List.mem_cons_of_mem _ hw)) (by omega) h3 h4 h5 h6 h7 h8
  show zch l (((k:Nat):Int),v) (zcQ dn (zch l) (zkV (k+1) vs)) out bl F L cost=_
  generalize zcQ dn (zch l) (zkV (k+1) vs)=ag at ih ⊢
  have e1:((k+1:Nat):Int)=(k:Int)+1:=by omega
  rw [e1] at ih
  have rest:∀ (F' L':List Int),F'.length≤k+1→L'.length=F'.length→0≤v.Stanza→v.Stanza.toNat<L'.length→Stp F'.length vs→(F',L'.set v.Stanza.toNat (k:Int))=(if v.Stanza=(F.length:Int) then (F++[(k:Int)],L++[(k:Int)]) else (F,L.set v.Stanza.toNat (k:Int))) →
    (zan (zdf L' v.Stanza) fun (q1:Int)=>zan (zfR v.Text v.Indent l) fun (r2:((List zBA)×Int))=>grd (I64 (cost+r2.2))<|za1 (fun _ _ _=>none) (zbY l ((k:Int),v) ag cost F' L' r2) zcD out bl 0) =
    dn (out++zdq l k (v::vs)) (bl++(zdq l k (v::vs)).map (·.Stanza)) (flS k (F,L) (v::vs)).1 (flS k (F,L) (v::vs)).2 (cost+zkZ l (v::vs)):=by
   intro F' L' q1 q2 q3 q4 q5 q6
   refine za7 (zfy (n:=v.Stanza.toNat) (by omega) (List.getElem?_eq_getElem q4)) (za7 (zvT v.Text hsz v.Indent l w1 w2 w3) (zcm ?_ ?_))
   ·show I64 (cost+zxP l v)
    exact ⟨by omega,by omega⟩
   ·have hin:=zvj l k ⟨by omega,by omega⟩ v ag cost F' L' (znx l v) (by omega) (zxP l v) (znx l v).length 0 zcD out bl (by omega) (zdI (by omega)) (by omega) hb
    refine hin.trans ?_
    rw [List.drop_zero]
    refine (ih _ _ F' (L'.set v.Stanza.toNat (k:Int)) _ (by rw [List.length_append,zmh]; omega) (by rw [List.length_append,List.length_append,List.length_map,hb]) (by push_cast; omega) q1 (by rw [List.length_set]; exact q2) q5).trans ?_
    have e2:flS k (F,L) (v::vs)=flS ((k:Int)+1) (F',L'.set v.Stanza.toNat (k:Int)) vs:=by rw [q6]; rfl
    have e3:zdq l k (v::vs)=zhl l k v 0 (znx l v)++zdq l ((k:Int)+1) vs:=rfl
    have e4:zkZ l (v::vs)=zxP l v+zkZ l vs:=rfl
    rw [e2,e3,e4,List.append_assoc,List.append_assoc,List.map_append,Int.add_assoc]; rfl
  unfold zch
  refine zcj ?_
  rcases s1 with s1 | ⟨s1,s3⟩
  ·refine zaR (zmR s1) (zcm (by omega) (zcm (by omega) (rest _ _ (by simp; omega) (by simp; omega) (by omega) (by simp; omega) ?_ ?_)))
   ·rw [List.length_append,List.length_singleton]; rw [s1] at s2; push_cast; exact s2
   ·have e:v.Stanza.toNat=L.length:=by omega
    rw [if_pos s1,e,zma]
  ·have hne:v.Stanza≠(F.length:Int):=by omega
   refine zaK (zmS hne) (rest F L (by omega) hL (by omega) (by omega) ?_ ?_)
   ·rw [s3] at s2; rw [show (F.length:Int) - 1+1=F.length by omega] at s2; exact s2
   ·rw [if_neg hne]
theorem zxi (l:zaO) (hm:zku l=true) (p:zaC) (H:Int) (hv:∀ v∈p.told_lines,OkV v) (hl:p.told_lines.length≤512) (hst:Stp 0 p.told_lines) :
  zd7 (⟨([]:List zap),([]:List Int),([]:List Int),([]:List Int),H⟩:za0) p l=some (zkZ l p.told_lines,(⟨zdq l 0 p.told_lines,(zdq l 0 p.told_lines).map (·.Stanza),(flS 0 (([]:List Int),([]:List Int)) p.told_lines).1,(flS 0 (([]:List Int),([]:List Int)) p.told_lines).2,H⟩:za0)):=by
 unfold zd7
 refine zcj (za7 (show zef p=some () from rfl) (za7 (zqo p (by omega)) (zcj ?_)))
 refine (zpl l hm _ p.told_lines 0 [] [] [] [] 0 hv (by omega) (Nat.zero_le _) rfl ⟨Int.le_refl _,by omega⟩ (Nat.zero_le _) rfl hst).trans ?_
 rw [List.nil_append,List.nil_append,Int.zero_add]; rfl
theorem zf4 {α:Type} {l:List α} {x y:α} {i:Nat} (h:(l++[x])[i]?=some y):l[i]?=some y∨(i=l.length∧y=x):=by
 rcases Nat.lt_or_ge i l.length with hi | hi
 ·rw [List.getElem?_append_left hi] at h; exact .inl h
 ·rw [List.getElem?_append_right hi] at h
  rcases Nat.eq_zero_or_pos (i - l.length) with e | e
  ·rw [e] at h
   exact .inr ⟨by omega,(Option.some.inj h).symm⟩
  ·rw [List.getElem?_eq_none (by simp; omega)] at h; cases h
theorem zmA {α:Type} {l:List α} {x:α} {i:Nat} (h:l[i]?=some x):i<l.length:=(List.getElem?_eq_some_iff.1 h).1
structure FL (pre:List zax) (F L:List Int):Prop where
 len:L.length=F.length
 fst:∀ (s:Nat) (f:Int),F[s]?=some f→∃ j:Nat,f=j∧(∃ v:zax,pre[j]?=some v∧v.Stanza=(s:Int))∧∀ (i:Nat) (w:zax),pre[i]?=some w→w.Stanza=(s:Int)→j≤i
 lst:∀ (s:Nat) (f:Int),L[s]?=some f→∃ j:Nat,f=j∧(∃ v:zax,pre[j]?=some v∧v.Stanza=(s:Int))∧∀ (i:Nat) (w:zax),pre[i]?=some w→w.Stanza=(s:Int)→i≤j
 all:∀ (i:Nat) (w:zax),pre[i]?=some w→0≤w.Stanza∧w.Stanza<F.length
theorem FL.new {pre:List zax} {F L:List Int} (h:FL pre F L) {v:zax} (hv:v.Stanza=F.length):FL (pre++[v]) (F++[(pre.length:Int)]) (L++[(pre.length:Int)]):=by
 have hlast:(pre++[v])[pre.length]?=some v:=by simp
 have hle:∀ {i:Nat} {w:zax},pre[i]?=some w→(pre++[v])[i]?=some w:=fun h=>by rw [List.getElem?_append_left (zmA h)]; exact h
 refine ⟨by simp [h.len],fun s f hs => ?_,fun s f hs => ?_,fun i w hw => ?_⟩
 ·rcases zf4 hs with hs | ⟨rfl,rfl⟩
  ·obtain ⟨j,e,⟨u,hu,hus⟩,hm⟩:=h.fst s f hs
   refine ⟨j,e,⟨u,hle hu,hus⟩,fun i w hw hws => ?_⟩
   rcases zf4 hw with hw | ⟨rfl,rfl⟩
   ·exact hm i w hw hws
   ·have:=zmA hu; omega
  ·refine ⟨pre.length,rfl,⟨v,hlast,hv⟩,fun i w hw hws => ?_⟩
   rcases zf4 hw with hw | ⟨rfl,rfl⟩
   ·have:=(h.all i w hw).2; omega
   ·exact Nat.le_refl _
 ·rcases zf4 hs with hs | ⟨e0,rfl⟩
  ·obtain ⟨j,e,⟨u,hu,hus⟩,hm⟩:=h.lst s f hs
   refine ⟨j,e,⟨u,hle hu,hus⟩,fun i w hw hws => ?_⟩
   rcases zf4 hw with hw | ⟨rfl,rfl⟩
   ·exact hm i w hw hws
   ·have:=zmA hs; have:=h.len; omega
  ·refine ⟨pre.length,rfl,⟨v,hlast,by have:=h.len; omega⟩,fun i w hw hws => ?_⟩
   rcases zf4 hw with hw | ⟨rfl,rfl⟩
   ·have:=zmA hw; omega
   ·exact Nat.le_refl _
 ·rw [List.length_append,List.length_singleton]; push_cast
  rcases zf4 hw with hw | ⟨rfl,rfl⟩
  ·have:=h.all i w hw; omega
  ·omega
theorem FL.old {pre:List zax} {F L:List Int} (h:FL pre F L) {v:zax} (h0:0<F.length) (hv:v.Stanza=(F.length:Int) - 1):FL (pre++[v]) F (L.set v.Stanza.toNat (pre.length:Int)):=by
 have hlast:(pre++[v])[pre.length]?=some v:=by simp
 have hle:∀ {i:Nat} {w:zax},pre[i]?=some w→(pre++[v])[i]?=some w:=fun h=>by rw [List.getElem?_append_left (zmA h)]; exact h
 refine ⟨by simp [h.len],fun s f hs => ?_,fun s f hs => ?_,fun i w hw => ?_⟩
 ·obtain ⟨j,e,⟨u,hu,hus⟩,hm⟩:=h.fst s f hs
  refine ⟨j,e,⟨u,hle hu,hus⟩,fun i w hw hws => ?_⟩
  rcases zf4 hw with hw | ⟨rfl,rfl⟩
  ·exact hm i w hw hws
  ·have:=zmA hu; omega
 ·by_cases e:v.Stanza.toNat=s
  ·subst e
   rw [List.getElem?_set_self (by have:=h.len; omega)] at hs
   obtain rfl:=Option.some.inj hs
   refine ⟨pre.length,rfl,⟨v,hlast,by omega⟩,fun i w hw hws => ?_⟩
   rcases zf4 hw with hw | ⟨rfl,rfl⟩
   ·have:=zmA hw; omega
   ·exact Nat.le_refl _
  ·rw [List.getElem?_set_ne e] at hs
   obtain ⟨j,e,⟨u,hu,hus⟩,hm⟩:=h.lst s f hs
   refine ⟨j,e,⟨u,hle hu,hus⟩,fun i w hw hws => ?_⟩
   rcases zf4 hw with hw | ⟨rfl,rfl⟩
   ·exact hm i w hw hws
   ·omega
 ·rcases zf4 hw with hw | ⟨rfl,rfl⟩
  ·exact h.all i w hw
  ·omega
theorem FL.fold:∀ (vs pre:List zax) (F L:List Int),FL pre F L→Stp F.length vs→FL (pre++vs) (flS (pre.length:Int) (F,L) vs).1 (flS (pre.length:Int) (F,L) vs).2
 | [],pre,F,L,h,_=>by rw [List.append_nil]; exact h
 | v::vs,pre,F,L,h,hs=>by
  obtain ⟨s1,s2⟩:=hs
  have e:pre++v::vs=(pre++[v])++vs:=by simp
  have e1:(((pre++[v]).length:Nat):Int)=(pre.length:Int)+1:=by simp
  have e2:flS (pre.length:Int) (F,L) (v::vs)=flS ((pre.length:Int)+1) (if v.Stanza=(F.length:Int) then (F++[(pre.length:Int)],L++[(pre.length:Int)]) else (F,L.set v.Stanza.toNat (pre.length:Int))) vs:=rfl
  rw [e,e2,← e1]
  rcases s1 with s1 | ⟨s1,s3⟩
  ·rw [if_pos s1]
   exact FL.fold vs (pre++[v]) _ _ (h.new s1) (by rw [List.length_append,List.length_singleton]; rw [s1] at s2; push_cast; exact s2)
  ·rw [if_neg (by omega)]
   refine FL.fold vs (pre++[v]) _ _ (h.old (by omega) s3) ?_
   rw [s3,show (F.length:Int) - 1+1=F.length by omega] at s2
   exact s2
theorem FL.nil:FL [] [] []:=⟨rfl,fun s f h=>by simp at h,fun s f h=>by simp at h,fun i w h=>by simp at h⟩
theorem zo9 {l:zaO} {k:Int} {v:zax}:∀ {ts:List zBA} {p:Int} {r:zap},r∈zhl l k v p ts→r.Line=k∧r.Stanza=v.Stanza
 | [],_,r,h=>by cases h
 | t::ts,p,r,h=>by
  rcases List.mem_cons.1 h with rfl | h
  ·exact ⟨rfl,rfl⟩
  ·exact zo9 h
theorem zhm {l:zaO}:∀ {vs:List zax} {k:Int} {r:zap},r∈zdq l k vs→∃ (j:Nat) (v:zax),vs[j]?=some v∧r.Line=k+j∧r.Stanza=v.Stanza
 | [],_,r,h=>by cases h
 | v::vs,k,r,h=>by
  rcases List.mem_append.1 h with h | h
  ·obtain ⟨h1,h2⟩:=zo9 h
   exact ⟨0,v,rfl,by omega,h2⟩
  ·obtain ⟨j,w,h1,h2,h3⟩:=zhm h
   exact ⟨j+1,w,h1,by omega,h3⟩
theorem zsY {l:zaO} (hm:zku l=true) {v:zax} (h:OkV v):znx l v≠[]:=by
 obtain ⟨h1,h2,h3⟩:=zm7 hm h.i0
 have hc:=zkm (s:=v.Text) (by have:=h.sz; omega) h2 h3
 intro e
 have e':zgg v.Text 0 (zlC v.Text (zm4 v.Indent l) (zm3 l))=[]:=e
 rw [e'] at hc
 have:=h.ne
 rw [← hc] at this
 exact absurd this (by decide)
theorem zor {l:zaO} (hm:zku l=true):∀ {vs:List zax} {k:Int} {j:Nat} {v:zax},(∀ w∈vs,OkV w)→vs[j]?=some v→∃ r∈zdq l k vs,r.Line=k+j∧r.Stanza=v.Stanza
 | [],_,_,_,_,h=>by simp at h
 | w::vs,k,0,v,hv,h=>by
  obtain rfl:=Option.some.inj h
  have hne:=zsY hm (hv w (List.mem_cons_self ..))
  cases ht:znx l w with
  | nil=>exact absurd ht hne
  | cons t ts=>exact ⟨zm2 l k w 0 t,by show _∈zhl l k w 0 (znx l w)++_; rw [ht]; exact List.mem_append_left _ (List.mem_cons_self ..),by show k=_; omega,rfl⟩
 | w::vs,k,j+1,v,hv,h=>by
  obtain ⟨r,h1,h2,h3⟩:=zor hm (k:=k+1) (fun u hu=>hv u (List.mem_cons_of_mem _ hu)) h
  exact ⟨r,List.mem_append_right _ h1,by omega,h3⟩
def RCh:Int→List zap→Prop
 | _,[]=>True
 | s,r::rs=>(r.Stanza=s∨r.Stanza=s+1)∧RCh r.Stanza rs
theorem zrm {l:zaO} {k:Int} {v:zax} {rest:List zap} (hr:RCh v.Stanza rest):∀ (ts:List zBA) (p:Int),RCh v.Stanza (zhl l k v p ts++rest)
 | [],_=>hr
 | t::ts,p=>⟨.inl rfl,zrm hr ts (p+1)⟩
theorem ztr {l:zaO} (hm:zku l=true):∀ (vs:List zax) (c k:Int),(∀ w∈vs,OkV w)→Stp c vs→RCh (c - 1) (zdq l k vs)
 | [],_,_,_,_=>trivial
 | v::vs,c,k,hv,⟨s1,s2⟩=>by
  have ih:=ztr hm vs (v.Stanza+1) (k+1) (fun w hw=>hv w (List.mem_cons_of_mem _ hw)) s2
  rw [show v.Stanza+1 - 1=v.Stanza by omega] at ih
  show RCh (c - 1) (zhl l k v 0 (znx l v)++zdq l (k+1) vs)
  have hne:=zsY hm (hv v (List.mem_cons_self ..))
  cases ht:znx l v with
  | nil=>exact absurd ht hne
  | cons t ts=>exact ⟨by show v.Stanza=_∨v.Stanza=_; omega,zrm ih ts (0+1)⟩
theorem RCh.step:∀ {rs:List zap} {s:Int} {i:Nat} {a b:zap},RCh s rs→rs[i]?=some a→rs[i+1]?=some b→b.Stanza=a.Stanza∨b.Stanza=a.Stanza+1
 | [],_,_,_,_,_,h,_=>by simp at h
 | r::rs,s,0,a,b,⟨h1,h2⟩,ha,hb=>by
  obtain rfl:=Option.some.inj ha
  cases rs with
  | nil=>simp at hb
  | cons q qs=>obtain rfl:=Option.some.inj hb; exact h2.1
 | r::rs,s,i+1,a,b,⟨h1,h2⟩,ha,hb=>h2.step ha hb
structure zm0 (rows:List zap) (F L:List Int):Prop where
 n:rows.length≤1000000
 ch:∀ (i:Nat) (a b:zap),rows[i]?=some a→rows[i+1]?=some b→b.Stanza=a.Stanza∨b.Stanza=a.Stanza+1
 rg:∀ r∈rows,0≤r.Stanza∧r.Stanza≤1000000
 fst:∀ r∈rows,∃ f,F[r.Stanza.toNat]?=some f∧(r.Line=f↔∀ x∈rows,x.Stanza=r.Stanza→r.Line≤x.Line)
 lst:∀ r∈rows,∃ f,L[r.Stanza.toNat]?=some f∧(r.Line=f↔∀ x∈rows,x.Stanza=r.Stanza→x.Line≤r.Line)
theorem zoq {l:zaO} (hm:zku l=true) (vs:List zax) (hv:∀ w∈vs,OkV w) (hl:vs.length≤512) (hs:Stp 0 vs):zm0 (zdq l 0 vs) (flS 0 (([]:List Int),([]:List Int)) vs).1 (flS 0 (([]:List Int),([]:List Int)) vs).2:=by
 have hf:=FL.fold vs [] [] [] FL.nil hs
 rw [List.nil_append,show ((([]:List zax).length:Nat):Int)=0 from rfl] at hf
 have hlen:=zmf hm vs 0 hv
 have hch:=ztr hm vs 0 0 hv hs
 have hFl:∀ (pre ws:List zax) (F L:List Int) (k:Int),F.length≤pre.length→(flS k (F,L) ws).1.length≤pre.length+ws.length:=by
  intro pre ws
  induction ws generalizing pre with
  | nil=>intro F L k h; exact h
  | cons w ws ih =>
   intro F L k h
   have e2:flS k (F,L) (w::ws)=flS (k+1) (if w.Stanza=(F.length:Int) then (F++[k],L++[k]) else (F,L.set w.Stanza.toNat k)) ws:=rfl
   rw [e2]
   split
   ·have:=ih (pre++[w]) (F++[k]) (L++[k]) (k+1) (by simp; omega)
    simp at this ⊢; omega
   ·have:=ih (pre++[w]) F (L.set w.Stanza.toNat k) (k+1) (by simp; omega)
    simp at this ⊢; omega
 have hF2:=hFl [] vs [] [] 0 (Nat.le_refl _)
 refine ⟨by omega,fun i a b ha hb=>hch.step ha hb,fun r hr => ?_,fun r hr => ?_,fun r hr => ?_⟩
 ·obtain ⟨j,v,h1,h2,h3⟩:=zhm hr
  have:=hf.all j v h1
  simp at hF2
  omega
 ·obtain ⟨j,v,h1,h2,h3⟩:=zhm hr
  have ha:=hf.all j v h1
  have hg:(flS 0 (([]:List Int),([]:List Int)) vs).1[r.Stanza.toNat]?=some _:=List.getElem?_eq_getElem (by omega)
  refine ⟨_,hg,?_⟩
  obtain ⟨j2,e,⟨u,hu,hus⟩,hmin⟩:=hf.fst _ _ hg
  rw [e]
  constructor
  ·intro he x hx hxs
   obtain ⟨j3,v3,g1,g2,g3⟩:=zhm hx
   have:=hmin j3 v3 g1 (by omega)
   omega
  ·intro hall
   obtain ⟨x,hx,x1,x2⟩:=zor hm (l:=l) (k:=0) hv hu
   have h4:=hall x hx (by omega)
   have h5:=hmin j v h1 (by omega)
   omega
 ·obtain ⟨j,v,h1,h2,h3⟩:=zhm hr
  have ha:=hf.all j v h1
  have hg:(flS 0 (([]:List Int),([]:List Int)) vs).2[r.Stanza.toNat]?=some _:=List.getElem?_eq_getElem (by have:=hf.len; omega)
  refine ⟨_,hg,?_⟩
  obtain ⟨j2,e,⟨u,hu,hus⟩,hmax⟩:=hf.lst _ _ hg
  rw [e]
  constructor
  ·intro he x hx hxs
   obtain ⟨j3,v3,g1,g2,g3⟩:=zhm hx
   have:=hmax j3 v3 g1 (by omega)
   omega
  ·intro hall
   obtain ⟨x,hx,x1,x2⟩:=zor hm (l:=l) (k:=0) hv hu
   have h4:=hall x hx (by omega)
   have h5:=hmax j v h1 (by omega)
   omega
def stz (rows:List zap) (i:Nat):Int:=match rows[i]? with | some r=>r.Stanza | none=>0
def zfo (rows:List zap) (f t:Nat):Int:=((t:Int) - f)+stz rows (t - 1) - stz rows f
theorem zjr {rows:List zap} {i:Nat} {r:zap} (h:rows[i]?=some r):stz rows i=r.Stanza:=by unfold stz; rw [h]
section
variable {rows:List zap} {F L:List Int} (hR:zm0 rows F L)
include hR
theorem zoh (i:Nat):0≤stz rows i∧stz rows i≤1000000:=by
 unfold stz
 split
 ·rename_i r h
  exact hR.rg r (List.mem_of_getElem? h)
 ·omega
theorem zuY {i:Nat} (h:i+1<rows.length):stz rows (i+1)=stz rows i∨stz rows (i+1)=stz rows i+1:=by
 have h1:rows[i]?=some rows[i]:=List.getElem?_eq_getElem (by omega)
 have h2:rows[i+1]?=some rows[i+1]:=List.getElem?_eq_getElem h
 rw [zjr h1,zjr h2]
 exact hR.ch i _ _ h1 h2
theorem zoi:∀ (d i:Nat),i+d<rows.length→stz rows i≤stz rows (i+d)
 | 0,i,_=>Int.le_refl _
 | d+1,i,h=>by
  have h1:=zoi d i (by omega)
  have h2:=zuY hR (i:=i+d) (by omega)
  rw [show i+(d+1)=i+d+1 by omega]; omega
theorem zrz {f t:Nat} (h1:f<t) (h2:t≤rows.length):(t:Int) - f≤zfo rows f t∧zfo rows f t≤3000000:=by
 have:=zoi hR (t - 1 - f) f (by omega)
 rw [show f+(t - 1 - f)=t - 1 by omega] at this
 have a:=zoh hR f
 have b:=zoh hR (t - 1)
 have c:=hR.n
 unfold zfo; omega
theorem zws (H:Int) (f t:Nat) (h1:f<t) (h2:t≤rows.length):zdH (⟨rows,rows.map (·.Stanza),F,L,H⟩:za0) (f:Int) (t:Int)=some (zfo rows f t):=by
 have hn:=hR.n
 have a:=zoh hR f
 have b:=zoh hR (t - 1)
 have g:∀ i:Nat,i<rows.length→(rows.map (·.Stanza))[i]?=some (stz rows i):=fun i hi=>by
  rw [List.getElem?_map,List.getElem?_eq_getElem hi,zjr (List.getElem?_eq_getElem hi)]; rfl
 unfold zdH
 refine zcm ⟨by omega,by omega⟩ (zcm ⟨by omega,by omega⟩ (za7 (zfy (n:=t - 1) (by omega) (g (t - 1) (by omega))) (zcm ⟨by omega,by omega⟩ (za7 (zeD (g f (by omega))) (zcm ⟨by omega,by omega⟩ ?_)))))
 rfl
end
def zuR (rows:List zap) (k:Nat):Int :=
 match rows[k - 1]?,rows[k]? with
 | some a,some b=>if a.Stanza≠b.Stanza then 0 else if a.Line=b.Line then 100 else if (rows.all fun r=>!(r.Stanza==a.Stanza&&decide (r.Line<a.Line)))=true∨(rows.all fun r=>!(r.Stanza==a.Stanza&&decide (b.Line<r.Line)))=true then 50 else 10
 | _,_=>0
theorem zrN (rows:List zap) (k:Nat):0≤zuR rows k∧zuR rows k≤100:=by
 unfold zuR
 split
 ·split
  ·omega
  ·split
   ·omega
   ·split <;> omega
 ·omega
theorem zA1 {rows:List zap} {F L:List Int} (hR:zm0 rows F L) (H:Int) (k:Nat) (h0:0<k) (hk:k<rows.length):zeB (⟨rows,rows.map (·.Stanza),F,L,H⟩:za0) (k:Int)=some (zuR rows k):=by
 have hn:=hR.n
 have ha:rows[k - 1]?=some rows[k - 1]:=List.getElem?_eq_getElem (by omega)
 have hb:rows[k]?=some rows[k]:=List.getElem?_eq_getElem hk
 unfold zeB zuR
 rw [ha,hb]
 have ma:=List.mem_of_getElem? ha
 have mb:=List.mem_of_getElem? hb
 generalize rows[k - 1]=a at ha ma
 generalize rows[k]=b at hb mb
 simp only
 refine zcm ⟨by omega,by omega⟩ (za7 (zfy (n:=k - 1) (by omega) ha) (za7 (zeD hb) ?_))
 have ra:=hR.rg a ma
 have rb:=hR.rg b mb
 by_cases h1:a.Stanza=b.Stanza
 ·refine zaK (zAe h1) ?_
  rw [if_neg (by simp [h1])]
  by_cases h2:a.Line=b.Line
  ·rw [if_pos h2]; exact zaR (zmR h2) rfl
  ·rw [if_neg h2]
   refine zaK (zmS h2) ?_
   obtain ⟨f,f1,f2⟩:=hR.fst a ma
   obtain ⟨g,g1,g2⟩:=hR.lst b mb
   have p1:(a.Line=f)↔(rows.all fun r=>!(r.Stanza==a.Stanza&&decide (r.Line<a.Line)))=true:=by
    rw [f2,List.all_eq_true]
    constructor
    ·intro h x hx
     by_cases e:x.Stanza=a.Stanza
     ·have:=h x hx e
      simp [e]; omega
     ·simp [e]
    ·intro h x hx e
     have:=h x hx
     simp [e] at this; omega
   have p2:(b.Line=g)↔(rows.all fun r=>!(r.Stanza==a.Stanza&&decide (b.Line<r.Line)))=true:=by
    rw [g2,List.all_eq_true]
    constructor
    ·intro h x hx
     by_cases e:x.Stanza=a.Stanza
     ·have:=h x hx (by omega)
      simp [e]; omega
     ·simp [e]
    ·intro h x hx e
     have:=h x hx
     simp [show x.Stanza=a.Stanza by omega] at this; omega
   refine za7 (zfy (n:=a.Stanza.toNat) (by omega) f1) ?_
   by_cases h3:a.Line=f
   ·rw [if_pos (.inl (p1.1 h3))]; exact zaR (zmR h3) rfl
   ·refine zaK (zmS h3) (za7 (zfy (n:=b.Stanza.toNat) (by omega) g1) ?_)
    by_cases h4:b.Line=g
    ·rw [if_pos (.inr (p2.1 h4))]; exact zaR (zmR h4) rfl
    ·rw [if_neg (fun h=>h.elim (fun h=>h3 (p1.2 h)) (fun h=>h4 (p2.2 h)))]; exact zaK (zmS h4) rfl
 ·rw [if_pos h1]
  exact zaR (zAd h1) rfl
def Rp (rows:List zap) (H:Int) (f t:Nat):Bool:=decide (zfo rows f t≤H)
def Kp (rows:List zap) (H:Int) (f t:Nat):Int:=if f<t∧t<rows.length∧zfo rows f t≤H then (H - zfo rows f t)*(H - zfo rows f t)+zuR rows t else 0
abbrev Tp (rows:List zap) (H:Int) (k:Nat):Nat→Bst:=Bf (Rp rows H) (Kp rows H) rows.length k
abbrev Tt (rows:List zap) (H:Int):Nat→Bst:=BB (Rp rows H) (Kp rows H) rows.length
abbrev zkW (rows:List zap) (H:Int):List Nat:=zsD (Tt rows H) rows.length rows.length 0
theorem zpZ {rows:List zap} {H:Int} (hH:4≤H∧H≤200):∀ f,f<rows.length→Rp rows H f (f+1)=true:=by
 intro f hf
 unfold Rp zfo
 rw [show f+1 - 1=f by omega]
 exact decide_eq_true (by omega)
theorem ztW {rows:List zap} {F L:List Int} (hR:zm0 rows F L) {f t:Nat} (d:Nat) (h1:f<t) (h2:t+d≤rows.length):zfo rows f t≤zfo rows f (t+d):=by
 have:=zoi hR d (t - 1) (by omega)
 rw [show t - 1+d=t+d - 1 by omega] at this
 unfold zfo; omega
section
variable {rows:List zap} {F L:List Int} {H:Int} (hR:zm0 rows F L) (hH:4≤H∧H≤200)
include hR hH
theorem zwe {f t:Nat} (h1:f<t) (h2:t≤rows.length) (h3:zfo rows f t≤H):0≤(H - zfo rows f t)*(H - zfo rows f t)∧(H - zfo rows f t)*(H - zfo rows f t)≤40000:=by
 have:=zrz hR h1 h2
 have a:0≤H - zfo rows f t:=by omega
 have b:H - zfo rows f t≤200:=by omega
 exact ⟨Int.mul_nonneg a a,Int.le_trans (Int.mul_le_mul b b a (by decide)) (by decide)⟩
theorem zn4:∀ f t,0≤Kp rows H f t∧Kp rows H f t≤2000000000000:=by
 intro f t
 unfold Kp
 split
 ·rename_i h
  have h1:=zwe hR hH h.1 (by omega) h.2.2
  have h2:=zrN rows t
  omega
 ·omega
theorem zvd (k f:Nat) (hf:f+(k+1)=rows.length) (j2:List Bst→Option ((List Int)×Int)) :
  ∀ (d t m:Nat) (x:Bst),f<t→t+d=rows.length+1→d<m→okB (k+1) x→za1 (fun _ _=>none) (zcf (⟨rows,rows.map (·.Stanza),F,L,H⟩:za0) (f:Int) j2) m ((zg1 (Tp rows H k) rows.length).set f x) (t:Int) =
   j2 ((zg1 (Tp rows H k) rows.length).set f (zf0 (Rp rows H) (Kp rows H) rows.length (Tp rows H k) f d t x)):=by
 have hn:=hR.n
 have hK:=zn4 hR hH
 have hok:∀ t,okB k (Tp rows H k t):=zp2 (R:=Rp rows H) (K:=Kp rows H) (n:=rows.length) hK k
 intro d
 induction d with
 | zero =>
  intro t m x hft htd hm hx
  obtain ⟨m,rfl⟩:∃ q,m=q+1:=⟨m - 1,by omega⟩
  rw [zen]
  generalize za1 (fun _ _=>none) (zcf (⟨rows,rows.map (·.Stanza),F,L,H⟩:za0) (f:Int) j2) m=ag
  unfold zcf
  exact zaK (decide_eq_false (by show ¬ ((t:Int)≤(rows.length:Int)); omega)) rfl
 | succ d ih =>
  intro t m x hft htd hm hx
  obtain ⟨m,rfl⟩:∃ q,m=q+1:=⟨m - 1,by omega⟩
  have ih':=fun y hy=>ih (t+1) m y (by omega) (by omega) (by omega) hy
  rw [zen]
  generalize za1 (fun _ _=>none) (zcf (⟨rows,rows.map (·.Stanza),F,L,H⟩:za0) (f:Int) j2) m=ag at ih' ⊢
  rw [show ((t+1:Nat):Int)=(t:Int)+1 by omega] at ih'
  have htl:=zhR (Tp rows H k) rows.length
  have hgt:∀ y:Bst,zdf ((zg1 (Tp rows H k) rows.length).set f y) (t:Int)=some (Tp rows H k t):=fun y=>zeD (by rw [List.getElem?_set_ne (by omega)]; exact zfI _ _ _ (by omega))
  have hgf:∀ y:Bst,zdf ((zg1 (Tp rows H k) rows.length).set f y) (f:Int)=some y:=fun y=>zeD (by rw [List.getElem?_set_self (by omega)])
  have hnext:∀ y,okB (k+1) y→(grd (I64 ((t:Int)+1))<|ag ((zg1 (Tp rows H k) rows.length).set f y) ((t:Int)+1))=j2 ((zg1 (Tp rows H k) rows.length).set f (zf0 (Rp rows H) (Kp rows H) rows.length (Tp rows H k) f d (t+1) y)):=fun y hy=>zcm ⟨by omega,by omega⟩ (ih' y hy)
  unfold zcf
  refine zaR (decide_eq_true (by show (t:Int)≤(rows.length:Int); omega)) (za7 (zws hR H f t hft (by omega)) ?_)
  unfold zf0
  by_cases hRt:zfo rows f t≤H
  ·have hRb:Rp rows H f t=true:=decide_eq_true hRt
   refine zaR (decide_eq_true hRt) (zcj (zy7 (fun j4=>∀ y:Bst,okB (k+1) y→y.to_=(t:Int)→j4 y.cost y.rows=j2 ((zg1 (Tp rows H k) rows.length).set f (zf0 (Rp rows H) (Kp rows H) rows.length (Tp rows H k) f d (t+1) (zsb x (some y))))) ?_ ?_))
   ·intro y hy hto
    have ey:(⟨y.cost,y.rows,(t:Int)⟩:zaw)=y:=by rw [← hto]
    have hput:(grd (I64 ((t:Int)+1))<|ag (((zg1 (Tp rows H k) rows.length).set f x).set (f:Int).toNat (⟨y.cost,y.rows,(t:Int)⟩:zaw)) ((t:Int)+1))=j2 ((zg1 (Tp rows H k) rows.length).set f (zf0 (Rp rows H) (Kp rows H) rows.length (Tp rows H k) f d (t+1) y)):=by
     rw [ey,Int.toNat_natCast,List.set_set]; exact hnext y hy
    have hkeep:=hnext x hx
    refine za7 (hgf x) ?_
    rw [zil]
    by_cases h1:x.rows<0
    ·rw [if_pos (.inl h1)]; exact zaR (decide_eq_true h1) (za7 (hgf x) hput)
    refine zaK (decide_eq_false h1) ?_
    by_cases h2:y.cost<x.cost
    ·rw [if_pos (.inr (.inl h2))]; exact zaR (decide_eq_true h2) (za7 (hgf x) hput)
    refine zaK (decide_eq_false h2) ?_
    by_cases h3:y.cost=x.cost
    ·refine zaR (zmR h3) ?_
     by_cases h4:y.rows≤x.rows
     ·rw [if_pos (.inr (.inr ⟨h3,h4⟩))]; exact zaR (decide_eq_true h4) (za7 (hgf x) hput)
     ·rw [if_neg (by omega)]; exact zaK (decide_eq_false h4) hkeep
    ·rw [if_neg (by omega)]; exact zaK (zmS h3) hkeep
   intro j4 held
   by_cases ht:t<rows.length
   ·obtain ⟨o1,o2,o3,o4⟩:=hok t
    have hk2:=hK f t
    have hsq:=zwe hR hH hft (by omega) hRt
    have hcs:=zrN rows t
    have hhr:=zrz hR hft (t:=t) (by omega)
    have hkp:Kp rows H f t=(H - zfo rows f t)*(H - zfo rows f t)+zuR rows t:=if_pos ⟨hft,ht,hRt⟩
    have hfe:0≤(Tp rows H k t).rows:=zoT hK (zpZ hH) k t (by omega) (by omega)
    have hc:zhP (Rp rows H) (Kp rows H) rows.length (Tp rows H k) f t=some ⟨Kp rows H f t+(Tp rows H k t).cost,(Tp rows H k t).rows+1,(t:Int)⟩:=by unfold zhP; rw [if_pos hRb,if_pos ht,if_neg (by omega)]
    have hyok:=(zjB hK hok hc).1
    rw [hc]
    refine zaR (decide_eq_true (by show (t:Int)<(rows.length:Int); omega)) (za7 (zws hR H f t hft (by omega)) (zcm ?_ (zcm ?_ (za7 (zA1 hR H t (by omega) ht) (zcm ?_ (za7 (hgt x) (zcm ?_ (zcm ⟨by omega,by omega⟩ ?_))))))))
    ·show I64 (H - zfo rows f t); exact ⟨by omega,by omega⟩
    ·show I64 ((H - zfo rows f t)*(H - zfo rows f t)); exact ⟨by omega,by omega⟩
    ·show I64 ((H - zfo rows f t)*(H - zfo rows f t)+zuR rows t); exact ⟨by omega,by omega⟩
    ·show I64 ((H - zfo rows f t)*(H - zfo rows f t)+zuR rows t+(Tp rows H k t).cost); rw [← hkp]; exact ⟨by omega,by omega⟩
    ·have:=held _ hyok rfl
     refine Eq.trans ?_ this
     show j4 ((H - zfo rows f t)*(H - zfo rows f t)+zuR rows t+(Tp rows H k t).cost) ((Tp rows H k t).rows+1)=j4 (Kp rows H f t+(Tp rows H k t).cost) ((Tp rows H k t).rows+1)
     rw [hkp]
   ·have hc:zhP (Rp rows H) (Kp rows H) rows.length (Tp rows H k) f t=some ⟨0,1,(t:Int)⟩:=by unfold zhP; rw [if_pos hRb,if_neg ht]
    have hyok:=(zjB hK hok hc).1
    rw [hc]
    refine zaK (decide_eq_false (by show ¬ ((t:Int)<(rows.length:Int)); omega)) ?_
    exact held _ hyok rfl
  ·refine zaK (decide_eq_false hRt) ?_
   have hc:zhP (Rp rows H) (Kp rows H) rows.length (Tp rows H k) f t=none:=by unfold zhP; rw [if_neg (by unfold Rp; rw [decide_eq_false hRt]; decide)]
   rw [hc,zkM d (t+1) (zsb x none) (fun t' h1 h2=>by
    have:=ztW hR (t' - t) hft (by omega)
    rw [show t+(t' - t)=t' by omega] at this
    unfold zhP Rp
    rw [if_neg (by rw [decide_eq_false (by omega)]; decide)])]
   rfl
theorem ztC (j1:List Bst→Option ((List Int)×Int)):∀ (d k m:Nat),k+d=rows.length→d<m→za1 (fun _ _=>none) (zcg (⟨rows,rows.map (·.Stanza),F,L,H⟩:za0) j1) m (zg1 (Tp rows H k) rows.length) ((rows.length:Int) - 1 - (k:Int))=j1 (zg1 (Tt rows H) rows.length):=by
 have hle:=hR.n
 intro d
 induction d with
 | zero =>
  intro k m hk hm
  obtain ⟨m,rfl⟩:∃ q,m=q+1:=⟨m - 1,by omega⟩
  rw [zen]
  generalize za1 (fun _ _=>none) (zcg (⟨rows,rows.map (·.Stanza),F,L,H⟩:za0) j1) m=ag
  unfold zcg
  refine zaK (decide_eq_false (by omega)) ?_
  rw [show k=rows.length by omega]; rfl
 | succ d ih =>
  intro k m hk hm
  obtain ⟨m,rfl⟩:∃ q,m=q+1:=⟨m - 1,by omega⟩
  have ih':=ih (k+1) m (by omega) (by omega)
  rw [zen]
  generalize za1 (fun _ _=>none) (zcg (⟨rows,rows.map (·.Stanza),F,L,H⟩:za0) j1) m=ag at ih' ⊢
  obtain ⟨f,hf⟩:∃ f:Nat,f+(k+1)=rows.length:=⟨d,by omega⟩
  rw [show (rows.length:Int) - 1 - (k:Int)=(f:Int) by omega]
  rw [show (rows.length:Int) - 1 - ((k+1:Nat):Int)=(f:Int) - 1 by omega] at ih'
  unfold zcg
  have hg:zdf (zg1 (Tp rows H k) rows.length) (f:Int)=some b0:=by
   have e0:Tp rows H k f=b0:=zx4 k f (by omega)
   rw [zeD (zfI _ _ f (by omega)),e0]
  refine zaR (decide_eq_true (by omega)) (zcj (za7 hg (zcm ⟨by omega,by omega⟩ ?_)))
  have hin:=zvd hR hH k f hf (fun (all5:List zaw)=>grd (I64 ((f:Int) - 1))<|ag all5 ((f:Int) - 1)) (rows.length - f) (f+1) zcD bm (by omega) (by omega) (zdI (by omega)) (ztH _)
  rw [show ((f+1:Nat):Int)=(f:Int)+1 by omega] at hin
  have et:(zg1 (Tp rows H k) rows.length).set f (zf0 (Rp rows H) (Kp rows H) rows.length (Tp rows H k) f (rows.length - f) (f+1) bm)=zg1 (Tp rows H (k+1)) rows.length:=by
   have e1:Tp rows H (k+1) f=zf0 (Rp rows H) (Kp rows H) rows.length (Tp rows H k) f (rows.length - f) (f+1) bm:=by
    show Bf (Rp rows H) (Kp rows H) rows.length (k+1) f=_
    rw [zhB,if_pos hf]
   rw [← e1]
   exact zrc (by omega) fun j hj=>by
    show Bf (Rp rows H) (Kp rows H) rows.length (k+1) j=_
    rw [zhB,if_neg (by omega)]
  rw [et] at hin
  refine hin.trans (zcm ⟨by omega,by omega⟩ ih')
theorem ztD (j5:List Int→Option ((List Int)×Int)):∀ (m f N:Nat) (out:List Int),rows.length≤f+m→m<N→out.length≤f→f≤rows.length→za1 (fun _ _=>none) (zbX (⟨rows,rows.map (·.Stanza),F,L,H⟩:za0) (zg1 (Tt rows H) rows.length) j5) N out (f:Int)=j5 (out++(zsD (Tt rows H) rows.length m f).map (fun t=>((t:Nat):Int))):=by
 have hle:=hR.n
 intro m
 induction m with
 | zero =>
  intro f N out hm hN ho hf
  obtain ⟨N,rfl⟩:∃ q,N=q+1:=⟨N - 1,by omega⟩
  rw [zen]
  generalize za1 (fun _ _=>none) (zbX (⟨rows,rows.map (·.Stanza),F,L,H⟩:za0) (zg1 (Tt rows H) rows.length) j5) N=ag
  unfold zbX
  refine zaK (decide_eq_false (by show ¬ ((f:Int)<(rows.length:Int)); omega)) ?_
  show j5 out=j5 (out++[])
  rw [List.append_nil]
 | succ m ih =>
  intro f N out hm hN ho hf
  obtain ⟨N,rfl⟩:∃ q,N=q+1:=⟨N - 1,by omega⟩
  rw [zen]
  have ih':=fun t out=>ih t N out
  generalize za1 (fun _ _=>none) (zbX (⟨rows,rows.map (·.Stanza),F,L,H⟩:za0) (zg1 (Tt rows H) rows.length) j5) N=ag at ih' ⊢
  unfold zbX zsD
  by_cases h:f<rows.length
  ·obtain ⟨t,h1,h2,h3,h4⟩:=zuO (zn4 hR hH) (zpZ hH) h
   have hg:zdf (zg1 (Tt rows H) rows.length) (f:Int)=some (Tt rows H f):=zeD (zfI _ _ f (by omega))
   rw [if_pos h,h1,Int.toNat_natCast]
   refine zaR (decide_eq_true (by show (f:Int)<(rows.length:Int); omega)) (za7 hg (zcm (by omega) (za7 hg ?_)))
   rw [h1]
   rw [ih' t (out++[(t:Int)]) (by omega) (by omega) (by rw [List.length_append]; simp; omega) h3,List.append_assoc]; rfl
  ·rw [if_neg h]
   refine zaK (decide_eq_false (by show ¬ ((f:Int)<(rows.length:Int)); omega)) ?_
   show j5 out=j5 (out++[])
   rw [List.append_nil]
theorem zxe:zd6 (⟨rows,rows.map (·.Stanza),F,L,H⟩:za0)=some ((zkW rows H).map (fun t=>((t:Nat):Int)),(Tt rows H 0).cost):=by
 have hle:=hR.n
 unfold zd6
 refine zcj (zcm ⟨by show _≤(rows.length:Int)+1; omega,by show (rows.length:Int)+1≤_; omega⟩ (zcm ⟨by show _≤(rows.length:Int)+1; omega,by show (rows.length:Int)+1≤_; omega⟩ (zcm ⟨by show _≤(rows.length:Int) - 1; omega,by show (rows.length:Int) - 1≤_; omega⟩ ?_)))
 have e0:List.replicate ((rows.length:Int)+1:Int).toNat (⟨0,0,0⟩:zaw)=zg1 (Tp rows H 0) rows.length:=by
  show List.replicate ((rows.length:Int)+1:Int).toNat b0=_
  rw [show ((rows.length:Int)+1:Int).toNat=rows.length+1 by omega,zyF]
 show za1 (fun _ _=>none) _ zcD (List.replicate ((rows.length:Int)+1:Int).toNat (⟨0,0,0⟩:zaw)) ((rows.length:Int) - 1)=_
 rw [e0]
 have ho:=ztC hR hH (fun (all1:List zaw)=>zbE (fun (j5:(List Int)→Option ((List Int)×Int))=>za1 (fun _ _=>none) (zbX (⟨rows,rows.map (·.Stanza),F,L,H⟩:za0) all1 j5) zcD ([]:List Int) 0) (fun (out1:List Int)=>zan (zdf all1 0) fun (q10:zaw)=>some (out1,q10.cost))) rows.length 0 zcD (by omega) (zdI (by omega))
 rw [show (rows.length:Int) - 1 - ((0:Nat):Int)=(rows.length:Int) - 1 by omega] at ho
 refine ho.trans (zcj ?_)
 have he:=ztD hR hH (fun (out1:List Int)=>zan (zdf (zg1 (Tt rows H) rows.length) 0) fun (q10:zaw)=>some (out1,q10.cost)) rows.length 0 zcD [] (by omega) (zdI (by omega)) (Nat.zero_le _) (Nat.zero_le _)
 rw [show ((0:Nat):Int)=0 from rfl,List.nil_append] at he
 refine he.trans (za7 (zfy (n:=0) rfl (zfI _ _ 0 (Nat.zero_le _))) rfl)
end
def zeu (r2:(Int×za0)) (from3:Int) (j3:Int→(List zap)→Option ((Option zb5)×Int)) (q1:Int) (ag2:(List zap)→Int→Option ((Option zb5)×Int)) (page4:List zap) (k3:Int):Option ((Option zb5)×Int) := zaB (decide ((k3:Int)<q1)) ( zbE (fun (j4:(List zap)→Option ((Option zb5)×Int)) => zaB (decide ((from3:Int)<k3)) ( zan (zdf r2.2.rows k3) fun (q2:zap) => grd (I64 (k3 - 1)) <| zan (zdf r2.2.rows (k3 - 1)) fun (q3:zap) => zaB ((q2.Stanza:Int) != q3.Stanza) ( grd (page4.length+1≤2147483648) <| j4 (page4++[(⟨(-1),0,0,0,0,ByteArray.empty⟩:zap)])
) ( j4 page4
)
) ( j4 page4
)
) (fun (page5:List zap) => zan (zdf r2.2.rows k3) fun (q4:zap) => grd (page5.length+1≤2147483648) <| grd (I64 (k3+1)) <| ag2 (page5++[q4]) (k3+1)
)
) ( j3 q1 page4
)
def zev (j1:(List (List zap))→Int→Option ((Option zb5)×Int)) (r2:(Int×za0)) (r3:((List Int)×Int)) (ag1:(List (List zap))→Int→Int→Option ((Option zb5)×Int)) (b9:List (List zap)) (from3:Int) (x4:Int):Option ((Option zb5)×Int) := zaB (decide ((x4:Int)<(r3.1.length:Int))) ( zbE (fun (j2:(List (List zap))→Int→Option ((Option zb5)×Int)) => zbE (fun (j3:Int→(List zap)→Option ((Option zb5)×Int)) => zan (zdf r3.1 x4) fun (q1:Int) => za1 (fun _ _=>none) (zeu r2 from3 j3 q1) zcD ([]:List zap) from3
) (fun (to1:Int) (page1:List zap) => grd (b9.length+1≤2147483648) <| j2 (b9++[page1]) to1
)
) (fun (b10:List (List zap)) (from4:Int) => grd (I64 (x4+1)) <| ag1 b10 from4 (x4+1)
)
) ( j1 b9 (r2.1+r3.2)
)
def zhK (x1:zaC) (l1:zaO):Option ((Option zb5)×Int) := zan (zgm l1) fun (r1:Bool) => zaB (!r1) ( some (none,2)
) ( zbE (fun (j1:(List (List zap))→Int→Option ((Option zb5)×Int)) => zan (zd7 (⟨([]:List zap),([]:List Int),([]:List Int),([]:List Int),l1.Height⟩:za0) x1 l1) fun (r2:(Int×za0)) => zan (zd6 r2.2) fun (r3:((List Int)×Int)) => grd (I64 (r2.1+r3.2)) <| za1 (fun _ _ _=>none) (zev j1 r2 r3) zcD ([]:List (List zap)) 0 0
) (fun (b3:List (List zap)) (b4:Int) => some ((some (⟨l1.Width,l1.Height,l1.Turn,l1.Every,b3,b4⟩:zb5)),0)
)
)
theorem zqr {bx1:Nat} {x1:zaC} {x1_h0 x1_h1:Hd} {l1:zaO} {r:((Option zb5)×Int)} (h:zhK x1 l1=some r):FnR prog 6 [zP bx1,.agg (zr0 l1).toArray] [cells bx1 [.string x1.told_title,x1_h0.v,x1_h1.v,.string x1.source] 76,zv7 x1_h0.v x1.told_lines,zv8 x1_h1.v x1.told_stanzas] [] (fun v0:Value=>.tuple #[v0,zI r.2]) (fun v0=>[zlg zff zfb 89 v0 r.1]):=by
 unfold zhK at h
 refine FnR.intro func6 rfl ntmps6 (by simp) ?_
 intro w0 K hrd
 refine zyG ?_
 refine zdi rfl dc rfl (fun b1 => ?_)
 refine zyR 2 rfl (zyN (zaE (zaG (zyG (zyR 1 rfl (zaS rfl (zcq underlying28) (zyR 1 rfl (zyN (zaM rfl ?_)))))))))
 refine zyG (zaV (k:=0) (cs:=(zr0 l1)) zjs rfl dc rfl rfl rfl rfl ?_)
 obtain ⟨r1,hq1,h⟩:=zbL h
 refine zbg (v:=.bool r1) (vs:=[.agg (zr0 l1).toArray]) rfl dc rfl rfl rfl zxJ (zjw (l1:=l1) hq1) (zdt rfl dc rfl zct (zyR 1 rfl (zyN ?_)))
 refine zyB rfl h (fun h => ?_) (fun h => ?_)
 ·
  refine zyG (zyR 2 rfl (zyN (zau (zag (zaf (zdQ zff zfb 89 ?_))))))
  cases h
  exact zbt (rs:=[.tmp 4,.tmp 5]) (.pointer none) (.inl rfl) results6 (.cons (.tmp rfl) (.cons (.tmp rfl) .nil)) rfl (zab [1] kr rfl)
 refine zal (zae (zay ?_))
 obtain ⟨j1,hj1,h⟩:=zbT h
 refine za8 (β:=(List (List zap))×Int×Nat×Hd) 5 rfl (fun b=>j1 b.1 b.2.1=some r) (fun b=>[]) (fun b=>[(7,zP b.2.2.1)]) (fun b=>[cells b.2.2.1 [zI l1.Width,zI l1.Height,zI l1.Turn,zI l1.Every,b.2.2.2.v,zI b.2.1] 89,zgf zbp zbz 37 1 b.2.2.2.v b.1]) (fun cut => ?_) ?_
 ·
  refine zyG (zaa zoF rfl dc rfl (show _=1 from rfl) (zaj (k:=0) zbW rfl dc rfl rfl rfl ?_))
  refine zbA (v:=.agg #[.slice none 0 0,.slice none 0 0,.slice none 0 0,.slice none 0 0,zI l1.Height]) (ps:=[(4,.tmp 23)]) rfl dc rfl (fun _=>by kernel_rfl) ?_
  refine zdi rfl dc rfl (fun b5 => ?_)
  refine zyR 1 rfl (zyN (zaE ?_))
  obtain ⟨r2,hq2,h⟩:=zbL h
  refine zgG 4 ?_
  refine let vals1:(Hd×Hd×Hd×Hd)→List (Nat×Nat×Value):=fun b=>[(0,26,.agg (zr0 l1).toArray),(1,27,zP b5),(2,28,zP bx1),(3,29,.agg (zr0 l1).toArray),(4,30,zI r2.1)]; let LL1:(Nat→Prop)→(Hd×Hd×Hd×Hd)→List Asn:=fun D b=>[cells b1 (zr0 l1) 23,eD D (cells b5 [.slice none 0 0,.slice none 0 0,.slice none 0 0,.slice none 0 0,zI l1.Height] 85) [(4,cells b5 [b.1.v,b.2.1.v,b.2.2.1.v,b.2.2.2.v,zI r2.2.heights] 85)],eD D emp [(4,zv1 b.1.v r2.2.rows)],eD D emp [(4,zv0 b.2.1.v r2.2.blanks)],eD D emp [(4,zv0 b.2.2.1.v r2.2.firsts)],eD D emp [(4,zv0 b.2.2.2.v r2.2.lasts)]]; ?_
  have zhq:zyQ [4] LL1:=fun i h D b=>zac rfl (zac (zkr rfl h) (zac (zkr rfl h) (zac (zkr rfl h) (zac (zkr rfl h) (zac (zkr rfl h) rfl)))))
  refine zeb (β:=Hd×Hd×Hd×Hd) 5 (Hd.nil,Hd.nil,Hd.nil,Hd.nil) vals1 LL1 mixed kr kr dc (fun _=>rfl) (zac rfl (zac zci (zac zci (zac zci (zac zci (zac zci rfl)))))) (zhC zhq rfl (fun _=>rfl) (fun _=>rfl) ?_ (zm5 zhq (fun _=>rfl) (fun _=>rfl) 2 1 (fun _=>rfl) rfl (zhC zhq rfl (fun _=>rfl) (fun _=>rfl) ?_ (zaF ?_ DrawG.nil)))) ?_
  · exact fun D ⟨hd2,hd3,hd4,hd5⟩ n d c u i=>⟨_,(zwK rfl),zaV (k:=0) (cs:=(zr0 l1)) zjs rfl dc (zbd (by rfl) rfl) rfl rfl rfl (zar 0 u i)⟩
  · exact fun D ⟨hd2,hd3,hd4,hd5⟩ n d c u i=>⟨_,(zac rfl (zac (zah (fun hD=>n (c 4 _ rfl hD 3 dc)) zat) (zac (zah (fun hD=>n (c 4 _ rfl hD 3 dc)) zat) (zac (zah (fun hD=>n (c 4 _ rfl hD 3 dc)) zat) (zac (zah (fun hD=>n (c 4 _ rfl hD 3 dc)) zat) (zac (zah (fun hD=>n (c 4 _ rfl hD 3 dc)) zat) rfl)))))),zaV (k:=0) (cs:=(zr0 l1)) zjs rfl dc (zbd (by rfl) rfl) rfl rfl rfl (zar 3 u i)⟩
  ·
   intro D b hn hd hcl
   obtain ⟨zb0,zb1,zb2,zb3⟩:=b
   refine zaY (zac rfl (zac (zah hn zat) (zac (zah hn zat) (zac (zah hn zat) (zac (zah hn zat) (zac (zah hn zat) rfl)))))) (zfi (enc:=zb9) (e:=43) (size:=6) ?_)
   refine zfi (enc:=(zlp (.i64))) (e:=3) (size:=1) ?_
   refine zfi (enc:=(zlp (.i64))) (e:=3) (size:=1) ?_
   refine zfi (enc:=(zlp (.i64))) (e:=3) (size:=1) ?_
   refine zft (vs:=[zP b5,zP bx1,.agg (zr0 l1).toArray]) hrd rfl dc rfl (evL.cons (zaI (m:=1) rfl rfl (hd 1 dc)) (evL.cons (zaI (m:=2) rfl rfl (hd 2 dc)) (evL.cons (zaI (m:=3) rfl rfl (hd 3 dc)) evL.nil))) rfl zAJ (zja (bp1:=b5) (p1:=(⟨([]:List zap),([]:List Int),([]:List Int),([]:List Int),l1.Height⟩:za0)) (p1_h0:=Hd.nil) (p1_h1:=Hd.nil) (p1_h2:=Hd.nil) (p1_h3:=Hd.nil) (bx1:=bx1) (x1:=x1) (x1_h0:=x1_h0) (x1_h1:=x1_h1) (l1:=l1) hq2) (zab [1,6,7,8,9] kr rfl) (.ro 0 rfl (.ro 1 rfl (.ro 2 rfl .nil))) ?_
   rintro ⟨hd2,hd3,hd4,hd5⟩
   refine zcs (L':=[cells b1 (zr0 l1) 23,cells b5 [hd2.v,hd3.v,hd4.v,hd5.v,zI r2.2.heights] 85,emp,emp,emp,emp,zv1 hd2.v r2.2.rows,zv0 hd3.v r2.2.blanks,zv0 hd4.v r2.2.firsts,zv0 hd5.v r2.2.lasts]) (zab [0,10,2,3,4,5,11,12,13,14] kr rfl) (zdg 5 rfl rfl ?_)
   refine zdg 4 rfl rfl ?_
   refine zdg 3 rfl rfl ?_
   refine zdg 2 rfl rfl ?_
   exact za4 (b:=(zb0,zb1,zb2,zb3)) (hd2,hd3,hd4,hd5) 4 (by rfl) (by rfl) rfl (zn7 rfl) (zac rfl (zac (zaW (Or.inr rfl) rfl) (zac (zaW (Or.inr rfl) rfl) (zac (zaW (Or.inr rfl) rfl) (zac (zaW (Or.inr rfl) rfl) (zac (zaW (Or.inr rfl) rfl) rfl))))))
  intro D b hall
  obtain ⟨hd2,hd3,hd4,hd5⟩:=b
  refine zaY (zac rfl (zac (zaW (hall 4 dc) rfl) (zac (zaW (hall 4 dc) rfl) (zac (zaW (hall 4 dc) rfl) (zac (zaW (hall 4 dc) rfl) (zac (zaW (hall 4 dc) rfl) rfl)))))) ?_
  refine zbA (v:=.agg #[zI l1.Width,zI l1.Height,zI l1.Turn,zI l1.Every,.slice none 0 0,zI r2.1]) (ps:=[(0,.tmp 26),(2,.tmp 30)]) rfl dc rfl (fun _=>by kernel_rfl) ?_
  refine zdi rfl dc rfl (fun b6 => ?_)
  refine zyR 1 rfl (zyH (zyR 1 rfl ?_))
  obtain ⟨r3,hq3,h⟩:=zbL h
  refine zft (vs:=[zP b5]) hrd rfl dc rfl rfl rfl zAI (zi9 (bp1:=b5) (p1:=r2.2) (p1_h0:=hd2) (p1_h1:=hd3) (p1_h2:=hd4) (p1_h3:=hd5) hq3) Splits.nil (.own (zab [1] kr rfl) (fun _ _ h=>sepL.one1.1 h) (.own (zab [2] kr rfl) (fun _ _ h=>sepL.one1.1 h) (.own (zab [3] kr rfl) (fun _ _ h=>sepL.one1.1 h) (.own (zab [4] kr rfl) (fun _ _ h=>sepL.one1.1 h) (.own (zab [5] kr rfl) (fun _ _ h=>sepL.one1.1 h) .nil))))) ?_
  rintro v1
  refine zbJ (k:=7) rfl (fun hd6 he1 => ?_)
  subst he1
  refine zyR 1 rfl (zaN rfl dc rfl rfl (zaN rfl dc rfl rfl (zyR 2 rfl (zyH (zyR 1 rfl (zai rfl dc rfl (zaa zt4 rfl dc rfl (show _=5 from rfl) (zaj (k:=6) zbW rfl dc rfl rfl rfl (zyR 1 rfl ?_)))))))))
  obtain ⟨hg1,h⟩:=zbQ h
  refine zaS rfl (zbb (r:=r2.1+r3.2) (IntWalk.i64_in _ hg1)) (zai rfl dc rfl (zaa zt4 rfl dc rfl (show _=5 from rfl) ?_))
  refine zaT (k:=6) (l':=[zI l1.Width,zI l1.Height,zI l1.Turn,zI l1.Every,.slice none 0 0,zI (r2.1+r3.2)]) zeI rfl rfl rfl rfl rfl (fun _ _=>rfl) rfl ?_
  refine zyH (zyR 1 rfl (zyN (cut (zyG (zyR 1 rfl (zdu (k:=7) rfl dc rfl rfl underlying24 (zyR 1 rfl (zaP ?_))))))))
  refine zay (zaG (zoQ (enc:=zbp) (nest:=zbz) (e:=37) (size:=1) ?_))
  refine zbP (β:=Nat×(List (List zap))×Int×Int×Hd) (fun b=>za1 (fun _ _ _=>none) (zev j1 r2 r3) b.1 b.2.1 b.2.2.1 b.2.2.2.1=some r) (fun b=>[]) (fun b=>[(6,zP b5),(7,zP b6),(10,zI b.2.2.1),(46,hd6.v),(47,zI (r3.1.length:Int)),(48,zI b.2.2.2.1)]) (fun b=>[cells b5 [hd2.v,hd3.v,hd4.v,hd5.v,zI r2.2.heights] 85,zv1 hd2.v r2.2.rows,zv0 hd3.v r2.2.blanks,zv0 hd4.v r2.2.firsts,zv0 hd5.v r2.2.lasts,cells b6 [zI l1.Width,zI l1.Height,zI l1.Turn,zI l1.Every,b.2.2.2.2.v,zI (r2.1+r3.2)] 89,zgf zbp zbz 37 1 b.2.2.2.2.v b.2.1,zv0 hd6.v r3.1]) (fun b=>b.1) (zcD,([]:List (List zap)),0,0,Hd.nil) h rfl (zbf rfl) (zab [1,2,3,4,5,6,8,7] kr rfl) ?_
  rintro ⟨n1,b9,from3,x4,hd9⟩ h
  cases n1 with
  | zero=>exact zdO h
  | succ n1 =>
   obtain ⟨ag1,hag1⟩:∃ ag,ag=za1 (fun _ _ _=>none) (zev j1 r2 r3) n1:=⟨_,rfl⟩
   have h:zev j1 r2 r3 ag1 b9 from3 x4=some r:=by rw [hag1]; exact h
   unfold zev at h
   refine zyG (zaS rfl zbF (zyN (zaE ?_)))
   refine zyB rfl h (fun h => ?_) (fun h => ?_)
   ·
    refine zal (zay ?_)
    obtain ⟨j2,hj2,h⟩:=zbT h
    refine za8 (β:=(List (List zap))×Int×Hd) 0 rfl (fun b=>j2 b.1 b.2.1=some r) (fun b=>[]) (fun b=>[(6,zP b5),(7,zP b6),(10,zI b.2.1),(46,hd6.v),(47,zI (r3.1.length:Int)),(48,zI x4)]) (fun b=>[cells b5 [hd2.v,hd3.v,hd4.v,hd5.v,zI r2.2.heights] 85,zv1 hd2.v r2.2.rows,zv0 hd3.v r2.2.blanks,zv0 hd4.v r2.2.firsts,zv0 hd5.v r2.2.lasts,cells b6 [zI l1.Width,zI l1.Height,zI l1.Turn,zI l1.Every,b.2.2.v,zI (r2.1+r3.2)] 89,zgf zbp zbz 37 1 b.2.2.v b.1,zv0 hd6.v r3.1]) (fun cut => ?_) ?_
    ·
     refine cut (zaG ?_)
     obtain ⟨j3,hj3,h⟩:=zbT h
     refine za8 (β:=Int×(List zap)×Hd) 2 rfl (fun b=>j3 b.1 b.2.1=some r) (fun b=>[]) (fun b=>[(6,zP b5),(7,zP b6),(12,zI b.1),(13,b.2.2.v),(46,hd6.v),(47,zI (r3.1.length:Int)),(48,zI x4)]) (fun b=>[cells b5 [hd2.v,hd3.v,hd4.v,hd5.v,zI r2.2.heights] 85,zv1 hd2.v r2.2.rows,zv0 hd3.v r2.2.blanks,zv0 hd4.v r2.2.firsts,zv0 hd5.v r2.2.lasts,cells b6 [zI l1.Width,zI l1.Height,zI l1.Turn,zI l1.Every,hd9.v,zI (r2.1+r3.2)] 89,zgf zbp zbz 37 1 hd9.v b9,zv1 b.2.2.v b.2.1,zv0 hd6.v r3.1]) (fun cut => ?_) ?_
     ·
      refine zyG ?_
      obtain ⟨q1,hq4,h⟩:=zbL h
      refine za3 (k:=7) hq4 underlying24 zeI rfl dc rfl rfl rfl rfl (zbD (i:=(x4:Int).toNat) (j:=0) (k:=7) (q:=q1) zbW zcJ rfl dc rfl rfl (zbo hq4) rfl dc rfl (zyR 1 rfl (zyH (zyR 1 rfl (zyN (cut (zyG (zyR 1 rfl ?_))))))))
      refine zyR 1 rfl (zyN (zaG (zer (enc:=zb9) (e:=43) (size:=6) ?_)))
      refine zbP (β:=Nat×(List zap)×Int×Hd) (fun b=>za1 (fun _ _=>none) (zeu r2 from3 j3 q1) b.1 b.2.1 b.2.2.1=some r) (fun b=>[]) (fun b=>[(6,zP b5),(7,zP b6),(10,zI from3),(12,zI q1),(13,b.2.2.2.v),(14,zI b.2.2.1),(46,hd6.v),(47,zI (r3.1.length:Int)),(48,zI x4)]) (fun b=>[cells b5 [hd2.v,hd3.v,hd4.v,hd5.v,zI r2.2.heights] 85,zv1 hd2.v r2.2.rows,zv0 hd3.v r2.2.blanks,zv0 hd4.v r2.2.firsts,zv0 hd5.v r2.2.lasts,cells b6 [zI l1.Width,zI l1.Height,zI l1.Turn,zI l1.Every,hd9.v,zI (r2.1+r3.2)] 89,zgf zbp zbz 37 1 hd9.v b9,zv1 b.2.2.2.v b.2.1,zv0 hd6.v r3.1]) (fun b=>b.1) (zcD,([]:List zap),from3,Hd.nil) h rfl (zbf rfl) (zab [0,1,2,3,4,5,6,8,7] kr rfl) ?_
      rintro ⟨n2,page4,k3,hd14⟩ h
      cases n2 with
      | zero=>exact zdO h
      | succ n2 =>
       obtain ⟨ag2,hag2⟩:∃ ag,ag=za1 (fun _ _=>none) (zeu r2 from3 j3 q1) n2:=⟨_,rfl⟩
       have h:zeu r2 from3 j3 q1 ag2 page4 k3=some r:=by rw [hag2]; exact h
       unfold zeu at h
       refine zaE (zyG (zyR 2 rfl (zaS rfl zbF (zyN ?_))))
       refine zyB rfl h (fun h => ?_) (fun h => ?_)
       ·
        refine zal (zay (zaE (zaG ?_)))
        obtain ⟨j4,hj4,h⟩:=zbT h
        refine za8 (β:=(List zap)×Hd) 0 rfl (fun b=>j4 b.1=some r) (fun b=>[]) (fun b=>[(6,zP b5),(7,zP b6),(10,zI from3),(12,zI q1),(13,b.2.v),(14,zI k3),(46,hd6.v),(47,zI (r3.1.length:Int)),(48,zI x4)]) (fun b=>[cells b5 [hd2.v,hd3.v,hd4.v,hd5.v,zI r2.2.heights] 85,zv1 hd2.v r2.2.rows,zv0 hd3.v r2.2.blanks,zv0 hd4.v r2.2.firsts,zv0 hd5.v r2.2.lasts,cells b6 [zI l1.Width,zI l1.Height,zI l1.Turn,zI l1.Every,hd9.v,zI (r2.1+r3.2)] 89,zgf zbp zbz 37 1 hd9.v b9,zv1 b.2.v b.1,zv0 hd6.v r3.1]) (fun cut => ?_) ?_
        ·
         refine cut (zaE ?_)
         refine zeH (b:=decide ((from3:Int)<k3)) (fun hb4 => ?_) (fun hb4 => ?_)
         ·
          have h:=zgT hb4 h
          obtain ⟨q2,hq5,h⟩:=zbL h
          obtain ⟨hg2,h⟩:=zbQ h
          obtain ⟨q3,hq6,h⟩:=zbL h
          refine zbB 21 [(0,58,zI k3),(1,59,zI from3),(2,60,.bool true),(3,61,.bool true),(4,62,zP b5),(5,63,zP b5),(6,64,zP b5),(7,65,hd2.v),(8,66,zI k3),(9,67,.pointer (some ⟨zdz hd2.v,(k3:Int).toNat*6,none⟩)),(10,68,.pointer (some ⟨zdz hd2.v,((k3:Int).toNat)*6+1,none⟩)),(11,69,zI q2.Stanza),(12,70,zP b5),(13,71,zP b5),(14,72,zP b5),(15,73,hd2.v),(16,74,zI k3),(17,75,zI (k3 - 1)),(18,76,.pointer (some ⟨zdz hd2.v,(k3 - 1:Int).toNat*6,none⟩)),(19,77,.pointer (some ⟨zdz hd2.v,((k3 - 1:Int).toNat)*6+1,none⟩)),(20,78,zI q3.Stanza)] mixed kr kr dc (by rfl) kr kr (zyP 2 0 rfl (zad ?_ (zyP 2 3 rfl (zad ?_ (zad ?_ (zad ?_ (zyP 1 8 rfl (zad ?_ (zad ?_ (zad ?_ (zyP 1 12 rfl (zad ?_ (zad ?_ (zad ?_ (zyP 1 16 rfl (zad ?_ (zad ?_ (zad ?_ (zad ?_ DrawPre.nil))))))))))))))))))) ?_
          · exact fun D n d c u i=>zb6 rfl dc (zam 0 u d) (zam 1 u d) zc1 (zdF (show Value.bool (decide ((from3:Int)<k3))=Value.bool true from congrArg Value.bool hb4) (zar 2 u i))
          · exact fun D n d c u i=>zai (zeV rfl (zam 3 u d)) dc (zam 4 u d) (zar 5 u i)
          · exact fun D n d c u i=>zaa ziJ (zeV rfl (zam 3 u d)) dc (zam 5 u d) (show _=0 from rfl) (zar 6 u i)
          · exact fun D n d c u i=>zaj (k:=0) zo1 (zeV rfl (zam 3 u d)) dc (zam 6 u d) rfl rfl (zar 7 u i)
          · exact fun D n d c u i=>za3 (k:=1) hq5 underlying37 zjq (zeV rfl (zam 3 u d)) dc (zam 7 u d) (zam 8 u d) rfl rfl (zar 9 u i)
          · exact fun D n d c u i=>zaa zfA (zeV rfl (zam 3 u d)) dc (zam 9 u d) (show _=((k3:Int).toNat)*6+1 from rfl) (zar 10 u i)
          · exact fun D n d c u i=>zbD (i:=(k3:Int).toNat) (j:=1) (k:=1) (q:=q2) zbW zbN (zeV rfl (zam 3 u d)) dc (zam 10 u d) rfl (zbo hq5) rfl dc rfl (zar 11 u i)
          · exact fun D n d c u i=>zai (zeV rfl (zam 3 u d)) dc (zam 12 u d) (zar 13 u i)
          · exact fun D n d c u i=>zaa ziJ (zeV rfl (zam 3 u d)) dc (zam 13 u d) (show _=0 from rfl) (zar 14 u i)
          · exact fun D n d c u i=>zaj (k:=0) zo1 (zeV rfl (zam 3 u d)) dc (zam 14 u d) rfl rfl (zar 15 u i)
          · exact fun D n d c u i=>zb6 (zeV rfl (zam 3 u d)) dc (zam 16 u d) rfl (zce (r:=k3 - 1) (IntWalk.i64_in _ hg2)) (zar 17 u i)
          · exact fun D n d c u i=>za3 (k:=1) hq6 underlying37 zjq (zeV rfl (zam 3 u d)) dc (zam 15 u d) (zam 17 u d) rfl rfl (zar 18 u i)
          · exact fun D n d c u i=>zaa zfA (zeV rfl (zam 3 u d)) dc (zam 18 u d) (show _=((k3 - 1:Int).toNat)*6+1 from rfl) (zar 19 u i)
          · exact fun D n d c u i=>zbD (i:=(k3 - 1:Int).toNat) (j:=1) (k:=1) (q:=q3) zbW zbN (zeV rfl (zam 3 u d)) dc (zam 19 u d) rfl (zbo hq6) rfl dc rfl (zar 20 u i)
          refine zaS rfl zbH (zyR 1 rfl (zyN ?_))
          refine zyB rfl h (fun h => ?_) (fun h => ?_)
          ·
           refine zas (zyR 1 rfl ?_)
           refine zbA (v:=.agg #[zI (-1),zI 0,zI 0,zI 0,zI 0,.string ByteArray.empty]) (ps:=[(0,.const (zI (-1)))]) rfl dc rfl (fun _=>by kernel_rfl) ?_
           refine zbc (cs:=[zI (-1),zI 0,zI 0,zI 0,zI 0,.string ByteArray.empty]) (te:=43) (ps:=[(0,.tmp 82)]) rfl dc rfl (fun _=>by kernel_rfl) (fun b11 => ?_)
           obtain ⟨hg3,h⟩:=zbQ h
           refine zbx (k:=7) (k2:=9) (ys:=[(⟨(-1),0,0,0,0,ByteArray.empty⟩:zap)]) underlying37 zuf zbN zeW rfl dc rfl rfl rfl rfl rfl rfl hg3 (fun v2 => ?_)
           refine zbJ (k:=7) rfl (fun hd16 he2 => ?_)
           subst he2
           refine zyR 1 rfl (zaP ?_)
           exact zak (page4++[(⟨(-1),0,0,0,0,ByteArray.empty⟩:zap)],hd16) h rfl (zbf rfl) (zab [0,1,2,3,4,5,6,7,8] kr rfl)
          refine zal ?_
          exact zak (page4,hd14) h rfl (zbf rfl) (zab [0,1,2,3,4,5,6,7,8] kr rfl)
         have h:=zgU hb4 h
         refine zbB 21 [(0,58,zI k3),(1,59,zI from3),(2,60,.bool false),(3,61,.bool false),(4,62,undef),(5,63,undef),(6,64,undef),(7,65,undef),(8,66,undef),(9,67,undef),(10,68,undef),(11,69,undef),(12,70,undef),(13,71,undef),(14,72,undef),(15,73,undef),(16,74,undef),(17,75,undef),(18,76,undef),(19,77,undef),(20,78,undef)] mixed kr kr dc (by rfl) kr kr (zyP 2 0 rfl (zad ?_ (zyP 18 3 rfl DrawPre.nil))) ?_
         · exact fun D n d c u i=>zb6 rfl dc (zam 0 u d) (zam 1 u d) zc1 (zdF (show Value.bool (decide ((from3:Int)<k3))=Value.bool false from congrArg Value.bool hb4) (zar 2 u i))
         refine zyR 2 rfl (zyN (zaM rfl (zal ?_)))
         exact zak (page4,hd14) h rfl (zbf rfl) (zab [0,1,2,3,4,5,6,7,8] kr rfl)
        rintro ⟨page5,hd15⟩ h
        rw [hj4] at h
        refine zas (zyR 2 rfl (zai rfl dc rfl (zaa ziJ rfl dc rfl (show _=0 from rfl) (zaj (k:=0) zo1 rfl dc rfl rfl rfl (zyR 1 rfl ?_)))))
        obtain ⟨q4,hq7,h⟩:=zbL h
        refine za3 (k:=1) hq7 underlying37 zjq rfl dc rfl rfl rfl rfl (zgr (i:=(k3:Int).toNat) (j:=0) (k:=1) (q:=q4) (cs:=(zr4 q4)) zoo zbN rfl dc rfl rfl (zbo hq7) rfl rfl rfl ?_)
        refine zbc (cs:=(zr4 q4)) (te:=43) (ps:=[(0,.tmp 92)]) rfl dc rfl (fun _=>by kernel_rfl) (fun b12 => ?_)
        obtain ⟨hg4,h⟩:=zbQ h
        refine zbx (k:=7) (k2:=9) (ys:=[q4]) underlying37 zuf zbN zeW rfl dc rfl rfl rfl rfl rfl rfl hg4 (fun v3 => ?_)
        refine zbJ (k:=7) rfl (fun hd17 he3 => ?_)
        subst he3
        refine zyR 1 rfl (zaP (zae (zay (zas (zyR 1 rfl ?_)))))
        obtain ⟨hg5,h⟩:=zbQ h
        refine zaS rfl (zbb (r:=k3+1) (IntWalk.i64_in _ hg5)) (zyR 1 rfl (zaP ?_))
        subst hag2
        exact zbr (n2,page5++[q4],k3+1,hd17) h (Nat.lt_succ_self _) rfl (zbf rfl) (zab [0,1,2,3,4,5,6,7,8] kr rfl)
       refine zbu (zaq (zaq (zaJ ?_)))
       exact zak (q1,page4,hd14) h rfl (zbf rfl) (zab [0,1,2,3,4,5,6,7,8] kr rfl)
     rintro ⟨to1,page1,hd11⟩ h
     rw [hj3] at h
     refine zas (zyR 2 rfl (zai rfl dc rfl (zaa zmI rfl dc rfl (show _=4 from rfl) (zaj (k:=5) zu6 rfl dc rfl rfl rfl (zyR 1 rfl ?_)))))
     refine zbc (cs:=[hd11.v]) (te:=37) (ps:=[(0,.tmp 100)]) rfl dc rfl (fun _=>by kernel_rfl) (fun b13 => ?_)
     refine zeE (k:=6) rfl znk (fun zs1 hz1 => ?_)
     obtain ⟨hg6,h⟩:=zbQ h
     refine zbx (k:=6) (k2:=9) (ys:=[(page1,hd11)]) underlying87 zA0 zga zkh rfl dc rfl rfl rfl rfl rfl rfl (by rw [zx9 hz1]; exact hg6) (fun v4 => ?_)
     refine zbJ (k:=6) rfl (fun hd18 he4 => ?_)
     subst he4
     refine zfs (k:=10) rfl (zab [7] kr rfl) rfl (zpi (nest:=zbz) (zs:=zs1) (z:=(page1,hd11))) ?_
     refine zfs (k:=6) rfl (zab [10] kr rfl) rfl (ziR (enc:=zbp) (nest:=zbz) (zyv hz1)) ?_
     refine zcs (L':=[cells b5 [hd2.v,hd3.v,hd4.v,hd5.v,zI r2.2.heights] 85,zv1 hd2.v r2.2.rows,zv0 hd3.v r2.2.blanks,zv0 hd4.v r2.2.firsts,zv0 hd5.v r2.2.lasts,cells b6 [zI l1.Width,zI l1.Height,zI l1.Turn,zI l1.Every,hd9.v,zI (r2.1+r3.2)] 89,zgf zbp zbz 37 1 hd18.v (b9++[page1]),emp,zv0 hd6.v r3.1,cells b13 [hd11.v] 37]) (zab [0,1,2,3,4,5,6,7,8,9] kr rfl) (zyR 1 rfl (zai rfl dc rfl (zaa zmI rfl dc rfl (show _=4 from rfl) ?_)))
     refine zaT (k:=5) (l':=[zI l1.Width,zI l1.Height,zI l1.Turn,zI l1.Every,hd18.v,zI (r2.1+r3.2)]) zz2 rfl rfl rfl rfl rfl (fun _ _=>rfl) rfl ?_
     refine zyR 1 rfl (zaP (zae ?_))
     exact zak (b9++[page1],to1,hd18) h rfl (zbf rfl) (zab [0,1,2,3,4,5,6,8] kr rfl)
    rintro ⟨b10,from4,hd10⟩ h
    rw [hj2] at h
    refine zas ?_
    obtain ⟨hg7,h⟩:=zbQ h
    refine zaS rfl (zbb (r:=x4+1) (IntWalk.i64_in _ hg7)) (zyR 1 rfl (zaP ?_))
    subst hag1
    exact zbr (n1,b10,from4,x4+1,hd10) h (Nat.lt_succ_self _) rfl (zbf rfl) (zab [0,1,2,3,4,5,6,7] kr rfl)
   refine zbu (zaq (zaq (zaJ ?_)))
   exact zak (b9,r2.1+r3.2,b6,hd9) h rfl (zbf rfl) (zab [5,6] kr rfl)
 rintro ⟨b3,b4,b2,hd1⟩ h
 rw [hj1] at h
 refine zyG (zyR 3 rfl (zyN (zau ?_)))
 refine zqX (As:=[cells b2 [zI l1.Width,zI l1.Height,zI l1.Turn,zI l1.Every,hd1.v,zI b4] 89,zgf zbp zbz 37 1 hd1.v b3]) (zab [0,1] kr rfl) (zk9 (enc:=zff) (nest:=zfb) (t:=89) (x:=(⟨l1.Width,l1.Height,l1.Turn,l1.Every,b3,b4⟩:zb5)) (b:=b2) (hd:=hd1)) (fun _ _ => ?_)
 cases h
 exact zbt (rs:=[.tmp 4,.tmp 5]) (zP b2) (.inl rfl) results6 (.cons (.tmp rfl) (.cons (.tmp rfl) .nil)) rfl (zab [2] kr rfl)
def zfn (b1:zb5):Option Int := some (b1.pages.length:Int)
theorem zjX {bb1:Nat} {b1:zb5} {b1_h0:Hd} {r:Int} (h:zfn b1=some r):FnR prog 8 [zP bb1] [cells bb1 [zI b1.layout_Width,zI b1.layout_Height,zI b1.layout_Turn,zI b1.layout_Every,b1_h0.v,zI b1.cost] 89,zgf zbp zbz 37 1 b1_h0.v b1.pages] [] (fun _:Unit=>(zI r)) (fun _=>[]):=by
 unfold zfn at h
 refine FnR.intro func8 rfl ntmps8 (by simp) ?_
 intro w0 K hrd
 refine zyG (zyR 1 rfl (zyN (zaE (zyG (zyR 1 rfl (zaS rfl (zcq underlying34) (zyN (zaM rfl (zal ?_)))))))))
 refine zay (zyG (zyR 1 rfl (zai rfl dc rfl (zaa zmI rfl dc rfl (show _=4 from rfl) (zbs (i:=0) hrd rfl zu6 rfl dc rfl rfl ?_)))))
 obtain ⟨zs1,hz1,hV1,hrd⟩:=hrd.openN (i:=1) rfl zga ziE
 replace hrd:Rd _ _ [cells bb1 [zI b1.layout_Width,zI b1.layout_Height,zI b1.layout_Turn,zI b1.layout_Every,b1_h0.v,zI b1.cost] 89,zgf zbp zbz 37 1 b1_h0.v b1.pages,zeJ zbp 1 b1_h0.v 0 zs1,zhU zeC zs1]:=hrd
 refine zhi hz1 hV1 rfl dc rfl underlying87 (zyR 1 rfl (zyN (zau ?_)))
 cases h
 exact za2 2 results8
theorem zwd {z:List Row} {k:Nat} (ih:∀ vs:List zax,vs.map zmv=(zfc (k+1) z).map zkJ→Stp ((k+1:Nat):Int) vs):∀ (r:Row) (j:Nat) (vs:List zax),vs.map zmv=((zgL j r).map (fun p=>(k,p))++zfc (k+1) z).map zkJ→Stp ((k+1:Nat):Int) vs
 | [],j,vs,h=>ih vs h
 | x::r,j,[],h=>trivial
 | x::r,j,v::vs,h=>by
  obtain ⟨h1,h2⟩:=List.cons.inj (show zmv v::vs.map zmv=zkJ (k,j,x)::((zgL (j+1) r).map (fun p=>(k,p))++zfc (k+1) z).map zkJ from h)
  have hs:v.Stanza=(k:Int):=congrArg (fun q=>q.2.2.1) h1
  refine ⟨.inr ⟨by omega,by omega⟩,?_⟩
  rw [hs,show (k:Int)+1=((k+1:Nat):Int) by omega]
  exact zwd ih r (j+1) vs h2
theorem zre:∀ (z:List Row) (k:Nat) (vs:List zax),(∀ r∈z,r≠[])→vs.map zmv=(zfc k z).map zkJ→Stp (k:Int) vs
 | [],k,vs,_,h=>by
  have:vs=[]:=by simpa [zfc] using h
  rw [this]; trivial
 | []::z,k,vs,hne,h=>absurd rfl (hne [] (List.mem_cons_self ..))
 | (x::r)::z,k,[],hne,h=>trivial
 | (x::r)::z,k,v::vs,hne,h=>by
  obtain ⟨h1,h2⟩:=List.cons.inj (show zmv v::vs.map zmv=zkJ (k,0,x)::((zgL 1 r).map (fun p=>(k,p))++zfc (k+1) z).map zkJ from h)
  have hs:v.Stanza=(k:Int):=congrArg (fun q=>q.2.2.1) h1
  refine ⟨.inl hs,?_⟩
  rw [hs,show (k:Int)+1=((k+1:Nat):Int) by omega]
  exact zwd (fun vs h=>zre z (k+1) vs (fun r hr=>hne r (List.mem_cons_of_mem _ hr)) h) r 1 vs h2
theorem zut (n:Nat):zje (List.replicate n 32)=true:=by
 unfold zje
 rw [List.all_eq_true]
 intro b hb
 rw [(List.mem_replicate.1 hb).2]; rfl
theorem OkP.okV {p:zaC} {t:List UInt8} {z:List Row} (h:OkP p t z):∀ v∈p.told_lines,OkV v:=by
 intro v hv
 obtain ⟨i,hi⟩:=List.getElem?_of_mem hv
 have hk:(p.told_lines.map zmv)[i]?=some (zmv v):=by rw [List.getElem?_map,hi]; rfl
 rw [show p.told_lines.map zmv=(zfc 0 z).map zkJ from h.vok,List.getElem?_map] at hk
 obtain ⟨q,hq,he⟩:=Option.map_eq_some_iff.1 hk
 obtain ⟨r,hr,hx⟩:=zmu z 0 q (List.mem_of_getElem? hq)
 have hg:=h.ln r hr _ hx
 have e1:v.Text=mkB (q.2.2.drop (ind q.2.2)):=(congrArg (fun q=>q.1) he).symm
 have e2:v.Indent=(ind q.2.2:Int):=(congrArg (fun q=>q.2.1) he).symm
 have hle:=ztU q.2.2
 have hl:=hg.le
 refine ⟨?_,?_,?_⟩
 ·rw [e1,zcr,List.length_drop]; omega
 ·rw [e1,zcr]
  cases hd:q.2.2.drop (ind q.2.2) with
  | nil =>
   have:=ziC q.2.2
   rw [hd,List.append_nil] at this
   have hb:=hg.bl
   rw [← this,zut] at hb
   cases hb
  | cons b l=>simp
 ·rw [e2]; omega
theorem OkP.stp {p:zaC} {t:List UInt8} {z:List Row} (h:OkP p t z):Stp 0 p.told_lines:=zre z 0 p.told_lines h.ne h.vok
def zrT:zap:=⟨-1,0,0,0,0,ByteArray.empty⟩
def pgL:Option Int→List zap→List zap
 | _,[]=>[]
 | none,r::rs=>r::pgL (some r.Stanza) rs
 | some s,r::rs=>if r.Stanza=s then r::pgL (some r.Stanza) rs else zrT::r::pgL (some r.Stanza) rs
theorem zgP (s:Int) (r:zap) (rs:List zap):pgL (some s) (r::rs)=if r.Stanza=s then r::pgL (some r.Stanza) rs else zrT::r::pgL (some r.Stanza) rs:=rfl
def zg5 (rows:List zap):Nat→List Nat→List (List zap)
 | _,[]=>[]
 | f,t::ts=>pgL none ((rows.drop f).take (t - f))::zg5 rows t ts
def zk2 (l:zaO) (vs:List zax):zb5:=⟨l.Width,l.Height,l.Turn,l.Every,zg5 (zdq l 0 vs) 0 (zkW (zdq l 0 vs) l.Height),zkZ l vs+(Tt (zdq l 0 vs) l.Height 0).cost⟩
theorem znL (rows:List zap):∀ (ts:List Nat) (f:Nat),(zg5 rows f ts).length=ts.length
 | [],_=>rfl
 | t::ts,f=>by show (zg5 rows t ts).length+1=_; rw [znL rows ts]; rfl
theorem zqn:∀ (l:List zap) (o:Option Int),(pgL o l).length≤2*l.length
 | [],o=>by cases o <;> exact Nat.le_refl _
 | r::rs,none=>by have:=zqn rs (some r.Stanza); show (pgL (some r.Stanza) rs).length+1≤_; rw [List.length_cons]; omega
 | r::rs,some s=>by
  have:=zqn rs (some r.Stanza)
  unfold pgL
  split <;> simp only [List.length_cons] <;> omega
theorem zyU {rows:List zap} (hn:rows.length≤1000000) (c H:Int) (Bl F L:List Int) (f:Nat) (j3:Int→(List zap)→Option ((Option zb5)×Int)) (t:Nat) (ht:t≤rows.length) :
  ∀ (d k m:Nat) (pg:List zap),f≤k→k+d=t→d<m→pg.length≤2*(k - f)→za1 (fun _ _=>none) (zeu (c,(⟨rows,Bl,F,L,H⟩:za0)) (f:Int) j3 (t:Int)) m pg (k:Int)=j3 (t:Int) (pg++pgL (if f<k then some (stz rows (k - 1)) else none) ((rows.drop k).take (t - k))):=by
 intro d
 induction d with
 | zero =>
  intro k m pg hf hk hm hp
  obtain ⟨m,rfl⟩:∃ q,m=q+1:=⟨m - 1,by omega⟩
  rw [zen]
  generalize za1 (fun _ _=>none) (zeu (c,(⟨rows,Bl,F,L,H⟩:za0)) (f:Int) j3 (t:Int)) m=ag
  unfold zeu
  refine zaK (decide_eq_false (by omega)) ?_
  have e:(rows.drop k).take (t - k)=[]:=by rw [show t - k=0 by omega,List.take_zero]
  have e2:∀ o,pgL o []=[]:=fun o=>by cases o <;> rfl
  rw [e,e2,List.append_nil]
 | succ d ih =>
  intro k m pg hf hk hm hp
  obtain ⟨m,rfl⟩:∃ q,m=q+1:=⟨m - 1,by omega⟩
  rw [zen]
  have ih':=fun pg h=>ih (k+1) m pg (by omega) (by omega) (by omega) h
  generalize za1 (fun _ _=>none) (zeu (c,(⟨rows,Bl,F,L,H⟩:za0)) (f:Int) j3 (t:Int)) m=ag at ih' ⊢
  have hr:rows[k]?=some rows[k]:=List.getElem?_eq_getElem (by omega)
  have hst:=zjr hr
  have hd:(rows.drop k).take (t - k)=rows[k]::(rows.drop (k+1)).take (t - (k+1)):=by
   rw [List.drop_eq_getElem_cons (show k<rows.length by omega),show t - k=t - (k+1)+1 by omega,List.take_succ_cons]
  rw [hd]
  rw [if_pos (show f<k+1 by omega),show k+1 - 1=k by omega,hst,show ((k+1:Nat):Int)=(k:Int)+1 by omega] at ih'
  have fin:∀ pg':List zap,pg'.length+1≤2*(k+1 - f)→(zan (zdf rows (k:Int)) fun (q4:zap)=>grd (pg'.length+1≤2147483648)<|grd (I64 ((k:Int)+1))<|ag (pg'++[q4]) ((k:Int)+1))=j3 (t:Int) (pg'++rows[k]::pgL (some rows[k].Stanza) ((rows.drop (k+1)).take (t - (k+1)))):=by
   intro pg' hp'
   refine za7 (zeD hr) (zcm (by omega) (zcm ⟨by omega,by omega⟩ ?_))
   rw [ih' _ (by rw [List.length_append,List.length_singleton]; omega),List.append_assoc]; rfl
  unfold zeu
  refine zaR (decide_eq_true (by omega)) (zcj ?_)
  by_cases h0:f<k
  ·have hr0:rows[k - 1]?=some rows[k - 1]:=List.getElem?_eq_getElem (by omega)
   have hst0:=zjr hr0
   rw [if_pos h0,hst0]
   refine zaR (decide_eq_true (by omega)) (za7 (zeD hr) (zcm ⟨by omega,by omega⟩ (za7 (zfy (n:=k - 1) (by omega) hr0) ?_)))
   by_cases he:rows[k].Stanza=rows[k - 1].Stanza
   ·refine zaK (zAe he) ((fin pg (by omega)).trans ?_)
    rw [zgP,if_pos he]
   ·refine zaR (zAd he) (zcm (by omega) ((fin _ (by rw [List.length_append,List.length_singleton]; omega)).trans ?_))
    rw [zgP,if_neg he,List.append_assoc]; rfl
  ·rw [if_neg h0]
   refine zaK (decide_eq_false (by omega)) ((fin pg (by omega)).trans ?_)
   rfl
theorem zte {rows:List zap} (hn:rows.length≤1000000) (c c2 H:Int) (Bl F L:List Int) (R:Nat→Nat→Bool) (j1:(List (List zap))→Int→Option ((Option zb5)×Int)) (E:List Nat) :
  ∀ (ts pre:List Nat) (f m:Nat) (out:List (List zap)),E=pre++ts→zq2 R rows.length f ts→ts.length<m→out.length≤f→out.length=pre.length →
  za1 (fun _ _ _=>none) (zev j1 (c,(⟨rows,Bl,F,L,H⟩:za0)) (E.map (fun t=>((t:Nat):Int)),c2)) m out (f:Int) (pre.length:Int)=j1 (out++zg5 rows f ts) (c+c2)
 | [],pre,f,m,out,hE,hr,hm,ho,hp=>by
  obtain ⟨m,rfl⟩:∃ q,m=q+1:=⟨m - 1,by simp at hm; omega⟩
  rw [zen]
  generalize za1 (fun _ _ _=>none) (zev j1 (c,(⟨rows,Bl,F,L,H⟩:za0)) (E.map (fun t=>((t:Nat):Int)),c2)) m=ag
  unfold zev
  refine zaK (decide_eq_false (by rw [List.length_map,hE]; simp)) ?_
  show j1 out (c+c2)=j1 (out++[]) (c+c2)
  rw [List.append_nil]
 | t::ts,pre,f,m,out,hE,hr,hm,ho,hp=>by
  obtain ⟨m,rfl⟩:∃ q,m=q+1:=⟨m - 1,by simp at hm; omega⟩
  obtain ⟨r1,r2,_,r3⟩:=hr
  have ih:=zte hn c c2 H Bl F L R j1 E ts (pre++[t]) t m (out++[pgL none ((rows.drop f).take (t - f))]) (by rw [hE]; simp) r3 (by simp at hm; omega) (by simp; omega) (by simp; omega)
  have hpl:pre.length<E.length:=by rw [hE]; simp
  rw [zen]
  generalize za1 (fun _ _ _=>none) (zev j1 (c,(⟨rows,Bl,F,L,H⟩:za0)) (E.map (fun t=>((t:Nat):Int)),c2)) m=ag at ih ⊢
  have hg:(E.map (fun t=>((t:Nat):Int)))[pre.length]?=some (t:Int):=by rw [List.getElem?_map,hE]; simp
  rw [show (((pre++[t]).length:Nat):Int)=(pre.length:Int)+1 by simp] at ih
  unfold zev
  refine zaR (zss hg) (zcj (zcj (za7 (zeD hg) ?_)))
  have hin:=zyU hn c H Bl F L f (fun (to1:Int) (page1:List zap)=>grd (out.length+1≤2147483648)<|grd (I64 ((pre.length:Int)+1))<|ag (out++[page1]) to1 ((pre.length:Int)+1)) t r2 (t - f) f zcD [] (Nat.le_refl _) (by omega) (zdI (by omega)) (Nat.zero_le _)
  refine hin.trans ?_
  rw [if_neg (Nat.lt_irrefl f),List.nil_append]
  refine zcm (by omega) (zcm ⟨by omega,by omega⟩ ?_)
  rw [ih,List.append_assoc]; rfl
theorem zzK {rows:List zap} {F L:List Int} {H:Int} (hR:zm0 rows F L) (hH:4≤H∧H≤200) (f:Nat):0≤(Tt rows H f).cost∧(Tt rows H f).cost≤2000000000000*1000000:=by
 have hok:=zp2 (R:=Rp rows H) (K:=Kp rows H) (n:=rows.length) (zn4 hR hH) rows.length f
 obtain ⟨a,b,_⟩:=hok
 have hn:=hR.n
 refine ⟨a,?_⟩
 show (Bf (Rp rows H) (Kp rows H) rows.length rows.length f).cost≤_
 omega
theorem znM {l:zaO} (h:zku l=true):4≤l.Height∧l.Height≤200:=by
 unfold zku at h
 simp only [Bool.and_eq_true,decide_eq_true_eq] at h
 omega
theorem zA5 (l:zaO) (p:zaC) (hv:∀ v∈p.told_lines,OkV v) (hl:p.told_lines.length≤512) (hst:Stp 0 p.told_lines):zhK p l=if zku l=true then some (some (zk2 l p.told_lines),0) else some (none,2):=by
 unfold zhK
 refine za7 (zxf l) ?_
 cases hm:zku l with
 | false=>exact zaR rfl rfl
 | true =>
  rw [if_pos rfl]
  have hR:=zoq hm p.told_lines hv hl hst
  have hH:=znM hm
  have hn:=hR.n
  have c1:=zpH hm p.told_lines hv
  have c2:=zzK hR hH 0
  refine zaK rfl (zcj (za7 (zxi l hm p l.Height hv hl hst) (za7 (zxe hR hH) (zcm ?_ ?_))))
  ·show I64 (zkZ l p.told_lines+(Tt (zdq l 0 p.told_lines) l.Height 0).cost)
   exact ⟨by omega,by omega⟩
  ·have hr:=zi1 (R:=Rp (zdq l 0 p.told_lines) l.Height) (K:=Kp (zdq l 0 p.told_lines) l.Height) (n:=(zdq l 0 p.told_lines).length) (zn4 hR hH) (zpZ hH) (zdq l 0 p.told_lines).length 0 (Nat.zero_le _) (by omega)
   have hlen:(zkW (zdq l 0 p.told_lines) l.Height).length≤(zdq l 0 p.told_lines).length:=by
    have key:∀ (ts:List Nat) (f:Nat),zq2 (Rp (zdq l 0 p.told_lines) l.Height) (zdq l 0 p.told_lines).length f ts→f+ts.length≤(zdq l 0 p.told_lines).length:=by
     intro ts
     induction ts with
     | nil=>intro f h; have:f=_:=h; simp; omega
     | cons t ts ih=>intro f h; obtain ⟨a,b,_,d⟩:=h; have:=ih t d; rw [List.length_cons]; omega
    have h9:=key _ _ hr
    have h8:(zkW (zdq l 0 p.told_lines) l.Height).length≤(zdq l 0 p.told_lines).length:=by rw [Nat.zero_add] at h9; exact h9
    exact h8
   exact zte hn (zkZ l p.told_lines) (Tt (zdq l 0 p.told_lines) l.Height 0).cost l.Height _ _ _ _ (fun (b3:List (List zap)) (b4:Int)=>some ((some (⟨l.Width,l.Height,l.Turn,l.Every,b3,b4⟩:zb5)),0)) (zkW (zdq l 0 p.told_lines) l.Height) (zkW (zdq l 0 p.told_lines) l.Height) [] 0 zcD [] rfl hr (zdI (n:=(zkW (zdq l 0 p.told_lines) l.Height).length) (by omega)) (Nat.le_refl _) rfl
theorem zw7 {U:List UInt8} {e:zbS} (h:rd U=.error e):e.Err=3:=by
 have key:∀ (xs:List (Nat×List UInt8)) (st:RS),zeR st xs=.error e→e.Err=3:=by
  intro xs
  induction xs with
  | nil=>intro st h; cases h
  | cons x xs ih =>
   intro st h
   unfold zeR at h
   cases hs:zgh st x with
   | ok s1=>rw [hs] at h; exact ih s1 h
   | error e' =>
    rw [hs] at h
    have:e'=e:=by cases h; rfl
    subst this
    unfold zgh at hs
    split at hs
    ·cases hs
    split at hs
    ·cases hs; rfl
    split at hs
    ·cases hs
    split at hs
    ·cases hs; rfl
    ·cases hs
 unfold rd at h
 split at h
 ·cases h; rfl
 ·exact key _ _ h
structure zBB (vs:List zax):Prop where
 ok:∀ v∈vs,OkV v
 len:vs.length≤60
 stp:Stp 0 vs
 sz:∀ v∈vs,v.Text.size≤200
def k3 (v:zax):zBA×Int×Int:=(v.Text,v.Indent,v.Stanza)
theorem zmg (a b:Nat):∀ (L L':List LnE) (i:Nat) (x:List Row×Int),L.map (fun p=>(p.1,p.2.2))=L'.map (fun p=>(p.1,p.2.2))→zgI a b i L x=zgI a b i L' x
 | [],[],i,x,h=>rfl
 | [],q::L',i,x,h=>by cases h
 | p::L,[],i,x,h=>by cases h
 | p::L,q::L',i,x,h=>by
  rw [List.map_cons,List.map_cons] at h
  obtain ⟨h1,h2⟩:=List.cons.inj h
  have e1:p.1=q.1:=(Prod.mk.inj h1).1
  have e2:p.2.2=q.2.2:=(Prod.mk.inj h1).2
  unfold zgI
  rw [e1,e2]
  simp only [zmg a b L L' (i+1) _ h2]
theorem zxk {p q:LnE} (h:(zkJ p).1=(zkJ q).1∧(zkJ p).2.1=(zkJ q).2.1∧(zkJ p).2.2.1=(zkJ q).2.2.1):(p.1,p.2.2)=(q.1,q.2.2):=by
 obtain ⟨h1,h2,h3⟩:=h
 have e1:=zkI h1
 have e2:(ind p.2.2:Int)=(ind q.2.2:Int):=h2
 have e3:(p.1:Int)=(q.1:Int):=h3
 have e4:p.2.2=q.2.2:=by
  rw [← ziC p.2.2,← ziC q.2.2,e1,show ind p.2.2=ind q.2.2 by omega]
 rw [e4,show p.1=q.1 by omega]
theorem znQ:∀ (L L':List LnE) (vs vs':List zax),vs.map zmv=L.map zkJ→vs'.map zmv=L'.map zkJ→vs.map k3=vs'.map k3→L.map (fun p=>(p.1,p.2.2))=L'.map (fun p=>(p.1,p.2.2))
 | [],[],vs,vs',h1,h2,h3=>rfl
 | [],q::L',vs,vs',h1,h2,h3=>by
  have e1:=congrArg List.length h1; have e2:=congrArg List.length h2; have e3:=congrArg List.length h3
  simp at e1 e2 e3; rw [e1] at e3; simp at e3; rw [← e3] at e2; simp at e2
 | p::L,[],vs,vs',h1,h2,h3=>by
  have e1:=congrArg List.length h1; have e2:=congrArg List.length h2; have e3:=congrArg List.length h3
  simp at e1 e2 e3; rw [e2] at e3; simp at e3; rw [e3] at e1; simp at e1
 | p::L,q::L',vs,vs',h1,h2,h3=>by
  cases vs with
  | nil=>cases h1
  | cons v vs =>
   cases vs' with
   | nil=>cases h2
   | cons v' vs' =>
    rw [List.map_cons,List.map_cons] at h1 h2 h3
    obtain ⟨a1,b1⟩:=List.cons.inj h1
    obtain ⟨a2,b2⟩:=List.cons.inj h2
    obtain ⟨a3,b3⟩:=List.cons.inj h3
    rw [List.map_cons,List.map_cons,znQ L L' vs vs' b1 b2 b3]
    congr 1
    refine zxk ⟨?_,?_,?_⟩
    ·rw [← a1,← a2]; exact congrArg (fun x=>x.1) a3
    ·rw [← a1,← a2]; exact congrArg (fun x=>x.2.1) a3
    ·rw [← a1,← a2]; exact congrArg (fun x=>x.2.2) a3
theorem zsT {z z':List Row} (h1:∀ r∈z,r≠[]) (h2:∀ r∈z',r≠[]) (h:(zfc 0 z).map (fun p=>(p.1,p.2.2))=(zfc 0 z').map (fun p=>(p.1,p.2.2))):z=z':=by
 have e:=zmg 0 (tot z+tot z') _ _ 0 ([],-1) h
 have a:=ziw 0 (tot z+tot z') z 0 0 [] (-1) (by omega)
 have b:=ziw 0 (tot z+tot z') z' 0 0 [] (-1) (by omega)
 rw [zkk _ z 0 h1 (by omega)] at a
 rw [zkk _ z' 0 h2 (by omega)] at b
 rw [e] at a
 have:[]++z=[]++z':=a.symm.trans b
 simpa using this
theorem zAf {p q:zaC} {t t':List UInt8} {z:List Row} (hp:OkP p t z) (hq:OkP q t' z):p.told_lines.map k3=q.told_lines.map k3:=by
 have h:=hp.vok.trans hq.vok.symm
 have:=congrArg (List.map fun x:zBA×Int×Int×Int=>(x.1,x.2.1,x.2.2.1)) h
 rw [List.map_map,List.map_map] at this
 exact this
instance {a b:List (zBA×Int×Int)}:Decidable (a=b):=inferInstance
theorem ztn (p q:zaC) (hl:p.told_lines.length=q.told_lines.length) (hb:p.told_lines.length≤1000):∀ (n i:Nat),i≤p.told_lines.length→p.told_lines.length - i<n →
  za1 (fun _=>none) (zdc p q (some true)) n (i:Int)=some (decide ((p.told_lines.drop i).map k3=(q.told_lines.drop i).map k3)):=by
 intro n
 induction n with
 | zero=>intro i h1 h2; omega
 | succ n ih =>
  intro i hi hn
  rw [zdv]
  obtain ⟨ag,hag⟩:∃ ag,ag=za1 (fun _=>none) (zdc p q (some true)) n:=⟨_,rfl⟩
  rw [← hag] at ih ⊢
  unfold zdc
  rcases Nat.lt_or_ge i p.told_lines.length with h | h
  ·have h':i<q.told_lines.length:=by omega
   have hd:=List.drop_eq_getElem_cons h
   have hd':=List.drop_eq_getElem_cons h'
   rw [hd,hd',List.map_cons,List.map_cons]
   refine zaR (decide_eq_true (by omega)) (za7 (zcY (List.getElem?_eq_getElem h)) (za7 (zcY (List.getElem?_eq_getElem h')) ?_))
   generalize p.told_lines[i]=v
   generalize q.told_lines[i]=v'
   by_cases h1:v.Text=v'.Text
   ·refine zaK (by rw [decide_eq_true h1]; rfl) ?_
    by_cases h2:v.Indent=v'.Indent
    ·refine zaK (by rw [h2]; exact bne_self_eq_false _) ?_
     by_cases h3:v.Stanza=v'.Stanza
     ·refine zaK (by rw [h3]; exact bne_self_eq_false _) (zcm ⟨by omega,by omega⟩ ?_)
      rw [show (i:Int)+1=((i+1:Nat):Int) by omega,ih (i+1) (by omega) (by omega)]
      have:k3 v=k3 v':=by unfold k3; rw [h1,h2,h3]
      rw [this]
      congr 1
      exact (decide_eq_decide.2 ⟨fun e=>by rw [e],fun e=>(List.cons.inj e).2⟩)
     ·refine zaR (bne_iff_ne.2 h3) ?_
      rw [decide_eq_false (fun e=>h3 (congrArg (fun x:zBA×Int×Int=>x.2.2) (List.cons.inj e).1))]
    ·refine zaR (bne_iff_ne.2 h2) ?_
     rw [decide_eq_false (fun e=>h2 (congrArg (fun x:zBA×Int×Int=>x.2.1) (List.cons.inj e).1))]
   ·refine zaR (by rw [decide_eq_false h1]; rfl) ?_
    rw [decide_eq_false (fun e=>h1 (congrArg (fun x:zBA×Int×Int=>x.1) (List.cons.inj e).1))]
  ·rw [List.drop_eq_nil_of_le h,List.drop_eq_nil_of_le (by omega)]
   exact zaK (decide_eq_false (by omega)) rfl
theorem zyX {p q:zaC} {t t':List UInt8} {z z':List Row} (hp:OkP p t z) (hq:OkP q t' z'):zee p q=some (decide (t=t'∧z=z')):=by
 unfold zee
 have m1:=hp.most
 have m2:=hq.most
 have l1:=hp.len
 have l2:=hq.len
 by_cases ht:t=t'
 ·refine zaK (by rw [hp.title,hq.title,ht]; simp) ?_
  by_cases hl:p.told_lines.length=q.told_lines.length
  ·refine zaK (by rw [hl]; exact bne_self_eq_false _) (zcj ?_)
   have:=ztn p q hl (by omega) zcD 0 (Nat.zero_le _) (by unfold zcD; omega)
   rw [List.drop_zero,List.drop_zero] at this
   refine this.trans ?_
   congr 1
   refine decide_eq_decide.2 ⟨fun e=>⟨ht,zsT hp.ne hq.ne (znQ _ _ _ _ hp.vok hq.vok e)⟩,fun e => ?_⟩
   have hz:=e.2
   subst hz
   exact zAf hp hq
  ·refine zaR (bne_iff_ne.2 (by omega)) ?_
   rw [decide_eq_false (fun e=>hl (by rw [l1,l2,e.2]))]
 ·refine zaR (by rw [hp.title,hq.title,decide_eq_false (fun e=>ht (zkI e))]; rfl) ?_
  rw [decide_eq_false (fun e=>ht e.1)]
theorem zxj {p:zaC} {i:Nat} {v:zax} (h:p.told_lines[i]?=some v):zeS p (i:Int)=some (v,0):=by
 have hl:=(List.getElem?_eq_some_iff.1 h).1
 unfold zeS
 exact zaK (decide_eq_false (by omega)) (zaK (decide_eq_false (by omega)) (za7 (zcY h) rfl))
def zwE (l:List UInt8):Bool:=!(l.any isE)&&(decide (l.length≤1024)&&!zje l)
theorem ztM (l:List UInt8) (n:Nat):zsP (mkB l) (n:Int)=(decide (l.length≤n)&&!(l.any isE)):=by
 unfold zsP zn0
 rw [zhW,zcr]
 congr 1
 exact decide_eq_decide.2 (by omega)
theorem zrV {R α:Type} {F:(Int→Option R)→Int→Option R} (r:List α) (f:α→Bool) (E J:Option R) (hs:∀ ag (i:Nat) x,r[i]?=some x→F ag (i:Int)=if f x=true then ag ((i+1:Nat):Int) else E) (he:∀ ag,F ag (r.length:Int)=J) :
  ∀ n i,i≤r.length→r.length - i<n→za1 (fun _=>none) F n (i:Int)=if (r.drop i).all f=true then J else E:=by
 intro n
 induction n with
 | zero=>intro i h1 h2; omega
 | succ n ih =>
  intro i hi hn
  rw [zdv]
  rcases Nat.lt_or_ge i r.length with h | h
  ·rw [hs _ i _ (List.getElem?_eq_getElem h),ih (i+1) (by omega) (by omega),List.drop_eq_getElem_cons h,List.all_cons]
   cases f r[i] <;> simp
  ·obtain rfl:i=r.length:=by omega
   rw [he,List.drop_length]; rfl
def zsh (r:Row):Bool:=!r.isEmpty&&r.all zwE
theorem zy4 (t:List UInt8) (z:List Row) (hz:z.length≤140737488355328) (hr:∀ r∈z,r.length≤140737488355328∧∀ x∈r,x.length≤140737488355328):zfO (mkB t) (mkZ z)=if zsP (mkB t) 1022=true then (if z.all zsh=true then zes (mkB t) (mkZ z) else some (none,170)) else some (none,170):=by
 unfold zfO
 cases ht:zsP (mkB t) 1022 with
 | false=>exact zaR rfl rfl
 | true =>
  rw [if_pos rfl]
  refine zaK rfl (zcj ?_)
  have key:∀ J:Option ((Option zaC)×Int),za1 (fun _=>none) (zek (mkZ z) J) zcD 0=if z.all zsh=true then J else some (none,170):=fun J=>by
   have:=zrV (F:=zek (mkZ z) J) z zsh (some (none,170)) J (fun ag i r hi => ?_) (fun ag => ?_) zcD 0 (Nat.zero_le _) (by unfold zcD; omega)
   ·rw [List.drop_zero] at this; exact this
   ·unfold zek
    have hil:=(List.getElem?_eq_some_iff.1 hi).1
    have hg:zdf (mkZ z) (i:Int)=some (r.map mkB):=zcY (by unfold mkZ; rw [List.getElem?_map,hi]; rfl)
    obtain ⟨hrl,hrx⟩:=hr r (List.mem_of_getElem? hi)
    refine zaR (decide_eq_true (by show (i:Int)<((mkZ z).length:Int); rw [zgK]; omega)) (zcj (za7 hg ?_))
    have go:(grd (I64 ((i:Int)+1))<|ag ((i:Int)+1))=ag ((i+1:Nat):Int):=zcm ⟨by omega,by omega⟩ (by rw [show (i:Int)+1=((i+1:Nat):Int) by omega])
    rw [go]
    cases r with
    | nil=>exact zaR rfl rfl
    | cons y r =>
     refine zaK (by rw [List.length_map]; exact beq_eq_false_iff_ne.2 (by rw [List.length_cons]; omega)) ?_
     have hin:=zrV (F:=zeL (ag ((i+1:Nat):Int)) ((y::r).map mkB)) (y::r) zwE (some (none,170)) (ag ((i+1:Nat):Int)) (fun ag2 k x hk => ?_) (fun ag2 => ?_) zcD 0 (Nat.zero_le _) (by unfold zcD; omega)
     ·rw [List.drop_zero] at hin
      refine hin.trans ?_
      unfold zsh
      simp
     ·unfold zeL
      have hkl:=(List.getElem?_eq_some_iff.1 hk).1
      have hgk:zdf ((y::r).map mkB) (k:Int)=some (mkB x):=zcY (by rw [List.getElem?_map,hk]; rfl)
      have hxl:=hrx x (List.mem_of_getElem? hk)
      refine zaR (decide_eq_true (by rw [List.length_map]; omega)) (za7 hgk ?_)
      have hmay:=ztM x 1024
      rw [show ((1024:Nat):Int)=1024 from rfl] at hmay
      cases hm:zsP (mkB x) 1024 with
      | false =>
       have:zwE x=false:=by
        unfold zwE
        rw [hmay] at hm
        cases h1:decide (x.length≤1024) <;> cases h2:x.any isE <;> simp_all
       rw [this]; exact zaR rfl rfl
      | true =>
       refine zaK rfl (za7 (zud x (by omega)) ?_)
       have:zwE x=!zje x:=by
        unfold zwE
        rw [hmay,Bool.and_eq_true] at hm
        rw [hm.1,hm.2]; simp
       rw [this]
       cases zje x with
       | true=>exact zaR rfl rfl
       | false=>exact zaK rfl (zcm ⟨by omega,by omega⟩ (by rw [show (k:Int)+1=((k+1:Nat):Int) by omega]; rfl))
     ·unfold zeL
      exact zaK (decide_eq_false (by rw [List.length_map]; omega)) rfl
   ·unfold zek
    exact zaK (decide_eq_false (by show ¬ (z.length:Int)<((mkZ z).length:Int); rw [zgK]; omega)) rfl
  rw [key]
  generalize zes (mkB t) (mkZ z)=o
  cases o <;> rfl
theorem ztO {t:List UInt8} {z:List Row} (h:GoodP t z) (hn:tot z≤512) (hl:65536<(prT t z).length):zes (mkB t) (mkZ z)=some (none,3):=by
 have hwt:=zq4 z fun r hr x hx=>(h.ln r hr x hx).le
 have h4:=znz z h.ne
 have h5:=h.tL
 rw [zwp t z h.ne (by omega),if_pos (.inr hl)]
theorem zvo {l:List UInt8} (h:GLn l):zwE l=true:=by
 unfold zwE
 have h1:l.any isE=false:=by
  rw [List.any_eq_false]
  intro b hb
  have:=h.ne b hb
  simpa using this
 rw [h1,h.bl,decide_eq_true h.le]; rfl
theorem ztN {t:List UInt8} {z:List Row} (h:GoodP t z) (hz:z.length≤140737488355328) (hr:∀ r∈z,r.length≤140737488355328):zfO (mkB t) (mkZ z)=zes (mkB t) (mkZ z):=by
 rw [zy4 t z hz (fun r hr'=>⟨hr r hr',fun x hx=>by have:=(h.ln r hr' x hx).le; omega⟩)]
 have h1:zsP (mkB t) 1022=true:=by
  have:=ztM t 1022
  rw [show ((1022:Nat):Int)=1022 from rfl] at this
  rw [this,decide_eq_true h.tL]
  have h1:t.any isE=false:=by
   rw [List.any_eq_false]
   intro b hb
   have:=h.tE b hb
   simpa using this
  rw [h1]; rfl
 have h2:z.all zsh=true:=by
  rw [List.all_eq_true]
  intro r hr'
  unfold zsh
  have hne:=h.ne r hr'
  cases r with
  | nil=>exact absurd rfl hne
  | cons x r =>
   simp only [List.isEmpty_cons,Bool.not_false,Bool.true_and,List.all_eq_true]
   exact fun y hy=>zvo (h.ln _ hr' y hy)
 rw [if_pos h1,if_pos h2]
def zfG (x1:zaH) (ag1:(List zaH)→Option (List zaH)) (l4:List zaH):Option (List zaH) := grd (l4.length+1≤2147483648) <| ag1 (l4++[x1])
def zh3 (s1:zBA):Option (List zaH) := zbE (fun (j1:(List zaH)→Option (List zaH)) => zan (zgx s1) fun (r1:zBA) => zan (zei r1) fun (its1:(List zaH)) => zbE (fun (dn1:(List zaH)→Option (List zaH)) => zcQ dn1 (zfG) its1 ([]:List zaH)
) (fun (l4:List zaH) => j1 l4
)
) (fun (l1:List zaH) => some l1
)
theorem zns {s1:zBA} {r:(List zaH)} (h:zh3 s1=some r):Fn prog 50 [.string s1] [] (fun v0:Value=>v0) (fun v0=>[zv3 v0 r]):=by
 unfold zh3 at h
 refine Fn.intro func50 rfl ntmps50 (by simp) ?_
 intro w0 K
 refine zgz ?_
 obtain ⟨j1,hj1,h⟩:=zbT h
 refine za8 (β:=(List zaH)×Nat×Value×(List Nat)) 2 rfl (fun b=>j1 b.1=some r) (fun b=>zec b.2.2.2) (fun b=>[(3,zP b.2.1)]) (fun b=>[cells b.2.1 [b.2.2.1] 123,zv3 b.2.2.1 b.1,zhG ((b.2.2.2:List Nat).map zib)]) (fun cut => ?_) ?_
 ·
  refine zyG (zyR 1 rfl (zyH ?_))
  refine zbh zys rfl dc (fun b2 => ?_)
  refine zyN (cut (zyG (zyR 1 rfl ?_)))
  obtain ⟨r1,hq1,h⟩:=zbL h
  refine zcE (vs:=[.string s1]) rfl dc rfl rfl rfl zzb (ziQ hq1) Splits.nil ?_
  rintro b3
  refine zyN (zaG ?_)
  obtain ⟨its1,hq2,h⟩:=zbL h
  refine zer (enc:=zfr) (e:=158) (size:=3) ?_
  obtain ⟨dn1,hdn1,h⟩:=zbT h
  refine zgA (α:=zaH) (β:=(List zaH)×Value) (γ:=Unit) (δ:=Nat) (ps:=[7]) Ro.nil rfl zwv (zhu hq2) (fun pre b=>∀ post,its1=pre++post→zcQ dn1 (zfG) post b.1=some r) (fun pre b=>[cells b2 [b.2] 123,zv3 b.2 b.1]) (fun c pre g=>False) (fun c pre g=>[]) (fun pre x b j=>[(2,.slice none 0 0),(3,zP b2),(6,.func (.func 108) #[] #[zP b3]),(4,zP j)]) (fun pre x b j=>[cells b2 [b.2] 123,zv3 b.2 b.1,cells j (zr3 x) 158]) (([]:List zaH),(.slice none 0 0)) (fun post e=>by rw [List.nil_append] at e; subst e; exact h) (zab [1,3] kr rfl) ⟨.inl ⟨2,rfl⟩,trivial⟩ (fun _=>rfl) dc ?_ ?_ ?_ ?_
  ·
   rintro lp rc pre x1 post ⟨l4,v4⟩ w1 K1 hxs1 hext hro hinv
   refine zas ?_
   refine zbh zsS rfl dc (fun b4 => ?_)
   refine zaZ (k:=2) (vs:=(zr3 x1)) (l':=(zr3 x1)) zla rfl rfl rfl rfl rfl (show _≤_ by simp) rfl rfl ?_
   refine zaP ?_
   exact fun a w ha hw=>⟨b4,(zbf rfl) _ _ _ ha,hw.weaken (zab [0,1,2] kr rfl)⟩
  ·
   rintro lp rc pre x1 post1 ⟨l4,v4⟩ jb1 w1 K1 hxs1 hext hro hinv
   have h:=hinv (x1::post1) hxs1
   obtain ⟨ag1,hag1⟩:∃ ag,ag=zcQ dn1 (zfG) post1:=⟨_,rfl⟩
   have h:zfG x1 ag1 l4=some r:=by rw [hag1]; exact h
   unfold zfG at h
   refine zaG (zas (zaj (k:=0) zis rfl dc rfl rfl rfl (zaV (k:=2) (cs:=(zr3 x1)) zit rfl dc rfl rfl rfl rfl ?_)))
   refine zbc (cs:=(zr3 x1)) (te:=158) (ps:=[(0,.tmp 9)]) rfl dc rfl (fun _=>by kernel_rfl) (fun b5 => ?_)
   obtain ⟨hg1,h⟩:=zbQ h
   refine zbx (k:=1) (k2:=3) (ys:=[x1]) underlying123 zwz zdw zhN rfl dc rfl rfl rfl rfl rfl rfl hg1 (fun v5 => ?_)
   refine zaT (k:=0) (l':=[v5]) zwa rfl rfl rfl rfl rfl (fun _ h=>ztG h (k:=1) rfl) rfl ?_
   refine zaP (zae ?_)
   exact zcN (l4++[x1],v5) (fun post2 e2=>by have e9:=zds hxs1 e2; subst e9; subst hag1; exact h) (zab [0,1] kr rfl)
  ·
   rintro dm1 ⟨l4,v4⟩ hinv
   have h:dn1 l4=some r:=hinv [] (List.append_nil _).symm
   rw [hdn1] at h
   refine zew (k:=6) (j:=0) rfl rfl dc ?_
   refine zae ?_
   exact zak (l4,b2,v4,dm1::([]:List Nat)) h rfl (zbf rfl) (zab [4,5,0] kr rfl)
  rintro dm1 c pre x1 post g hxs hX
  exact (show False from hX).elim
 rintro ⟨l1,b1,v1,ds1⟩ h
 rw [hj1] at h
 refine zyG (zaj (k:=0) zis rfl dc rfl rfl rfl (zyR 1 rfl (zyN (zau ?_))))
 cases h
 exact zdh (rs:=[.tmp 2]) ds1 v1 (.inl rfl) (zbq (k:=2) rfl) results50 (.cons (.tmp rfl) .nil) rfl (zab [1] kr rfl)
def zhf (s1:zBA):Option Int := zan (zh3 s1) fun (r1:(List zaH)) => some (r1.length:Int)
theorem zlF {s1:zBA} {r:Int} (h:zhf s1=some r):FnP prog 20 [.string s1] (zI r):=by
 unfold zhf at h
 refine FnP.intro func20 rfl ntmps20 (by simp) ?_
 intro w0 K
 refine zyG (zyR 1 rfl (zyH (zyR 1 rfl ?_)))
 obtain ⟨r1,hq1,h⟩:=zbL h
 refine zcE (vs:=[.string s1]) rfl dc rfl rfl rfl zAw (zns hq1) Splits.nil ?_
 rintro v1
 refine zdu (k:=0) rfl dc rfl rfl underlying123 (zyR 1 rfl (zyN (zau ?_)))
 cases h
 exact za2 2 results20
def zkC (s1:zBA) (at1:Int):Option (zaX×Int) := zaB (decide ((at1:Int)<0)) ( some ((⟨0,0,0,false⟩:zaX),5)
) ( zaB (decide (((s1.size:Int):Int)≤at1)) ( some ((⟨0,0,0,false⟩:zaX),5)
) ( zan (ze8 s1 at1) fun (r1:zaX) => some (r1,0)
)
)
theorem zqg {s1:zBA} {at1:Int} {r:(zaX×Int)} (h:zkC s1 at1=some r):FnP prog 17 [.string s1,zI at1] (.tuple #[.agg (zr2 r.1).toArray,zI r.2]):=by
 unfold zkC at h
 refine FnP.intro func17 rfl ntmps17 (by simp) ?_
 intro w0 K
 refine zyG ?_
 refine zbh zlt rfl dc (fun b1 => ?_)
 refine zyR 1 rfl (zyN (zaE (zyG (zyR 1 rfl (zaS rfl zbF (zyR 1 rfl ?_))))))
 refine zyS (s:=8) rfl h (fun h => ?_) (fun h => ?_)
 ·
  refine zyR 5 rfl (zyN (zba rfl (zyG ?_)))
  refine zbA (v:=.agg #[zI 0,zI 0,.int .i32 0,.bool false]) (ps:=[]) rfl dc rfl (fun _=>by kernel_rfl) ?_
  refine zaZ (k:=0) (vs:=[zI 0,zI 0,.int .i32 0,.bool false]) (l':=[zI 0,zI 0,.int .i32 0,.bool false]) zhE rfl rfl rfl rfl rfl (show _≤_ by simp) rfl rfl ?_
  refine zyR 1 rfl (zyN (zau (zaf ?_)))
  cases h
  exact zbt (rs:=[.cell 4 60,.tmp 5]) () (.inl rfl) results17 (.cons (.cells zfN (k:=0) rfl rfl rfl) (.cons (.tmp rfl) .nil)) rfl Splits.nil
 refine zyR 2 rfl (zbC rfl dc rfl underlying9 (zaS rfl zbG (zyR 1 rfl (zyN ?_))))
 refine zyB rfl h (fun h => ?_) (fun h => ?_)
 ·
  refine zyG ?_
  refine zbA (v:=.agg #[zI 0,zI 0,.int .i32 0,.bool false]) (ps:=[]) rfl dc rfl (fun _=>by kernel_rfl) ?_
  refine zaZ (k:=0) (vs:=[zI 0,zI 0,.int .i32 0,.bool false]) (l':=[zI 0,zI 0,.int .i32 0,.bool false]) zhE rfl rfl rfl rfl rfl (show _≤_ by simp) rfl rfl ?_
  refine zyR 1 rfl (zyN (zau (zaf ?_)))
  cases h
  exact zbt (rs:=[.cell 4 60,.tmp 5]) () (.inl rfl) results17 (.cons (.cells zfN (k:=0) rfl rfl rfl) (.cons (.tmp rfl) .nil)) rfl Splits.nil
 refine zal (zay (zyG (zyR 2 rfl ?_)))
 obtain ⟨r1,hq1,h⟩:=zbL h
 refine zbg (v:=.agg (zr2 r1).toArray) (vs:=[.string s1,zI at1]) rfl dc rfl rfl rfl zxH (zjN hq1) (zaZ (k:=0) (vs:=(zr2 r1)) (l':=(zr2 r1)) zhE rfl rfl rfl rfl rfl (show _≤_ by simp) rfl rfl ?_)
 refine zyR 1 rfl (zyN (zau ?_))
 cases h
 exact zbt (rs:=[.cell 4 60,.tmp 5]) () (.inl rfl) results17 (.cons (.cells zfN (k:=0) rfl rfl rfl) (.cons (.tmp rfl) .nil)) rfl Splits.nil
def zfD (x1:zaX) (ag1:Int→Int→Option (Int×Int)) (n4:Int) (broken4:Int):Option (Int×Int) := grd (I64 (n4+1)) <| zaB (x1.Broken) ( grd (I64 (broken4+1)) <| ag1 (n4+1) (broken4+1)
) ( ag1 (n4+1) broken4
)
def zhT (s1:zBA):Option (Int×Int) := zbE (fun (j1:Int→Int→Option (Int×Int)) => zan (zfC s1) fun (r1:zBA) => zan (zdJ r1) fun (its1:(List zaX)) => zbE (fun (dn1:Int→Int→Option (Int×Int)) => zcQ dn1 (zfD) its1 0 0
) (fun (n4:Int) (broken4:Int) => j1 n4 broken4
)
) (fun (n1:Int) (broken1:Int) => some (n1,broken1)
)
theorem zng {s1:zBA} {r:(Int×Int)} (h:zhT s1=some r):FnP prog 16 [.string s1] (.tuple #[zI r.1,zI r.2]):=by
 unfold zhT at h
 refine FnP.intro func16 rfl ntmps16 (by simp) ?_
 intro w0 K
 refine zgz ?_
 obtain ⟨j1,hj1,h⟩:=zbT h
 refine za8 (β:=Int×Int×Nat×Nat×(List Nat)) 2 rfl (fun b=>j1 b.1 b.2.1=some r) (fun b=>zec b.2.2.2.2) (fun b=>[(4,zP b.2.2.1),(5,zP b.2.2.2.1)]) (fun b=>[cells b.2.2.1 [zI b.1] 3,cells b.2.2.2.1 [zI b.2.1] 3,zhG ((b.2.2.2.2:List Nat).map zib)]) (fun cut => ?_) ?_
 ·
  refine zyG (zyR 2 rfl (zyH ?_))
  refine zbh zyk rfl dc (fun b3 => ?_)
  refine zbh zyk rfl dc (fun b4 => ?_)
  refine zaT (k:=1) (l':=[zI 0]) zeI rfl rfl rfl rfl rfl (fun _ _=>rfl) rfl ?_
  refine zaT (k:=2) (l':=[zI 0]) zeI rfl rfl rfl rfl rfl (fun _ _=>rfl) rfl ?_
  refine zyN (cut (zyG (zyR 1 rfl ?_)))
  obtain ⟨r1,hq1,h⟩:=zbL h
  refine zcE (vs:=[.string s1]) rfl dc rfl rfl rfl zvz (zg3 hq1) Splits.nil ?_
  rintro b5
  refine zyN (zaG ?_)
  obtain ⟨its1,hq2,h⟩:=zbL h
  obtain ⟨dn1,hdn1,h⟩:=zbT h
  refine zgA (α:=zaX) (β:=Int×Int) (γ:=Unit) (δ:=Nat) (ps:=[9]) Ro.nil rfl zvy (zf3 hq2) (fun pre b=>∀ post,its1=pre++post→zcQ dn1 (zfD) post b.1 b.2=some r) (fun pre b=>[cells b3 [zI b.1] 3,cells b4 [zI b.2] 3]) (fun c pre g=>False) (fun c pre g=>[]) (fun pre x b j=>[(2,zI 0),(3,zI 0),(4,zP b3),(5,zP b4),(8,.func (.func 67) #[] #[zP b5]),(6,zP j)]) (fun pre x b j=>[cells b3 [zI b.1] 3,cells b4 [zI b.2] 3,cells j (zr2 x) 60]) (0,0) (fun post e=>by rw [List.nil_append] at e; subst e; exact h) (zab [1,2] kr rfl) ⟨.inl ⟨3,rfl⟩,trivial⟩ (fun _=>rfl) dc ?_ ?_ ?_ ?_
  ·
   rintro lp rc pre x1 post ⟨n4,broken4⟩ w1 K1 hxs1 hext hro hinv
   refine zas ?_
   refine zbh zlt rfl dc (fun b6 => ?_)
   refine zaZ (k:=2) (vs:=(zr2 x1)) (l':=(zr2 x1)) zhE rfl rfl rfl rfl rfl (show _≤_ by simp) rfl rfl ?_
   refine zaP ?_
   exact fun a w ha hw=>⟨b6,(zbf rfl) _ _ _ ha,hw.weaken (zab [0,1,2] kr rfl)⟩
  ·
   rintro lp rc pre x1 post1 ⟨n4,broken4⟩ jb1 w1 K1 hxs1 hext hro hinv
   have h:=hinv (x1::post1) hxs1
   obtain ⟨ag1,hag1⟩:∃ ag,ag=zcQ dn1 (zfD) post1:=⟨_,rfl⟩
   have h:zfD x1 ag1 n4 broken4=some r:=by rw [hag1]; exact h
   unfold zfD at h
   refine zaG (zyG (zaj (k:=0) zbW rfl dc rfl rfl rfl ?_))
   obtain ⟨hg1,h⟩:=zbQ h
   refine zaS rfl (zbb (r:=n4+1) (IntWalk.i64_in _ hg1)) ?_
   refine zaT (k:=0) (l':=[zI (n4+1)]) zeI rfl rfl rfl rfl rfl (fun _ _=>rfl) rfl ?_
   refine zyH (zaa zqB rfl dc rfl (show _=3 from rfl) (zaj (k:=2) zlc rfl dc rfl rfl rfl (zyN ?_)))
   refine zyB rfl h (fun h => ?_) (fun h => ?_)
   ·
    refine zas (zaj (k:=1) zbW rfl dc rfl rfl rfl ?_)
    obtain ⟨hg2,h⟩:=zbQ h
    refine zaS rfl (zbb (r:=broken4+1) (IntWalk.i64_in _ hg2)) ?_
    refine zaT (k:=1) (l':=[zI (broken4+1)]) zeI rfl rfl rfl rfl rfl (fun _ _=>rfl) rfl ?_
    refine zaP (zae ?_)
    exact zcN (n4+1,broken4+1) (fun post2 e2=>by have e9:=zds hxs1 e2; subst e9; subst hag1; exact h) (zab [0,1] kr rfl)
   refine zal (zae ?_)
   exact zcN (n4+1,broken4) (fun post2 e2=>by have e9:=zds hxs1 e2; subst e9; subst hag1; exact h) (zab [0,1] kr rfl)
  ·
   rintro dm1 ⟨n4,broken4⟩ hinv
   have h:dn1 n4 broken4=some r:=hinv [] (List.append_nil _).symm
   rw [hdn1] at h
   refine zew (k:=6) (j:=0) rfl rfl dc ?_
   refine zae ?_
   exact zak (n4,broken4,b3,b4,dm1::([]:List Nat)) h rfl (zbf rfl) (zab [4,5,0] kr rfl)
  rintro dm1 c pre x1 post g hxs hX
  exact (show False from hX).elim
 rintro ⟨n1,broken1,b1,b2,ds1⟩ h
 rw [hj1] at h
 refine zaE ?_
 refine zbB 3 [(0,16,zI n1),(1,17,zI broken1),(2,2,zI n1)] mixed kr kr dc (by rfl) kr kr (zad ?_ (zad ?_ (zyP 1 2 rfl DrawPre.nil))) ?_
 · exact fun D n d c u i=>zaj (k:=0) zbW rfl dc (zbd (by rfl) rfl) rfl rfl (zar 0 u i)
 · exact fun D n d c u i=>zaj (k:=1) zbW rfl dc (zbd (by rfl) rfl) rfl rfl (zar 1 u i)
 refine zyR 1 rfl (zyN (zau ?_))
 cases h
 exact zdh (rs:=[.tmp 2,.tmp 3]) ds1 () (.inl rfl) (zbq (k:=2) rfl) results16 (.cons (.tmp rfl) (.cons (.tmp rfl) .nil)) rfl Splits.nil
end Go.Proofs.YtmmhmppcemfdcaaGreatDoor


namespace Go.Proofs.YtmmhmppcemfdcaaGreatDoor
open Go.RowKit Go.Lib
open Tryz
set_option linter.unusedVariables false
set_option linter.unusedSimpArgs false
abbrev zLit1:zBA:=⟨#[195,159,115,115,32,195,166,97,101,32,195,184,111,32,195,176,100,32,195,190,116,104,32,196,145,100,32,196,167,104,32,196,177,105,32,196,179,105,106,32,196,184,113,32,197,128,108,32,197,130,108,32,197,137,110,32,197,139,110,103,32,197,147,111,101,32,197,167,116,32,197,191,115,32,207,130,207,131,32]⟩
def zkL (r1:Int):Option Bool := zbE (fun (j1:Bool→Option Bool) => zaB (decide ((790:Int)≤r1)) ( zaB (decide ((r1:Int)≤793)) ( j1 (decide ((r1:Int)≤793))
) ( zaB (decide ((796:Int)≤r1)) ( zaB (decide ((r1:Int)≤800)) ( j1 (decide ((r1:Int)≤800))
) ( zaB (decide ((803:Int)≤r1)) ( zaB (decide ((r1:Int)≤819)) ( j1 (decide ((r1:Int)≤819))
) ( zaB (decide ((825:Int)≤r1)) ( zaB (decide ((r1:Int)≤828)) ( j1 (decide ((r1:Int)≤828))
) ( zaB (decide ((837:Int)≤r1)) ( j1 (decide ((r1:Int)≤841))
) ( j1 false
)
)
) ( zaB (decide ((837:Int)≤r1)) ( j1 (decide ((r1:Int)≤841))
) ( j1 false
)
)
)
) ( zaB (decide ((825:Int)≤r1)) ( zaB (decide ((r1:Int)≤828)) ( j1 (decide ((r1:Int)≤828))
) ( zaB (decide ((837:Int)≤r1)) ( j1 (decide ((r1:Int)≤841))
) ( j1 false
)
)
) ( zaB (decide ((837:Int)≤r1)) ( j1 (decide ((r1:Int)≤841))
) ( j1 false
)
)
)
)
) ( zaB (decide ((803:Int)≤r1)) ( zaB (decide ((r1:Int)≤819)) ( j1 (decide ((r1:Int)≤819))
) ( zaB (decide ((825:Int)≤r1)) ( zaB (decide ((r1:Int)≤828)) ( j1 (decide ((r1:Int)≤828))
) ( zaB (decide ((837:Int)≤r1)) ( j1 (decide ((r1:Int)≤841))
) ( j1 false
)
)
) ( zaB (decide ((837:Int)≤r1)) ( j1 (decide ((r1:Int)≤841))
) ( j1 false
)
)
)
) ( zaB (decide ((825:Int)≤r1)) ( zaB (decide ((r1:Int)≤828)) ( j1 (decide ((r1:Int)≤828))
) ( zaB (decide ((837:Int)≤r1)) ( j1 (decide ((r1:Int)≤841))
) ( j1 false
)
)
) ( zaB (decide ((837:Int)≤r1)) ( j1 (decide ((r1:Int)≤841))
) ( j1 false
)
)
)
)
)
) ( zaB (decide ((796:Int)≤r1)) ( zaB (decide ((r1:Int)≤800)) ( j1 (decide ((r1:Int)≤800))
) ( zaB (decide ((803:Int)≤r1)) ( zaB (decide ((r1:Int)≤819)) ( j1 (decide ((r1:Int)≤819))
) ( zaB (decide ((825:Int)≤r1)) ( zaB (decide ((r1:Int)≤828)) ( j1 (decide ((r1:Int)≤828))
) ( zaB (decide ((837:Int)≤r1)) ( j1 (decide ((r1:Int)≤841))
) ( j1 false
)
)
) ( zaB (decide ((837:Int)≤r1)) ( j1 (decide ((r1:Int)≤841))
) ( j1 false
)
)
)
) ( zaB (decide ((825:Int)≤r1)) ( zaB (decide ((r1:Int)≤828)) ( j1 (decide ((r1:Int)≤828))
) ( zaB (decide ((837:Int)≤r1)) ( j1 (decide ((r1:Int)≤841))
) ( j1 false
)
)
) ( zaB (decide ((837:Int)≤r1)) ( j1 (decide ((r1:Int)≤841))
) ( j1 false
)
)
)
)
) ( zaB (decide ((803:Int)≤r1)) ( zaB (decide ((r1:Int)≤819)) ( j1 (decide ((r1:Int)≤819))
) ( zaB (decide ((825:Int)≤r1)) ( zaB (decide ((r1:Int)≤828)) ( j1 (decide ((r1:Int)≤828))
) ( zaB (decide ((837:Int)≤r1)) ( j1 (decide ((r1:Int)≤841))
) ( j1 false
)
)
) ( zaB (decide ((837:Int)≤r1)) ( j1 (decide ((r1:Int)≤841))
) ( j1 false
)
)
)
) ( zaB (decide ((825:Int)≤r1)) ( zaB (decide ((r1:Int)≤828)) ( j1 (decide ((r1:Int)≤828))
) ( zaB (decide ((837:Int)≤r1)) ( j1 (decide ((r1:Int)≤841))
) ( j1 false
)
)
) ( zaB (decide ((837:Int)≤r1)) ( j1 (decide ((r1:Int)≤841))
) ( j1 false
)
)
)
)
)
) (fun (x1:Bool) => zaB (x1) ( some true
) ( zbE (fun (j2:Bool→Option Bool) => zaB (decide ((845:Int)≤r1)) ( zaB (decide ((r1:Int)≤846)) ( j2 (decide ((r1:Int)≤846))
) ( zaB (decide ((851:Int)≤r1)) ( zaB (decide ((r1:Int)≤854)) ( j2 (decide ((r1:Int)≤854))
) ( zaB (decide ((857:Int)≤r1)) ( j2 (decide ((r1:Int)≤858))
) ( j2 false
)
)
) ( zaB (decide ((857:Int)≤r1)) ( j2 (decide ((r1:Int)≤858))
) ( j2 false
)
)
)
) ( zaB (decide ((851:Int)≤r1)) ( zaB (decide ((r1:Int)≤854)) ( j2 (decide ((r1:Int)≤854))
) ( zaB (decide ((857:Int)≤r1)) ( j2 (decide ((r1:Int)≤858))
) ( j2 false
)
)
) ( zaB (decide ((857:Int)≤r1)) ( j2 (decide ((r1:Int)≤858))
) ( j2 false
)
)
)
) (fun (x2:Bool) => zaB (x2) ( some true
) ( some false
)
)
)
)
theorem zqA {r1:Int} {r:Bool} (h:zkL r1=some r):FnP prog 106 [.int .i32 r1] (.bool r):=by
 unfold zkL at h
 refine FnP.intro func106 rfl ntmps106 (by simp) ?_
 intro w0 K
 refine zyG (zyR 1 rfl (zyN (zaE (zaG ?_))))
 obtain ⟨j1,hj1,h⟩:=zbT h
 refine za8 (β:=Bool) 0 rfl (fun b=>j1 b=some r) (fun b=>[]) (fun b=>[(0,.int .i32 r1),(3,.bool b)]) (fun b=>[]) (fun cut => ?_) ?_
 ·
  refine cut (zyG (zyR 1 rfl (zaS rfl zbG (zyR 1 rfl ?_))))
  refine zyS (s:=6) rfl h (fun h => ?_) (fun h => ?_)
  ·
   refine zyR 1 rfl (zaS rfl zbM (zyR 2 rfl (zyN ?_)))
   refine zyB rfl h (fun h => ?_) (fun h => ?_)
   ·
    refine zal ?_
    exact zak (decide ((r1:Int)≤793)) h rfl (zbf rfl) Splits.nil
   refine zyG (zyR 1 rfl (zaS rfl zbG (zyR 1 rfl ?_)))
   refine zyS (s:=12) rfl h (fun h => ?_) (fun h => ?_)
   ·
    refine zyR 1 rfl (zaS rfl zbM (zyR 2 rfl (zyN ?_)))
    refine zyB rfl h (fun h => ?_) (fun h => ?_)
    ·
     refine zal ?_
     exact zak (decide ((r1:Int)≤800)) h rfl (zbf rfl) Splits.nil
    refine zyG (zyR 1 rfl (zaS rfl zbG (zyR 1 rfl ?_)))
    refine zyS (s:=18) rfl h (fun h => ?_) (fun h => ?_)
    ·
     refine zyR 1 rfl (zaS rfl zbM (zyR 2 rfl (zyN ?_)))
     refine zyB rfl h (fun h => ?_) (fun h => ?_)
     ·
      refine zal ?_
      exact zak (decide ((r1:Int)≤819)) h rfl (zbf rfl) Splits.nil
     refine zyG (zyR 1 rfl (zaS rfl zbG (zyR 1 rfl ?_)))
     refine zyS (s:=24) rfl h (fun h => ?_) (fun h => ?_)
     ·
      refine zyR 1 rfl (zaS rfl zbM (zyR 2 rfl (zyN ?_)))
      refine zyB rfl h (fun h => ?_) (fun h => ?_)
      ·
       refine zal ?_
       exact zak (decide ((r1:Int)≤828)) h rfl (zbf rfl) Splits.nil
      refine zas (zyR 1 rfl (zaS rfl zbG (zyR 1 rfl ?_)))
      refine zyS (s:=30) rfl h (fun h => ?_) (fun h => ?_)
      ·
       refine zyR 1 rfl (zaS rfl zbM (zyR 2 rfl (zaP ?_)))
       exact zak (decide ((r1:Int)≤841)) h rfl (zbf rfl) Splits.nil
      refine zyR 4 rfl (zaP ?_)
      exact zak false h rfl (zbf rfl) Splits.nil
     refine zyR 4 rfl (zyN (zaM rfl (zas (zyR 1 rfl (zaS rfl zbG (zyR 1 rfl ?_))))))
     refine zyS (s:=30) rfl h (fun h => ?_) (fun h => ?_)
     ·
      refine zyR 1 rfl (zaS rfl zbM (zyR 2 rfl (zaP ?_)))
      exact zak (decide ((r1:Int)≤841)) h rfl (zbf rfl) Splits.nil
     refine zyR 4 rfl (zaP ?_)
     exact zak false h rfl (zbf rfl) Splits.nil
    refine zyR 4 rfl (zyN (zaM rfl (zyG (zyR 1 rfl (zaS rfl zbG (zyR 1 rfl ?_))))))
    refine zyS (s:=24) rfl h (fun h => ?_) (fun h => ?_)
    ·
     refine zyR 1 rfl (zaS rfl zbM (zyR 2 rfl (zyN ?_)))
     refine zyB rfl h (fun h => ?_) (fun h => ?_)
     ·
      refine zal ?_
      exact zak (decide ((r1:Int)≤828)) h rfl (zbf rfl) Splits.nil
     refine zas (zyR 1 rfl (zaS rfl zbG (zyR 1 rfl ?_)))
     refine zyS (s:=30) rfl h (fun h => ?_) (fun h => ?_)
     ·
      refine zyR 1 rfl (zaS rfl zbM (zyR 2 rfl (zaP ?_)))
      exact zak (decide ((r1:Int)≤841)) h rfl (zbf rfl) Splits.nil
     refine zyR 4 rfl (zaP ?_)
     exact zak false h rfl (zbf rfl) Splits.nil
    refine zyR 4 rfl (zyN (zaM rfl (zas (zyR 1 rfl (zaS rfl zbG (zyR 1 rfl ?_))))))
    refine zyS (s:=30) rfl h (fun h => ?_) (fun h => ?_)
    ·
     refine zyR 1 rfl (zaS rfl zbM (zyR 2 rfl (zaP ?_)))
     exact zak (decide ((r1:Int)≤841)) h rfl (zbf rfl) Splits.nil
    refine zyR 4 rfl (zaP ?_)
    exact zak false h rfl (zbf rfl) Splits.nil
   refine zyR 4 rfl (zyN (zaM rfl (zyG (zyR 1 rfl (zaS rfl zbG (zyR 1 rfl ?_))))))
   refine zyS (s:=18) rfl h (fun h => ?_) (fun h => ?_)
   ·
    refine zyR 1 rfl (zaS rfl zbM (zyR 2 rfl (zyN ?_)))
    refine zyB rfl h (fun h => ?_) (fun h => ?_)
    ·
     refine zal ?_
     exact zak (decide ((r1:Int)≤819)) h rfl (zbf rfl) Splits.nil
    refine zyG (zyR 1 rfl (zaS rfl zbG (zyR 1 rfl ?_)))
    refine zyS (s:=24) rfl h (fun h => ?_) (fun h => ?_)
    ·
     refine zyR 1 rfl (zaS rfl zbM (zyR 2 rfl (zyN ?_)))
     refine zyB rfl h (fun h => ?_) (fun h => ?_)
     ·
      refine zal ?_
      exact zak (decide ((r1:Int)≤828)) h rfl (zbf rfl) Splits.nil
     refine zas (zyR 1 rfl (zaS rfl zbG (zyR 1 rfl ?_)))
     refine zyS (s:=30) rfl h (fun h => ?_) (fun h => ?_)
     ·
      refine zyR 1 rfl (zaS rfl zbM (zyR 2 rfl (zaP ?_)))
      exact zak (decide ((r1:Int)≤841)) h rfl (zbf rfl) Splits.nil
     refine zyR 4 rfl (zaP ?_)
     exact zak false h rfl (zbf rfl) Splits.nil
    refine zyR 4 rfl (zyN (zaM rfl (zas (zyR 1 rfl (zaS rfl zbG (zyR 1 rfl ?_))))))
    refine zyS (s:=30) rfl h (fun h => ?_) (fun h => ?_)
    ·
     refine zyR 1 rfl (zaS rfl zbM (zyR 2 rfl (zaP ?_)))
     exact zak (decide ((r1:Int)≤841)) h rfl (zbf rfl) Splits.nil
    refine zyR 4 rfl (zaP ?_)
    exact zak false h rfl (zbf rfl) Splits.nil
   refine zyR 4 rfl (zyN (zaM rfl (zyG (zyR 1 rfl (zaS rfl zbG (zyR 1 rfl ?_))))))
   refine zyS (s:=24) rfl h (fun h => ?_) (fun h => ?_)
   ·
    refine zyR 1 rfl (zaS rfl zbM (zyR 2 rfl (zyN ?_)))
    refine zyB rfl h (fun h => ?_) (fun h => ?_)
    ·
     refine zal ?_
     exact zak (decide ((r1:Int)≤828)) h rfl (zbf rfl) Splits.nil
    refine zas (zyR 1 rfl (zaS rfl zbG (zyR 1 rfl ?_)))
    refine zyS (s:=30) rfl h (fun h => ?_) (fun h => ?_)
    ·
     refine zyR 1 rfl (zaS rfl zbM (zyR 2 rfl (zaP ?_)))
     exact zak (decide ((r1:Int)≤841)) h rfl (zbf rfl) Splits.nil
    refine zyR 4 rfl (zaP ?_)
    exact zak false h rfl (zbf rfl) Splits.nil
   refine zyR 4 rfl (zyN (zaM rfl (zas (zyR 1 rfl (zaS rfl zbG (zyR 1 rfl ?_))))))
   refine zyS (s:=30) rfl h (fun h => ?_) (fun h => ?_)
   ·
    refine zyR 1 rfl (zaS rfl zbM (zyR 2 rfl (zaP ?_)))
    exact zak (decide ((r1:Int)≤841)) h rfl (zbf rfl) Splits.nil
   refine zyR 4 rfl (zaP ?_)
   exact zak false h rfl (zbf rfl) Splits.nil
  refine zyR 4 rfl (zyN (zaM rfl (zyG (zyR 1 rfl (zaS rfl zbG (zyR 1 rfl ?_))))))
  refine zyS (s:=12) rfl h (fun h => ?_) (fun h => ?_)
  ·
   refine zyR 1 rfl (zaS rfl zbM (zyR 2 rfl (zyN ?_)))
   refine zyB rfl h (fun h => ?_) (fun h => ?_)
   ·
    refine zal ?_
    exact zak (decide ((r1:Int)≤800)) h rfl (zbf rfl) Splits.nil
   refine zyG (zyR 1 rfl (zaS rfl zbG (zyR 1 rfl ?_)))
   refine zyS (s:=18) rfl h (fun h => ?_) (fun h => ?_)
   ·
    refine zyR 1 rfl (zaS rfl zbM (zyR 2 rfl (zyN ?_)))
    refine zyB rfl h (fun h => ?_) (fun h => ?_)
    ·
     refine zal ?_
     exact zak (decide ((r1:Int)≤819)) h rfl (zbf rfl) Splits.nil
    refine zyG (zyR 1 rfl (zaS rfl zbG (zyR 1 rfl ?_)))
    refine zyS (s:=24) rfl h (fun h => ?_) (fun h => ?_)
    ·
     refine zyR 1 rfl (zaS rfl zbM (zyR 2 rfl (zyN ?_)))
     refine zyB rfl h (fun h => ?_) (fun h => ?_)
     ·
      refine zal ?_
      exact zak (decide ((r1:Int)≤828)) h rfl (zbf rfl) Splits.nil
     refine zas (zyR 1 rfl (zaS rfl zbG (zyR 1 rfl ?_)))
     refine zyS (s:=30) rfl h (fun h => ?_) (fun h => ?_)
     ·
      refine zyR 1 rfl (zaS rfl zbM (zyR 2 rfl (zaP ?_)))
      exact zak (decide ((r1:Int)≤841)) h rfl (zbf rfl) Splits.nil
     refine zyR 4 rfl (zaP ?_)
     exact zak false h rfl (zbf rfl) Splits.nil
    refine zyR 4 rfl (zyN (zaM rfl (zas (zyR 1 rfl (zaS rfl zbG (zyR 1 rfl ?_))))))
    refine zyS (s:=30) rfl h (fun h => ?_) (fun h => ?_)
    ·
     refine zyR 1 rfl (zaS rfl zbM (zyR 2 rfl (zaP ?_)))
     exact zak (decide ((r1:Int)≤841)) h rfl (zbf rfl) Splits.nil
    refine zyR 4 rfl (zaP ?_)
    exact zak false h rfl (zbf rfl) Splits.nil
   refine zyR 4 rfl (zyN (zaM rfl (zyG (zyR 1 rfl (zaS rfl zbG (zyR 1 rfl ?_))))))
   refine zyS (s:=24) rfl h (fun h => ?_) (fun h => ?_)
   ·
    refine zyR 1 rfl (zaS rfl zbM (zyR 2 rfl (zyN ?_)))
    refine zyB rfl h (fun h => ?_) (fun h => ?_)
    ·
     refine zal ?_
     exact zak (decide ((r1:Int)≤828)) h rfl (zbf rfl) Splits.nil
    refine zas (zyR 1 rfl (zaS rfl zbG (zyR 1 rfl ?_)))
    refine zyS (s:=30) rfl h (fun h => ?_) (fun h => ?_)
    ·
     refine zyR 1 rfl (zaS rfl zbM (zyR 2 rfl (zaP ?_)))
     exact zak (decide ((r1:Int)≤841)) h rfl (zbf rfl) Splits.nil
    refine zyR 4 rfl (zaP ?_)
    exact zak false h rfl (zbf rfl) Splits.nil
   refine zyR 4 rfl (zyN (zaM rfl (zas (zyR 1 rfl (zaS rfl zbG (zyR 1 rfl ?_))))))
   refine zyS (s:=30) rfl h (fun h => ?_) (fun h => ?_)
   ·
    refine zyR 1 rfl (zaS rfl zbM (zyR 2 rfl (zaP ?_)))
    exact zak (decide ((r1:Int)≤841)) h rfl (zbf rfl) Splits.nil
   refine zyR 4 rfl (zaP ?_)
   exact zak false h rfl (zbf rfl) Splits.nil
  refine zyR 4 rfl (zyN (zaM rfl (zyG (zyR 1 rfl (zaS rfl zbG (zyR 1 rfl ?_))))))
  refine zyS (s:=18) rfl h (fun h => ?_) (fun h => ?_)
  ·
   refine zyR 1 rfl (zaS rfl zbM (zyR 2 rfl (zyN ?_)))
   refine zyB rfl h (fun h => ?_) (fun h => ?_)
   ·
    refine zal ?_
    exact zak (decide ((r1:Int)≤819)) h rfl (zbf rfl) Splits.nil
   refine zyG (zyR 1 rfl (zaS rfl zbG (zyR 1 rfl ?_)))
   refine zyS (s:=24) rfl h (fun h => ?_) (fun h => ?_)
   ·
    refine zyR 1 rfl (zaS rfl zbM (zyR 2 rfl (zyN ?_)))
    refine zyB rfl h (fun h => ?_) (fun h => ?_)
    ·
     refine zal ?_
     exact zak (decide ((r1:Int)≤828)) h rfl (zbf rfl) Splits.nil
    refine zas (zyR 1 rfl (zaS rfl zbG (zyR 1 rfl ?_)))
    refine zyS (s:=30) rfl h (fun h => ?_) (fun h => ?_)
    ·
     refine zyR 1 rfl (zaS rfl zbM (zyR 2 rfl (zaP ?_)))
     exact zak (decide ((r1:Int)≤841)) h rfl (zbf rfl) Splits.nil
    refine zyR 4 rfl (zaP ?_)
    exact zak false h rfl (zbf rfl) Splits.nil
   refine zyR 4 rfl (zyN (zaM rfl (zas (zyR 1 rfl (zaS rfl zbG (zyR 1 rfl ?_))))))
   refine zyS (s:=30) rfl h (fun h => ?_) (fun h => ?_)
   ·
    refine zyR 1 rfl (zaS rfl zbM (zyR 2 rfl (zaP ?_)))
    exact zak (decide ((r1:Int)≤841)) h rfl (zbf rfl) Splits.nil
   refine zyR 4 rfl (zaP ?_)
   exact zak false h rfl (zbf rfl) Splits.nil
  refine zyR 4 rfl (zyN (zaM rfl (zyG (zyR 1 rfl (zaS rfl zbG (zyR 1 rfl ?_))))))
  refine zyS (s:=24) rfl h (fun h => ?_) (fun h => ?_)
  ·
   refine zyR 1 rfl (zaS rfl zbM (zyR 2 rfl (zyN ?_)))
   refine zyB rfl h (fun h => ?_) (fun h => ?_)
   ·
    refine zal ?_
    exact zak (decide ((r1:Int)≤828)) h rfl (zbf rfl) Splits.nil
   refine zas (zyR 1 rfl (zaS rfl zbG (zyR 1 rfl ?_)))
   refine zyS (s:=30) rfl h (fun h => ?_) (fun h => ?_)
   ·
    refine zyR 1 rfl (zaS rfl zbM (zyR 2 rfl (zaP ?_)))
    exact zak (decide ((r1:Int)≤841)) h rfl (zbf rfl) Splits.nil
   refine zyR 4 rfl (zaP ?_)
   exact zak false h rfl (zbf rfl) Splits.nil
  refine zyR 4 rfl (zyN (zaM rfl (zas (zyR 1 rfl (zaS rfl zbG (zyR 1 rfl ?_))))))
  refine zyS (s:=30) rfl h (fun h => ?_) (fun h => ?_)
  ·
   refine zyR 1 rfl (zaS rfl zbM (zyR 2 rfl (zaP ?_)))
   exact zak (decide ((r1:Int)≤841)) h rfl (zbf rfl) Splits.nil
  refine zyR 4 rfl (zaP ?_)
  exact zak false h rfl (zbf rfl) Splits.nil
 rintro x1 h
 rw [hj1] at h
 refine zyB rfl h (fun h => ?_) (fun h => ?_)
 ·
  refine zyG (zyR 1 rfl (zyN (zau (zag (zaf ?_)))))
  cases h
  exact za2 2 results106
 obtain ⟨j2,hj2,h⟩:=zbT h
 refine za8 (β:=Bool) 0 rfl (fun b=>j2 b=some r) (fun b=>[]) (fun b=>[(34,.bool b)]) (fun b=>[]) (fun cut => ?_) ?_
 ·
  refine cut (zyG (zyR 1 rfl (zaS rfl zbG (zyR 1 rfl ?_))))
  refine zyS (s:=37) rfl h (fun h => ?_) (fun h => ?_)
  ·
   refine zyR 1 rfl (zaS rfl zbM (zyR 2 rfl (zyN ?_)))
   refine zyB rfl h (fun h => ?_) (fun h => ?_)
   ·
    refine zal ?_
    exact zak (decide ((r1:Int)≤846)) h rfl (zbf rfl) Splits.nil
   refine zyG (zyR 1 rfl (zaS rfl zbG (zyR 1 rfl ?_)))
   refine zyS (s:=43) rfl h (fun h => ?_) (fun h => ?_)
   ·
    refine zyR 1 rfl (zaS rfl zbM (zyR 2 rfl (zyN ?_)))
    refine zyB rfl h (fun h => ?_) (fun h => ?_)
    ·
     refine zal ?_
     exact zak (decide ((r1:Int)≤854)) h rfl (zbf rfl) Splits.nil
    refine zas (zyR 1 rfl (zaS rfl zbG (zyR 1 rfl ?_)))
    refine zyS (s:=49) rfl h (fun h => ?_) (fun h => ?_)
    ·
     refine zyR 1 rfl (zaS rfl zbM (zyR 2 rfl (zaP ?_)))
     exact zak (decide ((r1:Int)≤858)) h rfl (zbf rfl) Splits.nil
    refine zyR 4 rfl (zaP ?_)
    exact zak false h rfl (zbf rfl) Splits.nil
   refine zyR 4 rfl (zyN (zaM rfl (zas (zyR 1 rfl (zaS rfl zbG (zyR 1 rfl ?_))))))
   refine zyS (s:=49) rfl h (fun h => ?_) (fun h => ?_)
   ·
    refine zyR 1 rfl (zaS rfl zbM (zyR 2 rfl (zaP ?_)))
    exact zak (decide ((r1:Int)≤858)) h rfl (zbf rfl) Splits.nil
   refine zyR 4 rfl (zaP ?_)
   exact zak false h rfl (zbf rfl) Splits.nil
  refine zyR 4 rfl (zyN (zaM rfl (zyG (zyR 1 rfl (zaS rfl zbG (zyR 1 rfl ?_))))))
  refine zyS (s:=43) rfl h (fun h => ?_) (fun h => ?_)
  ·
   refine zyR 1 rfl (zaS rfl zbM (zyR 2 rfl (zyN ?_)))
   refine zyB rfl h (fun h => ?_) (fun h => ?_)
   ·
    refine zal ?_
    exact zak (decide ((r1:Int)≤854)) h rfl (zbf rfl) Splits.nil
   refine zas (zyR 1 rfl (zaS rfl zbG (zyR 1 rfl ?_)))
   refine zyS (s:=49) rfl h (fun h => ?_) (fun h => ?_)
   ·
    refine zyR 1 rfl (zaS rfl zbM (zyR 2 rfl (zaP ?_)))
    exact zak (decide ((r1:Int)≤858)) h rfl (zbf rfl) Splits.nil
   refine zyR 4 rfl (zaP ?_)
   exact zak false h rfl (zbf rfl) Splits.nil
  refine zyR 4 rfl (zyN (zaM rfl (zas (zyR 1 rfl (zaS rfl zbG (zyR 1 rfl ?_))))))
  refine zyS (s:=49) rfl h (fun h => ?_) (fun h => ?_)
  ·
   refine zyR 1 rfl (zaS rfl zbM (zyR 2 rfl (zaP ?_)))
   exact zak (decide ((r1:Int)≤858)) h rfl (zbf rfl) Splits.nil
  refine zyR 4 rfl (zaP ?_)
  exact zak false h rfl (zbf rfl) Splits.nil
 rintro x2 h
 rw [hj2] at h
 refine zyB rfl h (fun h => ?_) (fun h => ?_)
 ·
  refine zyG (zyR 1 rfl (zyN (zau (zag (zaf ?_)))))
  cases h
  exact za2 2 results106
 refine zal (zae (zay (zyG (zyR 1 rfl (zyN (zau ?_))))))
 cases h
 exact za2 2 results106
def zep (u1:zaQ):Option Bool := zaB (decide ((0:Int)≤u1.base)) ( grd (I32 u1.base) <| some (((kind u1.base):Int)==1)
) ( some false
)
theorem zfS {u1:zaQ} {u1_h0 u1_h1:Hd} {r:Bool} (h:zep u1=some r):Fn prog 75 [.agg #[zI u1.at_,.int .u8 u1.broken,.int .i32 u1.base,u1_h0.v,u1_h1.v]] [zv6 u1_h0.v u1.low,zv6 u1_h1.v u1.high] (fun _b:Unit=>.bool r) (fun _b=>[zv6 u1_h0.v u1.low,zv6 u1_h1.v u1.high]):=by
 unfold zep at h
 refine Fn.intro func75 rfl ntmps75 (by simp) ?_
 intro w0 K
 refine zyG ?_
 refine zdi rfl dc rfl (fun b1 => ?_)
 refine zyR 1 rfl (zyH (zaa ziZ rfl dc rfl (show _=2 from rfl) (zaj (k:=2) zfY rfl dc rfl rfl rfl (zaS rfl zbG (zyR 1 rfl ?_)))))
 refine zyS (s:=6) rfl h (fun h => ?_) (fun h => ?_)
 ·
  refine zaa ziZ rfl dc rfl (show _=2 from rfl) (zaj (k:=2) zfY rfl dc rfl rfl rfl ?_)
  obtain ⟨hg1,h⟩:=zbQ h
  refine zbg (v:=zI (kind u1.base)) (vs:=[.int .i32 u1.base]) rfl dc rfl rfl rfl zxE (zh9 fun w=>zjZ u1.base w hg1.1 hg1.2) ?_
  refine zaS rfl zaL (zyR 2 rfl (zyN (zau ?_)))
  cases h
  exact zbt (rs:=[.tmp 2]) () (.inl rfl) results75 (.cons (.tmp rfl) .nil) rfl (zab [0,1] kr rfl)
 refine zyR 6 rfl (zyN (zau ?_))
 cases h
 exact zbt (rs:=[.tmp 2]) () (.inl rfl) results75 (.cons (.tmp rfl) .nil) rfl (zab [0,1] kr rfl)
def zfJ (u1:zaQ) (r1:Int):Option zaQ := zan (zkL r1) fun (r2:Bool) => zaB (r2) ( grd (u1.low.length+1≤2147483648) <| some (⟨(⟨u1.at_,u1.broken,u1.base,u1.low++[r1],u1.high⟩:zaQ).at_,(⟨u1.at_,u1.broken,u1.base,u1.low++[r1],u1.high⟩:zaQ).broken,(⟨u1.at_,u1.broken,u1.base,u1.low++[r1],u1.high⟩:zaQ).base,u1.low++[r1],u1.high⟩:zaQ)
) ( grd (u1.high.length+1≤2147483648) <| some (⟨(⟨u1.at_,u1.broken,u1.base,u1.low,u1.high++[r1]⟩:zaQ).at_,(⟨u1.at_,u1.broken,u1.base,u1.low,u1.high++[r1]⟩:zaQ).broken,(⟨u1.at_,u1.broken,u1.base,u1.low,u1.high++[r1]⟩:zaQ).base,u1.low,u1.high++[r1]⟩:zaQ)
)
theorem zhM {vu1:Value} {zu1:List (zaQ×Hd×Hd)} {iu1:Nat} {u1:zaQ} {u1_h0 u1_h1:Hd} (hiu1:zu1[iu1]?=some (u1,(u1_h0,u1_h1))) {r1:Int} {r:zaQ} (h:zfJ u1 r1=some r):Fn prog 77 [.pointer (some ⟨zdz vu1,iu1*5,none⟩),.int .i32 r1] [zuP vu1 zu1,zv6 u1_h0.v u1.low,zv6 u1_h1.v u1.high] (fun b:Hd×Hd=>.tuple #[]) (fun b=>[zuP vu1 (zu1.set iu1 (r,(b.1,b.2))),zv6 b.1.v r.low,zv6 b.2.v r.high]):=by
 unfold zfJ at h
 refine Fn.intro func77 rfl ntmps77 (by simp) ?_
 intro w0 K
 refine zyG (zyR 1 rfl ?_)
 obtain ⟨r2,hq1,h⟩:=zbL h
 refine zbg (v:=.bool r2) (vs:=[.int .i32 r1]) rfl dc rfl rfl rfl zzA (zqA hq1) (zyN ?_)
 refine zyB rfl h (fun h => ?_) (fun h => ?_)
 ·
  refine zas (zyR 2 rfl (zai rfl dc rfl (zaa zrE rfl dc rfl (show _=iu1*5+3 from rfl) (zbD (i:=iu1) (j:=3) (k:=0) (q:=(u1,(u1_h0,u1_h1))) zwf zbV rfl dc rfl rfl hiu1 rfl dc rfl (zyR 1 rfl ?_)))))
  refine zbc (cs:=[.int .i32 r1]) (te:=21) (ps:=[(0,.tmp 11)]) rfl dc rfl (fun _=>by kernel_rfl) (fun b1 => ?_)
  obtain ⟨hg1,h⟩:=zbQ h
  refine zbx (k:=1) (k2:=3) (ys:=[r1]) underlying174 zxN zcJ zgw rfl dc rfl rfl rfl rfl rfl rfl hg1 (fun v1 => ?_)
  refine zbJ (k:=1) rfl (fun hd1 he1 => ?_)
  subst he1
  refine zai rfl dc rfl (zaa zrE rfl dc rfl (show _=iu1*5+3 from rfl) ?_)
  refine zex (i:=iu1) (j:=3) (k:=0) (q:=(u1,(u1_h0,u1_h1))) (q':=((⟨u1.at_,u1.broken,u1.base,u1.low++[r1],u1.high⟩:zaQ),(hd1,u1_h1))) zvX zbV rfl rfl rfl rfl hiu1 rfl dc rfl (fun _ _=>rfl) ?_
  refine zaP (zuD (k:=0) rfl (zoc rfl (q1:=((⟨u1.at_,u1.broken,u1.base,u1.low++[r1],u1.high⟩:zaQ),(hd1,u1_h1))) (q2:=((⟨(⟨u1.at_,u1.broken,u1.base,u1.low++[r1],u1.high⟩:zaQ).at_,(⟨u1.at_,u1.broken,u1.base,u1.low++[r1],u1.high⟩:zaQ).broken,(⟨u1.at_,u1.broken,u1.base,u1.low++[r1],u1.high⟩:zaQ).base,u1.low++[r1],u1.high⟩:zaQ),(hd1,u1_h1))) zbV rfl) ?_)
  cases h
  exact zbt (rs:=[]) (hd1,u1_h1) (.inr rfl) results77 .nil rfl (zab [0,1,2] kr rfl)
 refine zas (zyR 2 rfl (zai rfl dc rfl (zaa zrD rfl dc rfl (show _=iu1*5+4 from rfl) (zbD (i:=iu1) (j:=4) (k:=0) (q:=(u1,(u1_h0,u1_h1))) zwf zbV rfl dc rfl rfl hiu1 rfl dc rfl (zyR 1 rfl ?_)))))
 refine zbc (cs:=[.int .i32 r1]) (te:=21) (ps:=[(0,.tmp 21)]) rfl dc rfl (fun _=>by kernel_rfl) (fun b2 => ?_)
 obtain ⟨hg2,h⟩:=zbQ h
 refine zbx (k:=2) (k2:=3) (ys:=[r1]) underlying174 zxN zcJ zgw rfl dc rfl rfl rfl rfl rfl rfl hg2 (fun v2 => ?_)
 refine zbJ (k:=2) rfl (fun hd2 he2 => ?_)
 subst he2
 refine zai rfl dc rfl (zaa zrD rfl dc rfl (show _=iu1*5+4 from rfl) ?_)
 refine zex (i:=iu1) (j:=4) (k:=0) (q:=(u1,(u1_h0,u1_h1))) (q':=((⟨u1.at_,u1.broken,u1.base,u1.low,u1.high++[r1]⟩:zaQ),(u1_h0,hd2))) zvX zbV rfl rfl rfl rfl hiu1 rfl dc rfl (fun _ _=>rfl) ?_
 refine zaP (zuD (k:=0) rfl (zoc rfl (q1:=((⟨u1.at_,u1.broken,u1.base,u1.low,u1.high++[r1]⟩:zaQ),(u1_h0,hd2))) (q2:=((⟨(⟨u1.at_,u1.broken,u1.base,u1.low,u1.high++[r1]⟩:zaQ).at_,(⟨u1.at_,u1.broken,u1.base,u1.low,u1.high++[r1]⟩:zaQ).broken,(⟨u1.at_,u1.broken,u1.base,u1.low,u1.high++[r1]⟩:zaQ).base,u1.low,u1.high++[r1]⟩:zaQ),(u1_h0,hd2))) zbV rfl) ?_)
 cases h
 exact zbt (rs:=[]) (u1_h0,hd2) (.inr rfl) results77 .nil rfl (zab [0,1,2] kr rfl)
def zgR (rcall:(List (Int×zaA))→Int→Option (List Int)) (Msplit1:List (Int×zaA)) (r1:Int):Option (List Int) := zaB (!((zmB r1 Msplit1).isSome)) ( some ([r1]:List Int)
) ( zan (rcall Msplit1 (((zmB r1 Msplit1).getD (⟨0,0⟩:zaA)).e0)) fun (r2:(List Int)) => grd (r2.length+1≤2147483648) <| some (r2++[((zmB r1 Msplit1).getD (⟨0,0⟩:zaA)).e1])
)
def zhY (Msplit1:List (Int×zaA)) (r1:Int):Option (List Int):=za1 (fun _ _=>none) zgR zcD Msplit1 r1
theorem znq (n:Nat):∀ {bsplit1:Nat} {Msplit1:List (Int×zaA)} {r1:Int} {r:(List Int)} (_:za1 (fun _ _=>none) zgR n Msplit1 r1=some r),Fn prog 78 [.map (some bsplit1),.int .i32 r1] [ziB (fun n:Int=>Value.int .i32 n) (fun p:zaA=>Value.agg #[.int .i32 p.e0,.int .i32 p.e1]) bsplit1 Msplit1] (fun v0:Value=>v0) (fun v0=>[ziB (fun n:Int=>Value.int .i32 n) (fun p:zaA=>Value.agg #[.int .i32 p.e0,.int .i32 p.e1]) bsplit1 Msplit1,zv6 v0 r]):=by
 induction n with
 | zero=>intro bsplit1 Msplit1 r1 r h; exact zdO h
 | succ n hrec =>
 intro bsplit1 Msplit1 r1 r h
 rw [zdv] at h
 revert hrec h
 generalize za1 (fun _ _=>none) zgR n=rcall
 intro hrec h
 unfold zgR at h
 refine Fn.intro func78 rfl ntmps78 (by simp) ?_
 intro w0 K
 refine zyG (zyR 1 rfl (zyH (zyR 2 rfl ?_)))
 refine zqZ (k:=0) (ek:=(fun n:Int=>Value.int .i32 n)) (ev':=(fun p:zaA=>Value.agg #[.int .i32 p.e0,.int .i32 p.e1])) (kk:=r1) (z0:=(⟨0,0⟩:zaA)) (KeyOk.int underlying21) underlying178 kr rfl dc rfl rfl rfl ?_
 refine zyR 1 rfl (zaN rfl dc rfl rfl (zaN rfl dc rfl rfl ?_))
 refine zbh zsR rfl dc (fun b1 => ?_)
 refine zaZ (k:=1) (vs:=[.int .i32 (((zmB r1 Msplit1).getD (⟨0,0⟩:zaA)).e0),.int .i32 (((zmB r1 Msplit1).getD (⟨0,0⟩:zaA)).e1)]) (l':=[.int .i32 (((zmB r1 Msplit1).getD (⟨0,0⟩:zaA)).e0),.int .i32 (((zmB r1 Msplit1).getD (⟨0,0⟩:zaA)).e1)]) zvV rfl rfl rfl rfl rfl (show _≤_ by simp) rfl rfl ?_
 refine zyR 1 rfl (zyN (zaE (zyG (zyR 1 rfl (zdt rfl dc rfl zct (zyN ?_))))))
 refine zyB rfl h (fun h => ?_) (fun h => ?_)
 ·
  refine zyG (zyR 1 rfl ?_)
  refine zbc (cs:=[.int .i32 r1]) (te:=21) (ps:=[(0,.tmp 15)]) rfl dc rfl (fun _=>by kernel_rfl) (fun b2 => ?_)
  refine zyR 1 rfl (zkp ([r1]:List Int) (k:=2) rfl zcJ rfl (show 1≤maxLen by decide) ?_)
  refine zyN (zau (zaf ?_))
  cases h
  exact zbt (rs:=[.tmp 4]) (.slice (some ⟨b2,0,none⟩) 1 1) (.inl rfl) results78 (.cons (.tmp rfl) .nil) rfl (zab [0,2] kr rfl)
 refine zal (zay (zaE ?_))
 obtain ⟨r2,hq1,h⟩:=zbL h
 obtain ⟨hg1,h⟩:=zbQ h
 refine zgG 2 ?_
 refine let vals1:(Value×Nat)→List (Nat×Nat×Value):=fun b=>[(0,17,.map (some bsplit1)),(1,18,zP b1),(2,19,.int .i32 (((zmB r1 Msplit1).getD (⟨0,0⟩:zaA)).e0)),(3,20,b.1),(4,21,.pointer (some ⟨b1,1,none⟩)),(5,22,.int .i32 (((zmB r1 Msplit1).getD (⟨0,0⟩:zaA)).e1)),(6,23,.slice (some ⟨b.2,0,none⟩) 1 1)]; let LL1:(Nat→Prop)→(Value×Nat)→List Asn:=fun D b=>[ziB (fun n:Int=>Value.int .i32 n) (fun p:zaA=>Value.agg #[.int .i32 p.e0,.int .i32 p.e1]) bsplit1 Msplit1,cells b1 [.int .i32 (((zmB r1 Msplit1).getD (⟨0,0⟩:zaA)).e0),.int .i32 (((zmB r1 Msplit1).getD (⟨0,0⟩:zaA)).e1)] 210,eD D emp [(3,zv6 b.1 r2)],eD D emp [(6,cells b.2 [.int .i32 (((zmB r1 Msplit1).getD (⟨0,0⟩:zaA)).e1)] 21)]]; ?_
 have zhq:zyQ [3,6] LL1:=fun i h D b=>zac rfl (zac rfl (zac (zkr rfl h) (zac (zkr rfl h) rfl)))
 refine zeb (β:=Value×Nat) 7 ((.slice none 0 0:Value),(0:Nat)) vals1 LL1 mixed kr kr dc (fun _=>rfl) (zez (zac zci (zac zci rfl))) (zm5 zhq (fun _=>rfl) (fun _=>rfl) 1 0 (fun _=>rfl) rfl (zhC zhq rfl (fun _=>rfl) (fun _=>rfl) ?_ (zhC zhq rfl (fun _=>rfl) (fun _=>rfl) ?_ (zaF ?_ (zhC zhq rfl (fun _=>rfl) (fun _=>rfl) ?_ (zhC zhq rfl (fun _=>rfl) (fun _=>rfl) ?_ (zaF ?_ DrawG.nil))))))) ?_
 · exact fun D ⟨v1,b3⟩ n d c u i=>⟨_,(zez (zac (zah (fun hD=>n (c 2 _ rfl (c 3 _ rfl hD 2 dc) 1 dc)) zat) rfl)),zh6 dc underlying210 zl8 rfl dc (zbd (by rfl) rfl) rfl (show _=0 from rfl) (zar 1 u i)⟩
 · exact fun D ⟨v1,b3⟩ n d c u i=>⟨_,(zez (zac (zah (fun hD=>n (c 3 _ rfl hD 2 dc)) zat) rfl)),zaj (k:=1) zfY rfl dc (zam 1 u d) rfl rfl (zar 2 u i)⟩
 ·
  intro D b hn hd hcl
  obtain ⟨zb0,b3⟩:=b
  refine zaY (zez (zac (zah hn zat) rfl)) ?_
  refine zcE (vs:=[.map (some bsplit1),.int .i32 (((zmB r1 Msplit1).getD (⟨0,0⟩:zaA)).e0)]) rfl dc rfl (evL.cons (zaI (m:=0) rfl rfl (hd 0 dc)) (evL.cons (zaI (m:=2) rfl rfl (hd 2 dc)) evL.nil)) rfl zzc (hrec hq1) (zab [0] kr rfl) ?_
  rintro v1
  refine zcs (L':=[ziB (fun n:Int=>Value.int .i32 n) (fun p:zaA=>Value.agg #[.int .i32 p.e0,.int .i32 p.e1]) bsplit1 Msplit1,cells b1 [.int .i32 (((zmB r1 Msplit1).getD (⟨0,0⟩:zaA)).e0),.int .i32 (((zmB r1 Msplit1).getD (⟨0,0⟩:zaA)).e1)] 210,emp,eD D emp [(6,cells b3 [.int .i32 (((zmB r1 Msplit1).getD (⟨0,0⟩:zaA)).e1)] 21)],zv6 v1 r2]) (zab [4,1,2,3,5] kr rfl) ?_
  refine zdg 2 rfl rfl ?_
  exact za4 (b:=(zb0,b3)) (v1,b3) 3 (by rfl) (by rfl) rfl (zuT (zaz (fun hD=>absurd hD hn) (zuT rfl))) (zez (zac (zaW (Or.inr rfl) rfl) (zac (zav (by rfl)) rfl)))
 · exact fun D ⟨v1,b3⟩ n d c u i=>⟨_,(zcK (zac (zah (fun hD=>n (c 5 _ rfl (c 6 _ rfl hD 5 dc) 4 dc)) zat) rfl)),zh6 dc underlying210 zl8 rfl dc (zbd (by rfl) rfl) rfl (show _=1 from rfl) (zar 4 u i)⟩
 · exact fun D ⟨v1,b3⟩ n d c u i=>⟨_,(zcK (zac (zah (fun hD=>n (c 6 _ rfl hD 5 dc)) zat) rfl)),zaj (k:=1) zfY rfl dc (zam 4 u d) rfl rfl (zar 5 u i)⟩
 ·
  intro D b hn hd hcl
  obtain ⟨v1,zb1⟩:=b
  refine zaY (zcK (zac (zah hn zat) rfl)) ?_
  refine zbc (cs:=[.int .i32 (((zmB r1 Msplit1).getD (⟨0,0⟩:zaA)).e1)]) (te:=21) (ps:=[(0,.tmp 22)]) rfl dc (evP.cons (zaI (m:=5) rfl rfl (hd 5 dc)) evP.nil) (fun _=>by kernel_rfl) (fun b3 => ?_)
  refine zdg 3 rfl rfl ?_
  exact za4 (b:=(v1,zb1)) (v1,b3) 6 (by rfl) (by rfl) rfl (zvM (zaz (fun hD=>absurd hD hn) rfl)) (zez (zac (zav (by rfl)) (zac (zaW (Or.inr rfl) rfl) rfl)))
 intro D b hall
 obtain ⟨v1,b3⟩:=b
 refine zaY (zez (zac (zaW (hall 3 dc) rfl) (zac (zaW (hall 6 dc) rfl) rfl))) ?_
 refine zbx (k:=2) (k2:=3) (ys:=[((zmB r1 Msplit1).getD (⟨0,0⟩:zaA)).e1]) underlying174 zxN zcJ zgw rfl dc rfl rfl rfl rfl rfl rfl hg1 (fun v2 => ?_)
 refine zyR 1 rfl (zyN (zau ?_))
 cases h
 exact zbt (rs:=[.tmp 4]) v2 (.inl rfl) results78 (.cons (.tmp rfl) .nil) rfl (zab [0,2] kr rfl)
theorem znp {bsplit1:Nat} {Msplit1:List (Int×zaA)} {r1:Int} {r:(List Int)} (h:zhY Msplit1 r1=some r):Fn prog 78 [.map (some bsplit1),.int .i32 r1] [ziB (fun n:Int=>Value.int .i32 n) (fun p:zaA=>Value.agg #[.int .i32 p.e0,.int .i32 p.e1]) bsplit1 Msplit1] (fun v0:Value=>v0) (fun v0=>[ziB (fun n:Int=>Value.int .i32 n) (fun p:zaA=>Value.agg #[.int .i32 p.e0,.int .i32 p.e1]) bsplit1 Msplit1,zv6 v0 r]):=by
 unfold zhY at h
 exact znq zcD  h
def zf7 (u1:zaQ) (j1:Option zBA) (ag1:Int→Bool→Nat→Option zBA) (from3:Int) (head3:Bool) (m3:Nat):Option zBA := zaB (decide (m3<(pcs zLit1.data.toList).length)) ( zan ((pcs zLit1.data.toList)[m3]?) fun (p1:Pc) => zbE (fun (j2:Int→Option zBA) => zaB (((p1.r:Int):Int)==32) ( zaB (decide ((0:Int)≤from3)) ( grd (0≤(from3:Int)∧(from3:Int)≤(p1.i:Int)∧((p1.i:Int):Int)≤(zLit1.size:Int)) <| some (zdR zLit1 from3 (p1.i:Int))
) ( zaB (((p1.r:Int):Int)==32) ( j2 from3
) ( zaB (head3) ( zaB (((p1.r:Int):Int)==(znm u1.base)) ( grd (I64 ((p1.i:Int)+((Utf8.encode (p1.r:Int)).size:Int))) <| j2 ((p1.i:Int)+((Utf8.encode (p1.r:Int)).size:Int))
) ( j2 from3
)
) ( j2 from3
)
)
)
) ( zaB (((p1.r:Int):Int)==32) ( j2 from3
) ( zaB (head3) ( zaB (((p1.r:Int):Int)==(znm u1.base)) ( grd (I64 ((p1.i:Int)+((Utf8.encode (p1.r:Int)).size:Int))) <| j2 ((p1.i:Int)+((Utf8.encode (p1.r:Int)).size:Int))
) ( j2 from3
)
) ( j2 from3
)
)
)
) (fun (from4:Int) => ag1 from4 (((p1.r:Int):Int)==32) (m3+1)
)
) ( j1
)
def ziH (u1:zaQ):Option zBA := zan (zep u1) fun (r1:Bool) => zaB (!r1) ( some (Utf8.encode u1.base)
) ( zbE (fun (j1:Option zBA) => grd (I32 u1.base) <| za1 (fun _ _ _=>none) (zf7 u1 j1) zcD (-1) true 0
) ( some (Utf8.encode (znm u1.base))
)
)
theorem zox {u1:zaQ} {u1_h0 u1_h1:Hd} {r:zBA} (h:ziH u1=some r):Fn prog 49 [.agg #[zI u1.at_,.int .u8 u1.broken,.int .i32 u1.base,u1_h0.v,u1_h1.v]] [zv6 u1_h0.v u1.low,zv6 u1_h1.v u1.high] (fun _b:Unit=>.string r) (fun _b=>[zv6 u1_h0.v u1.low,zv6 u1_h1.v u1.high]):=by
 unfold ziH at h
 refine Fn.intro func49 rfl ntmps49 (by simp) ?_
 intro w0 K
 refine zyG ?_
 refine zdi rfl dc rfl (fun b1 => ?_)
 refine zyR 1 rfl (zyN (zaE (zyG (zaV (k:=2) (cs:=[zI u1.at_,.int .u8 u1.broken,.int .i32 u1.base,u1_h0.v,u1_h1.v]) znI rfl dc rfl rfl rfl rfl ?_))))
 obtain ⟨r1,hq1,h⟩:=zbL h
 refine zi7 (v:=.bool r1) (vs:=[.agg #[zI u1.at_,.int .u8 u1.broken,.int .i32 u1.base,u1_h0.v,u1_h1.v]]) rfl dc rfl rfl rfl zxF (zfS (u1:=u1) (u1_h0:=u1_h0) (u1_h1:=u1_h1) hq1) [0,1] kr rfl (zdt rfl dc rfl zct (zyN ?_))
 refine zyB rfl h (fun h => ?_) (fun h => ?_)
 ·
  refine zyG (zaa ziZ rfl dc rfl (show _=2 from rfl) (zaj (k:=2) zfY rfl dc rfl rfl rfl (zgs rfl dc rfl (zfg underlying21 underlying9) (zyR 1 rfl (zyN (zau (zaf ?_)))))))
  cases h
  exact zbt (rs:=[.tmp 2]) () (.inl rfl) results49 (.cons (.tmp rfl) .nil) rfl (zab [0,1] kr rfl)
 refine zal (zay ?_)
 obtain ⟨j1,hj1,h⟩:=zbT h
 refine za8 (β:=Unit) 3 rfl (fun b=>j1=some r) (fun b=>[]) (fun b=>[(3,.int .i32 (znm u1.base))]) (fun b=>[zv6 u1_h0.v u1.low,zv6 u1_h1.v u1.high]) (fun cut => ?_) ?_
 ·
  refine zyG (zaa ziZ rfl dc rfl (show _=2 from rfl) (zaj (k:=2) zfY rfl dc rfl rfl rfl ?_))
  obtain ⟨hg1,h⟩:=zbQ h
  refine zbg (v:=.int .i32 (znm u1.base)) (vs:=[.int .i32 u1.base]) rfl dc rfl rfl rfl zAl (zh9 fun w=>ztP u1.base w hg1.1 hg1.2) ?_
  refine zyR 1 rfl (zyH (zyR 1 rfl (zyH (zyR 1 rfl (zyN (cut ?_))))))
  refine zyG ?_
  refine zc9 underlying9 rfl dc rfl (fun b2 => ?_)
  refine zyN (zaG ?_)
  refine zbP (β:=Nat×Int×Bool×Nat) (fun b=>za1 (fun _ _ _=>none) (zf7 u1 j1) b.1 b.2.1 b.2.2.1 b.2.2.2=some r) (fun b=>[]) (fun b=>[(3,.int .i32 (znm u1.base)),(4,zI b.2.1),(5,.bool b.2.2.1),(17,zP b2)]) (fun b=>[zv6 u1_h0.v u1.low,zv6 u1_h1.v u1.high,obj b2 (.stringIter zLit1 (zfl zLit1 b.2.2.2))]) (fun b=>b.1) (zcD,(-1),true,0) (by exact h) rfl (zbf rfl) (zab [0,1,3] kr rfl) ?_
  rintro ⟨n1,from3,head3,m3⟩ h
  cases n1 with
  | zero=>exact zdO h
  | succ n1 =>
   obtain ⟨ag1,hag1⟩:∃ ag,ag=za1 (fun _ _ _=>none) (zf7 u1 j1) n1:=⟨_,rfl⟩
   have h:zf7 u1 j1 ag1 from3 head3 m3=some r:=by rw [hag1]; exact h
   unfold zf7 at h
   refine zyG ?_
   refine zeG (b:=decide (m3<(pcs zLit1.data.toList).length)) (fun hb2 => ?_) (fun hb2 => ?_)
   ·
    have h:=zgT hb2 h
    obtain ⟨p1,hq2,h⟩:=zbL h
    refine zdy (k:=2) (m:=m3) (p:=p1) rfl dc rfl rfl hq2 (zaN rfl dc rfl rfl (zyN (zaE (zba rfl (zal (zay (zaG ?_)))))))
    obtain ⟨j2,hj2,h⟩:=zbT h
    refine za8 (β:=Int) 1 rfl (fun b=>j2 b=some r) (fun b=>[]) (fun b=>[(3,.int .i32 (znm u1.base)),(4,zI b),(7,.int .i32 (p1.r:Int)),(17,zP b2)]) (fun b=>[zv6 u1_h0.v u1.low,zv6 u1_h1.v u1.high,obj b2 (.stringIter zLit1 (zfl zLit1 (m3+1)))]) (fun cut => ?_) ?_
    ·
     refine zyG (zaN rfl dc rfl rfl (zaN rfl dc rfl rfl (zyR 2 rfl (zyN (cut (zaG (zyG (zyR 1 rfl (zaS rfl zaL ?_)))))))))
     refine zyR 1 rfl ?_
     refine zyS (s:=25) rfl h (fun h => ?_) (fun h => ?_)
     ·
      refine zyR 1 rfl (zaS rfl zbG (zyR 2 rfl (zyN ?_)))
      refine zyB rfl h (fun h => ?_) (fun h => ?_)
      ·
       refine zyG (zyR 2 rfl ?_)
       obtain ⟨hg2,h⟩:=zbQ h
       refine zdA rfl dc rfl rfl rfl (zcX (i:=from3) (j:=(p1.i:Int)) underlying9 (.inr rfl) (.inr rfl) hg2) (zyR 1 rfl (zyN (zau (zag (zaf (zag (zaf (zag (zaf ?_)))))))))
       cases h
       exact zbt (rs:=[.tmp 2]) () (.inl rfl) results49 (.cons (.tmp rfl) .nil) rfl (zab [0,1] kr rfl)
      refine zyG (zyR 1 rfl (zaS rfl zaL (zyR 1 rfl (zyN ?_))))
      refine zyB rfl h (fun h => ?_) (fun h => ?_)
      ·
       refine zal (zae ?_)
       exact zak from3 h rfl (zbf rfl) (zab [0,1,2] kr rfl)
      refine zyG (zyR 2 rfl ?_)
      refine zyS (s:=37) rfl h (fun h => ?_) (fun h => ?_)
      ·
       refine zyR 2 rfl (zaS rfl zaL (zyR 2 rfl (zyN ?_)))
       refine zyB rfl h (fun h => ?_) (fun h => ?_)
       ·
        refine zas (zyR 2 rfl (zgs rfl dc rfl (zfg underlying21 underlying9) (zbC rfl dc rfl underlying9 ?_)))
        obtain ⟨hg3,h⟩:=zbQ h
        refine zaS rfl (zbb (r:=(p1.i:Int)+((Utf8.encode (p1.r:Int)).size:Int)) (IntWalk.i64_in _ hg3)) (zyR 1 rfl (zaP (zae ?_)))
        exact zak ((p1.i:Int)+((Utf8.encode (p1.r:Int)).size:Int)) h rfl (zbf rfl) (zab [0,1,2] kr rfl)
       refine zal (zae ?_)
       exact zak from3 h rfl (zbf rfl) (zab [0,1,2] kr rfl)
      refine zyR 5 rfl (zyN (zaM rfl (zal (zae ?_))))
      exact zak from3 h rfl (zbf rfl) (zab [0,1,2] kr rfl)
     refine zyR 4 rfl (zyN (zaM rfl (zyG (zyR 1 rfl (zaS rfl zaL (zyR 1 rfl (zyN ?_)))))))
     refine zyB rfl h (fun h => ?_) (fun h => ?_)
     ·
      refine zal (zae ?_)
      exact zak from3 h rfl (zbf rfl) (zab [0,1,2] kr rfl)
     refine zyG (zyR 2 rfl ?_)
     refine zyS (s:=37) rfl h (fun h => ?_) (fun h => ?_)
     ·
      refine zyR 2 rfl (zaS rfl zaL (zyR 2 rfl (zyN ?_)))
      refine zyB rfl h (fun h => ?_) (fun h => ?_)
      ·
       refine zas (zyR 2 rfl (zgs rfl dc rfl (zfg underlying21 underlying9) (zbC rfl dc rfl underlying9 ?_)))
       obtain ⟨hg4,h⟩:=zbQ h
       refine zaS rfl (zbb (r:=(p1.i:Int)+((Utf8.encode (p1.r:Int)).size:Int)) (IntWalk.i64_in _ hg4)) (zyR 1 rfl (zaP (zae ?_)))
       exact zak ((p1.i:Int)+((Utf8.encode (p1.r:Int)).size:Int)) h rfl (zbf rfl) (zab [0,1,2] kr rfl)
      refine zal (zae ?_)
      exact zak from3 h rfl (zbf rfl) (zab [0,1,2] kr rfl)
     refine zyR 5 rfl (zyN (zaM rfl (zal (zae ?_))))
     exact zak from3 h rfl (zbf rfl) (zab [0,1,2] kr rfl)
    rintro from4 h
    rw [hj2] at h
    refine zas (zyR 1 rfl (zaS rfl zaL (zyR 1 rfl (zaP (zae ?_)))))
    subst hag1
    exact zbr (n1,from4,((p1.r:Int):Int)==32,m3+1) h (Nat.lt_succ_self _) rfl (zbf rfl) (zab [0,1,2] kr rfl)
   have h:=zgU hb2 h
   refine zeF (k:=2) (m:=m3) rfl dc rfl rfl (Nat.le_of_not_lt (of_decide_eq_false hb2)) (zaN rfl dc rfl rfl (zyN (zaE (zaM rfl (zbu (zaq (zaq (zaJ ?_))))))))
   exact zak () h rfl (zbf rfl) (zab [0,1] kr rfl)
 rintro _ h
 rw [hj1] at h
 refine zyG (zyR 1 rfl (zgs rfl dc rfl (zfg underlying21 underlying9) (zyR 1 rfl (zyN (zau ?_)))))
 cases h
 exact zbt (rs:=[.tmp 2]) () (.inl rfl) results49 (.cons (.tmp rfl) .nil) rfl (zab [0,1] kr rfl)
abbrev zLit2:zBA:=⟨#[204,128,65,195,128,69,195,136,73,195,140,79,195,146,85,195,153,97,195,160,101,195,168,105,195,172,111,195,178,117,195,185,208,149,208,128,208,152,208,141,208,181,209,144,208,184,209,157,204,129,65,195,129,69,195,137,73,195,141,79,195,147,85,195,154,89,195,157,97,195,161,101,195,169,105,195,173,111,195,179,117,195,186,121,195,189,67,196,134,76,196,185,78,197,131,82,197,148,83,197,154,90,197,185,99,196,135,108,196,186,110,197,132,114,197,149,115,197,155,122,197,186,206,145,206,134,206,149,206,136,206,151,206,137,206,153,206,138,206,159,206,140,206,165,206,142,206,169,206,143,206,177,206,172,206,181,206,173,206,183,206,174,206,185,206,175,206,191,207,140,207,133,207,141,207,137,207,142,208,147,208,131,208,154,208,140,208,179,209,147,208,186,209,156,207,138,206,144,207,139,206,176,204,130,65,195,130,69,195,138,73,195,142,79,195,148,85,195,155,97,195,162,101,195,170,105,195,174,111,195,180,117,195,187,67,196,136,71,196,156,72,196,164,74,196,180,83,197,156,87,197,180,89,197,182,99,196,137,103,196,157,104,196,165,106,196,181,115,197,157,119,197,181,121,197,183,204,131,65,195,131,78,195,145,79,195,149,97,195,163,110,195,177,111,195,181,73,196,168,85,197,168,105,196,169,117,197,169,204,132,65,196,128,69,196,146,73,196,170,79,197,140,85,197,170,97,196,129,101,196,147,105,196,171,111,197,141,117,197,171,204,134,65,196,130,69,196,148,71,196,158,73,196,172,79,197,142,85,197,172,97,196,131,101,196,149,103,196,159,105,196,173,111,197,143,117,197,173,208,152,208,153,208,163,208,142,208,184,208,185,209,131,209,158,204,135,67,196,138,69,196,150,71,196,160,73,196,176,90,197,187,99,196,139,101,196,151,103,196,161,122,197,188,204,136,65,195,132,69,195,139,73,195,143,79,195,150,85,195,156,97,195,164,101,195,171,105,195,175,111,195,182,117,195,188,121,195,191,89,197,184,208,149,208,129,208,134,208,135,208,181,209,145,209,150,209,151,206,153,206,170,206,165,206,171,206,185,207,138,207,133,207,139,204,138,65,195,133,85,197,174,97,195,165,117,197,175,204,139,79,197,144,85,197,176,111,197,145,117,197,177,204,140,67,196,140,68,196,142,69,196,154,76,196,189,78,197,135,82,197,152,83,197,160,84,197,164,90,197,189,99,196,141,100,196,143,101,196,155,108,196,190,110,197,136,114,197,153,115,197,161,116,197,165,122,197,190,204,167,67,195,135,71,196,162,75,196,182,76,196,187,78,197,133,82,197,150,83,197,158,84,197,162,99,195,167,103,196,163,107,196,183,108,196,188,110,197,134,114,197,151,115,197,159,116,197,163,204,168,65,196,132,69,196,152,73,196,174,85,197,178,97,196,133,101,196,153,105,196,175,117,197,179]⟩
def zf8 (ag1:Int→Int→Bool→Nat→Option (List (zaA×Int))) (p7:Int) (p8:Int) (base4:Bool) (m4:Nat):Option (List (zaA×Int)) := zaB (decide (m4<(pcs zLit2.data.toList).length)) ( zan ((pcs zLit2.data.toList)[m4]?) fun (p9:Pc) => zbE (fun (j1:Int→Option (List (zaA×Int))) => grd (I32 (p9.r:Int)) <| zaB (((kind (p9.r:Int)):Int)==2) ( ag1 p7 (p9.r:Int) true (m4+1)
) ( zaB (base4) ( j1 (p9.r:Int)
) ( zih ((⟨p7,p8⟩:zaA),(p9.r:Int)) <| j1 p7
)
)
) (fun (p10:Int) => ag1 p10 p8 (!base4) (m4+1)
)
) ( some []
)
def ziI  : Option (List (zaA×Int)) := za1 (fun _ _ _ _=>none) (zf8) zcD 0 0 true 0
theorem znr  {xs:(List (zaA×Int))} (h:ziI=some xs):Itr prog 103 [] (fun q:zaA×Int=>[.agg #[.int .i32 q.1.e0,.int .i32 q.1.e1],.int .i32 q.2]) xs []:=by
 unfold ziI at h
 refine Itr.intro func103 rfl ntmps103 (by simp) ?_
 intro l w0 K I X hRo hy
 obtain ⟨r0,hx0⟩:∃ r,xs=[]++r:=⟨xs,rfl⟩
 have hr0:xs=r0:=hx0
 rw [hr0] at h
 refine zyG ?_
 refine zbh zsR rfl dc (fun b1 => ?_)
 refine zyH (zyR 1 rfl (zyH ?_))
 refine zc9 underlying9 rfl dc rfl (fun b2 => ?_)
 refine zyN (zaG ?_)
 refine zbP (β:=Nat×Int×Int×Bool×Nat×(List (zaA×Int))×(List (zaA×Int))) (fun b=>za1 (fun _ _ _ _=>none) (zf8) b.1 b.2.1 b.2.2.1 b.2.2.2.1 b.2.2.2.2.1=some b.2.2.2.2.2.2∧xs=b.2.2.2.2.2.1++b.2.2.2.2.2.2) (fun b=>[]) (fun b=>[(0,.func (.yield l) #[] #[]),(2,zP b1),(3,.bool b.2.2.2.1),(6,zP b2)]) (fun b=>[I b.2.2.2.2.2.1,cells b1 [.int .i32 b.2.1,.int .i32 b.2.2.1] 210,obj b2 (.stringIter zLit2 (zfl zLit2 b.2.2.2.2.1))]) (fun b=>b.1) (zcD,0,0,true,0,([]:List (zaA×Int)),r0) ⟨h,hx0⟩ rfl (zbf rfl) (zab [0,1,2] kr rfl) ?_
 rintro ⟨n1,p7,p8,base4,m4,acc3,rr3⟩ ⟨h,hx3⟩
 cases n1 with
 | zero=>exact zdO h
 | succ n1 =>
  obtain ⟨ag1,hag1⟩:∃ ag,ag=za1 (fun _ _ _ _=>none) (zf8) n1:=⟨_,rfl⟩
  have h:zf8 ag1 p7 p8 base4 m4=some rr3:=by rw [hag1]; exact h
  unfold zf8 at h
  refine zyG ?_
  refine zeG (b:=decide (m4<(pcs zLit2.data.toList).length)) (fun hb1 => ?_) (fun hb1 => ?_)
  ·
   have h:=zgT hb1 h
   obtain ⟨p9,hq1,h⟩:=zbL h
   refine zdy (k:=2) (m:=m4) (p:=p9) rfl dc rfl rfl hq1 (zaN rfl dc rfl rfl (zyN (zaE (zba rfl (zal (zay (zaG ?_)))))))
   obtain ⟨j1,hj1,h⟩:=zbT h
   refine za8 (β:=Int×(List (zaA×Int))×(List (zaA×Int))) 1 rfl (fun b=>j1 b.1=some b.2.2∧xs=b.2.1++b.2.2) (fun b=>[]) (fun b=>[(0,.func (.yield l) #[] #[]),(2,zP b1),(3,.bool base4),(6,zP b2)]) (fun b=>[I b.2.1,cells b1 [.int .i32 b.1,.int .i32 p8] 210,obj b2 (.stringIter zLit2 (zfl zLit2 (m4+1)))]) (fun cut => ?_) ?_
   ·
    refine zyG (zaN rfl dc rfl rfl (zyR 1 rfl (zyN (cut (zaG (zyG (zyR 1 rfl ?_)))))))
    obtain ⟨hg1,h⟩:=zbQ h
    refine zbg (v:=zI (kind (p9.r:Int))) (vs:=[.int .i32 (p9.r:Int)]) rfl dc rfl rfl rfl zxE (zh9 fun w=>zjZ (p9.r:Int) w hg1.1 hg1.2) ?_
    refine zaS rfl zaL (zyR 1 rfl (zyN ?_))
    refine zyB rfl h (fun h => ?_) (fun h => ?_)
    ·
     refine zyG (zyR 1 rfl (zh6 dc underlying210 zl8 rfl dc rfl rfl (show _=1 from rfl) ?_))
     refine zaT (k:=1) (l':=[.int .i32 p7,.int .i32 (p9.r:Int)]) zl8 rfl rfl rfl rfl rfl (fun _ _=>rfl) rfl ?_
     refine zyR 1 rfl (zyN (zbu (zcZ dc (zaq (zaJ ?_)))))
     subst hag1
     exact zbr (n1,p7,(p9.r:Int),true,m4+1,acc3,rr3) ⟨h,hx3⟩ (Nat.lt_succ_self _) rfl (zbf rfl) (zab [0,1,2] kr rfl)
    refine zyG (zyR 2 rfl (zyN ?_))
    refine zyB rfl h (fun h => ?_) (fun h => ?_)
    ·
     refine zas (zyR 1 rfl (zh6 dc underlying210 zl8 rfl dc rfl rfl (show _=0 from rfl) ?_))
     refine zaT (k:=1) (l':=[.int .i32 (p9.r:Int),.int .i32 p8]) zl8 rfl rfl rfl rfl rfl (fun _ _=>rfl) rfl ?_
     refine zaP (zae ?_)
     exact zak ((p9.r:Int),acc3,rr3) ⟨h,hx3⟩ rfl (zbf rfl) (zab [0,1,2] kr rfl)
    refine zyG (zyR 1 rfl (zaV (k:=1) (cs:=[.int .i32 p7,.int .i32 p8]) zo3 rfl dc rfl rfl rfl rfl (zyR 1 rfl ?_)))
    obtain ⟨rr5,hr1,h⟩:=zlE h
    have hx5:xs=acc3++((⟨p7,p8⟩:zaA),(p9.r:Int))::rr5:=by rw [hx3,hr1]
    refine zdm hy rfl dc rfl hx5 rfl (k:=0) rfl ?_ ?_
    ·
     have hx6:xs=(acc3++[((⟨p7,p8⟩:zaA),(p9.r:Int))])++rr5:=by rw [hx5]; simp
     refine zdt rfl dc rfl zct (zyR 1 rfl (zyN (zaM rfl (zal (zae ?_)))))
     exact zak (p7,acc3++[((⟨p7,p8⟩:zaA),(p9.r:Int))],rr5) ⟨h,hx6⟩ rfl (zbf rfl) (zab [0,1,2] kr rfl)
    refine zdt rfl dc rfl zct (zyR 1 rfl (zyN (zba rfl (zau (zag (zaf (zag (zaf (zag ?_)))))))))
    exact zhg (ds:=[]) acc3 ((⟨p7,p8⟩:zaA),(p9.r:Int)) rr5 hx5 (.inl rfl) Splits.nil results103 (zab [0] kr rfl)
   rintro ⟨p10,acc4,rr4⟩ ⟨h,hx4⟩
   rw [hj1] at h
   refine zas (zyR 1 rfl (zdt rfl dc rfl zct (zyR 1 rfl (zaP (zae ?_)))))
   subst hag1
   exact zbr (n1,p10,p8,!base4,m4+1,acc4,rr4) ⟨h,hx4⟩ (Nat.lt_succ_self _) rfl (zbf rfl) (zab [0,1,2] kr rfl)
  have h:=zgU hb1 h
  refine zeF (k:=2) (m:=m4) rfl dc rfl rfl (Nat.le_of_not_lt (of_decide_eq_false hb1)) (zaN rfl dc rfl rfl (zyN (zaE (zaM rfl (zbu (zaq (zaq (zaJ ?_))))))))
  cases h
  exact zhA (ds:=[]) (.inr rfl) Splits.nil results103 (congrArg I (hx3.trans (List.append_nil _))) (zab [0] kr rfl)
def zfF (x1:zaA×Int) (ag1:(List (zaA×Int))→(List (Int×zaA))→Option ((List (zaA×Int))×(List (Int×zaA)))) (join4:List (zaA×Int)) (split4:List (Int×zaA)):Option ((List (zaA×Int))×(List (Int×zaA))) := ag1 (ztw x1.1 x1.2 join4) (ztw x1.2 x1.1 split4)
def zhX  : Option ((List (zaA×Int))×(List (Int×zaA))) := zbE (fun (j1:(List (zaA×Int))→(List (Int×zaA))→Option ((List (zaA×Int))×(List (Int×zaA)))) => zan (ziI) fun (its1:(List (zaA×Int))) => zbE (fun (dn1:(List (zaA×Int))→(List (Int×zaA))→Option ((List (zaA×Int))×(List (Int×zaA)))) => zcQ dn1 (zfF) its1 ([]:List (zaA×Int)) ([]:List (Int×zaA))
) (fun (join4:List (zaA×Int)) (split4:List (Int×zaA)) => j1 join4 split4
)
) (fun (join1:List (zaA×Int)) (split1:List (Int×zaA)) => some (join1,split1)
)
theorem zno  {r:((List (zaA×Int))×(List (Int×zaA)))} (h:zhX=some r):Fn prog 74 [] [] (fun b:Nat×Nat=>.tuple #[.map (some b.1),.map (some b.2)]) (fun b=>[ziB (fun p:zaA=>Value.agg #[.int .i32 p.e0,.int .i32 p.e1]) (fun n:Int=>Value.int .i32 n) b.1 r.1,ziB (fun n:Int=>Value.int .i32 n) (fun p:zaA=>Value.agg #[.int .i32 p.e0,.int .i32 p.e1]) b.2 r.2]):=by
 unfold zhX at h
 refine Fn.intro func74 rfl ntmps74 (by simp) ?_
 intro w0 K
 refine zgz ?_
 obtain ⟨j1,hj1,h⟩:=zbT h
 refine za8 (β:=(List (zaA×Int))×(List (Int×zaA))×Nat×Nat×Nat×Nat×(List Nat)) 2 rfl (fun b=>j1 b.1 b.2.1=some r) (fun b=>zec b.2.2.2.2.2.2) (fun b=>[(2,zP b.2.2.1),(3,zP b.2.2.2.2.1)]) (fun b=>[cells b.2.2.1 [.map (some b.2.2.2.1)] 177,ziB (fun p:zaA=>Value.agg #[.int .i32 p.e0,.int .i32 p.e1]) (fun n:Int=>Value.int .i32 n) b.2.2.2.1 b.1,cells b.2.2.2.2.1 [.map (some b.2.2.2.2.2.1)] 178,ziB (fun n:Int=>Value.int .i32 n) (fun p:zaA=>Value.agg #[.int .i32 p.e0,.int .i32 p.e1]) b.2.2.2.2.2.1 b.2.1,zhG ((b.2.2.2.2.2.2:List Nat).map zib)]) (fun cut => ?_) ?_
 ·
  refine zyG (zyR 2 rfl (zyH ?_))
  refine zn2 (fun p:zaA=>Value.agg #[.int .i32 p.e0,.int .i32 p.e1]) (fun n:Int=>Value.int .i32 n) rfl dc (fun b5 => ?_)
  refine zn2 (fun n:Int=>Value.int .i32 n) (fun p:zaA=>Value.agg #[.int .i32 p.e0,.int .i32 p.e1]) rfl dc (fun b6 => ?_)
  refine zbh zyl rfl dc (fun b7 => ?_)
  refine zbh zvN rfl dc (fun b8 => ?_)
  refine zaT (k:=3) (l':=[.map (some b5)]) zyJ rfl rfl rfl rfl rfl (fun _ _=>rfl) rfl ?_
  refine zaT (k:=4) (l':=[.map (some b6)]) zvW rfl rfl rfl rfl rfl (fun _ _=>rfl) rfl ?_
  refine zyN (cut (zaG ?_))
  obtain ⟨its1,hq1,h⟩:=zbL h
  obtain ⟨dn1,hdn1,h⟩:=zbT h
  refine zgA (α:=zaA×Int) (β:=(List (zaA×Int))×(List (Int×zaA))) (γ:=Unit) (δ:=Nat) (ps:=[8,9]) Ro.nil rfl zzB (znr hq1) (fun pre b=>∀ post,its1=pre++post→zcQ dn1 (zfF) post b.1 b.2=some r) (fun pre b=>[cells b7 [.map (some b5)] 177,ziB (fun p:zaA=>Value.agg #[.int .i32 p.e0,.int .i32 p.e1]) (fun n:Int=>Value.int .i32 n) b5 b.1,cells b8 [.map (some b6)] 178,ziB (fun n:Int=>Value.int .i32 n) (fun p:zaA=>Value.agg #[.int .i32 p.e0,.int .i32 p.e1]) b6 b.2]) (fun c pre g=>False) (fun c pre g=>[]) (fun pre x b j=>[(0,.map none),(1,.map none),(2,zP b7),(3,zP b8),(4,zP j),(5,.int .i32 x.2)]) (fun pre x b j=>[cells b7 [.map (some b5)] 177,ziB (fun p:zaA=>Value.agg #[.int .i32 p.e0,.int .i32 p.e1]) (fun n:Int=>Value.int .i32 n) b5 b.1,cells b8 [.map (some b6)] 178,ziB (fun n:Int=>Value.int .i32 n) (fun p:zaA=>Value.agg #[.int .i32 p.e0,.int .i32 p.e1]) b6 b.2,cells j [.int .i32 x.1.e0,.int .i32 x.1.e1] 210]) (([]:List (zaA×Int)),([]:List (Int×zaA))) (fun post e=>by rw [List.nil_append] at e; subst e; exact h) (zab [3,1,4,2] kr rfl) trivial (fun _=>rfl) dc ?_ ?_ ?_ ?_
  ·
   rintro lp rc pre x1 post ⟨join4,split4⟩ w1 K1 hxs1 hext hro hinv
   refine zyG ?_
   refine zbh zsR rfl dc (fun b9 => ?_)
   refine zaZ (k:=4) (vs:=[.int .i32 x1.1.e0,.int .i32 x1.1.e1]) (l':=[.int .i32 x1.1.e0,.int .i32 x1.1.e1]) zvV rfl rfl rfl rfl rfl (show _≤_ by simp) rfl rfl ?_
   refine zyN (zas (zyR 1 rfl (zaP ?_)))
   exact fun a w ha hw=>⟨b9,(zbf rfl) _ _ _ ha,hw.weaken (zab [0,1,2,3,4] kr rfl)⟩
  ·
   rintro lp rc pre x1 post1 ⟨join4,split4⟩ jb1 w1 K1 hxs1 hext hro hinv
   have h:=hinv (x1::post1) hxs1
   obtain ⟨ag1,hag1⟩:∃ ag,ag=zcQ dn1 (zfF) post1:=⟨_,rfl⟩
   have h:zfF x1 ag1 join4 split4=some r:=by rw [hag1]; exact h
   unfold zfF at h
   refine zaG ?_
   refine zgB (β:=Unit) 7 6 _ [(0,10,.map (some b5)),(1,11,.agg #[.int .i32 x1.1.e0,.int .i32 x1.1.e1]),(2,12,.map (some b6)),(3,13,.int .i32 x1.2),(4,14,.int .i32 x1.2),(5,15,.agg #[.int .i32 x1.1.e0,.int .i32 x1.1.e1])] (fun _b=>[]) (fun _b=>[cells b7 [.map (some b5)] 177,ziB (fun p:zaA=>Value.agg #[.int .i32 p.e0,.int .i32 p.e1]) (fun n:Int=>Value.int .i32 n) b5 (ztw x1.1 x1.2 join4),cells b8 [.map (some b6)] 178,ziB (fun n:Int=>Value.int .i32 n) (fun p:zaA=>Value.agg #[.int .i32 p.e0,.int .i32 p.e1]) b6 split4,cells jb1 [.int .i32 x1.1.e0,.int .i32 x1.1.e1] 210]) mixed kr kr rfl dc dc (by rfl) kr kr (zao ?_ (zao ?_ (zao ?_ (zyE 2 3 rfl (zao ?_ (zbU DrawPreX.nil)))))) (fun _b=>(zao ?_ (zao ?_ (zao ?_ (zyE 2 3 rfl (zao ?_ (zbU DrawPreX.nil))))))) ?_ ?_
   · exact fun D n d c u i=>zaj (k:=0) ztl rfl dc (zbd (by rfl) rfl) rfl rfl (zar 0 u i)
   · exact fun D n d c u i=>zaV (k:=4) (cs:=[.int .i32 x1.1.e0,.int .i32 x1.1.e1]) zo3 rfl dc (zbd (by rfl) rfl) rfl rfl rfl (zar 1 u i)
   · exact fun D n d c u i=>zaj (k:=2) zrk rfl dc (zbd (by rfl) rfl) rfl rfl (zar 2 u i)
   · exact fun D n d c u i=>zaV (k:=4) (cs:=[.int .i32 x1.1.e0,.int .i32 x1.1.e1]) zo3 rfl dc (zbd (by rfl) rfl) rfl rfl rfl (zar 5 u i)
   · exact fun D n d c u i=>zaj (k:=0) ztl rfl dc (zbd (by rfl) rfl) rfl rfl (zar 0 u i)
   · exact fun D n d c u i=>zaV (k:=4) (cs:=[.int .i32 x1.1.e0,.int .i32 x1.1.e1]) zo3 rfl dc (zbd (by rfl) rfl) rfl rfl rfl (zar 1 u i)
   · exact fun D n d c u i=>zaj (k:=2) zrk rfl dc (zbd (by rfl) rfl) rfl rfl (zar 2 u i)
   · exact fun D n d c u i=>zaV (k:=4) (cs:=[.int .i32 x1.1.e0,.int .i32 x1.1.e1]) zo3 rfl dc (zbd (by rfl) rfl) rfl rfl rfl (zar 5 u i)
   ·
    intro D hn hd hcl
    refine zlr (k:=1) (ek:=(fun p:zaA=>Value.agg #[.int .i32 p.e0,.int .i32 p.e1])) (ev':=(fun n:Int=>Value.int .i32 n)) (kk:=x1.1) (vv:=x1.2) (zsN (f0:=fun p:zaA=>p.e0) (f1:=fun p:zaA=>p.e1) (fun a b h1 h2=>by cases a; cases b; simp_all) underlying210 underlying21 zl8) underlying177 rfl (zaI (m:=0) kr rfl (hd 0 dc)) (zaI (m:=1) kr rfl (hd 1 dc)) (zaI (m:=4) kr rfl (hd 4 dc)) rfl ?_
    exact fun a w ha hw=>⟨(),ha,hw⟩
   intro _b
   refine zlr (k:=3) (ek:=(fun n:Int=>Value.int .i32 n)) (ev':=(fun p:zaA=>Value.agg #[.int .i32 p.e0,.int .i32 p.e1])) (kk:=x1.2) (vv:=x1.1) (KeyOk.int underlying21) underlying178 rfl rfl rfl rfl rfl ?_
   refine zaP (zae ?_)
   exact zcN (ztw x1.1 x1.2 join4,ztw x1.2 x1.1 split4) (fun post2 e2=>by have e9:=zds hxs1 e2; subst e9; subst hag1; exact h) (zab [0,1,2,3] kr rfl)
  ·
   rintro dm1 ⟨join4,split4⟩ hinv
   have h:dn1 join4 split4=some r:=hinv [] (List.append_nil _).symm
   rw [hdn1] at h
   refine zew (k:=9) (j:=0) rfl rfl dc ?_
   refine zae ?_
   exact zak (join4,split4,b7,b5,b8,b6,dm1::([]:List Nat)) h rfl (zbf rfl) (zab [5,6,7,8,0] kr rfl)
  rintro dm1 c pre x1 post g hxs hX
  exact (show False from hX).elim
 rintro ⟨join1,split1,b1,b2,b3,b4,ds1⟩ h
 rw [hj1] at h
 refine zaE ?_
 refine zbB 3 [(0,16,.map (some b2)),(1,17,.map (some b4)),(2,0,.map (some b2))] mixed kr kr dc (by rfl) kr kr (zad ?_ (zad ?_ (zyP 1 2 rfl DrawPre.nil))) ?_
 · exact fun D n d c u i=>zaj (k:=0) ztl rfl dc (zbd (by rfl) rfl) rfl rfl (zar 0 u i)
 · exact fun D n d c u i=>zaj (k:=2) zrk rfl dc (zbd (by rfl) rfl) rfl rfl (zar 1 u i)
 refine zyR 1 rfl (zyN (zau ?_))
 cases h
 exact zdh (rs:=[.tmp 0,.tmp 1]) ds1 (b2,b4) (.inl rfl) (zbq (k:=4) rfl) results74 (.cons (.tmp rfl) (.cons (.tmp rfl) .nil)) rfl (zab [1,3] kr rfl)
def zf5 (j3:Int→Int→Int→(List Int)→(List Int)→Option (List zaQ)) (r6:(List Int)) (ag2:Int→Int→Int→(List Int)→(List Int)→Int→Option (List zaQ)) (u23:Int) (u24:Int) (u25:Int) (u26:List Int) (u27:List Int) (x6:Int):Option (List zaQ) := zaB (decide ((x6:Int)<((zp5 r6 1 (r6.length:Int)).length:Int))) ( zan (zdf (zp5 r6 1 (r6.length:Int)) x6) fun (q2:Int) => zan (zfJ (⟨u23,u24,u25,u26,u27⟩:zaQ) q2) fun (r7:zaQ) => grd (I64 (x6+1)) <| ag2 r7.at_ r7.broken r7.base r7.low r7.high (x6+1)
) ( j3 u23 u24 u25 u26 u27
)
def zf6 (s1:zBA) (r1:((List (zaA×Int))×(List (Int×zaA)))) (x1:zaX) (ag1:(List zaQ)→Option (List zaQ)) (l4:List zaQ):Option (List zaQ) := zaB (x1.Broken) ( zan (zkK s1 x1.At) fun (c1:Int) => grd (l4.length+1≤2147483648) <| ag1 (l4++[(⟨x1.At,c1,(-1),([]:List Int),([]:List Int)⟩:zaQ)])
) ( zbE (fun (j2:Option (List zaQ)) => zaB (decide ((0:Int)<(l4.length:Int))) ( grd (I64 ((l4.length:Int) - 1)) <| zan (zdf l4 ((l4.length:Int) - 1)) fun (x2:zaQ) => zan (zep x2) fun (r3:Bool) => zaB (r3) ( grd (I32 x1.Rune) <| zaB (((kind x1.Rune):Int)==2) ( grd (I64 ((l4.length:Int) - 1)) <| zan (zdf l4 ((l4.length:Int) - 1)) fun (x3:zaQ) => zan (zfJ x3 x1.Rune) fun (r4:zaQ) => ag1 (l4.set ((l4.length:Int) - 1:Int).toNat r4)
) ( j2
)
) ( j2
)
) ( j2
)
) ( zbE (fun (j3:Int→Int→Int→(List Int)→(List Int)→Option (List zaQ)) => zan (zep (⟨x1.At,0,x1.Rune,([]:List Int),([]:List Int)⟩:zaQ)) fun (r5:Bool) => zaB (r5) ( zan (zhY r1.2 x1.Rune) fun (r6:(List Int)) => zan (zdf r6 0) fun (q1:Int) => grd (0≤(1:Int)∧(1:Int)≤(r6.length:Int)∧((r6.length:Int):Int)≤(r6.length:Int)) <| za1 (fun _ _ _ _ _ _=>none) (zf5 j3 r6) zcD x1.At 0 q1 ([]:List Int) ([]:List Int) 0
) ( j3 x1.At 0 x1.Rune ([]:List Int) ([]:List Int)
)
) (fun (u1:Int) (u2:Int) (u3:Int) (u4:List Int) (u5:List Int) => grd (l4.length+1≤2147483648) <| ag1 (l4++[(⟨u1,u2,u3,u4,u5⟩:zaQ)])
)
)
)
def ziG (s1:zBA):Option (List zaQ) := zbE (fun (j1:(List zaQ)→Option (List zaQ)) => zan (zhX) fun (r1:((List (zaA×Int))×(List (Int×zaA)))) => zan (zfC s1) fun (r2:zBA) => zan (zdJ r2) fun (its1:(List zaX)) => zbE (fun (dn1:(List zaQ)→Option (List zaQ)) => zcQ dn1 (zf6 s1 r1) its1 ([]:List zaQ)
) (fun (l4:List zaQ) => j1 l4
)
) (fun (l1:List zaQ) => some l1
)
theorem zow {s1:zBA} {r:(List zaQ)} (h:ziG s1=some r):Fn prog 48 [.string s1] [] (fun v0:Value=>v0) (fun v0=>[zgf zbw za5 176 5 v0 r]):=by
 unfold ziG at h
 refine Fn.intro func48 rfl ntmps48 (by simp) ?_
 intro w0 K
 refine zgz ?_
 refine zyG ?_
 refine zdi rfl dc rfl (fun b1 => ?_)
 refine zyR 1 rfl (zyN ?_)
 refine zfL (β:=Unit) (l:=0) (fun _=>False) (fun _=>[]) (fun _=>[]) rfl ?_ ?_
 ·
  obtain ⟨j1,hj1,h⟩:=zbT h
  refine za8 (β:=(List zaQ)×Nat×Hd×(List Nat)) 3 rfl (fun b=>j1 b.1=some r) (fun b=>zec b.2.2.2) (fun b=>[(5,zP b.2.1)]) (fun b=>[cells b.2.1 [b.2.2.1.v] 120,zgf zbw za5 176 5 b.2.2.1.v b.1,zhG ((b.2.2.2:List Nat).map zib)]) (fun cut => ?_) ?_
  ·
   refine zyG ?_
   obtain ⟨r1,hq1,h⟩:=zbL h
   refine zcE (vs:=[]) rfl dc rfl rfl rfl zAm (zno hq1) Splits.nil ?_
   rintro ⟨b3,b4⟩
   refine zyR 1 rfl (zaN rfl dc rfl rfl (zaN rfl dc rfl rfl ?_))
   refine zbh zvN rfl dc (fun b5 => ?_)
   refine zyR 1 rfl ?_
   refine zaT (k:=4) (l':=[.map (some b4)]) zvW rfl rfl rfl rfl rfl (fun _ _=>rfl) rfl ?_
   refine zyH ?_
   refine zbh zyt rfl dc (fun b6 => ?_)
   refine zyN (zaE (zkq (zay (cut (zyG (zaj (k:=1) zhk rfl dc rfl rfl rfl ?_))))))
   obtain ⟨r2,hq2,h⟩:=zbL h
   refine zcE (vs:=[.string s1]) rfl dc rfl rfl rfl zvz (zg3 hq2) Splits.nil ?_
   rintro b7
   refine zyN (zaG ?_)
   obtain ⟨its1,hq3,h⟩:=zbL h
   refine zoQ (enc:=zbw) (nest:=za5) (e:=176) (size:=5) ?_
   obtain ⟨dn1,hdn1,h⟩:=zbT h
   refine zgA (α:=zaX) (β:=(List zaQ)×Hd) (γ:=Unit) (δ:=Nat) (ps:=[18]) Ro.nil rfl zvy (zf3 hq3) (fun pre b=>∀ post,its1=pre++post→zcQ dn1 (zf6 s1 r1) post b.1=some r) (fun pre b=>[cells b1 [.string s1] 9,cells b5 [.map (some b4)] 178,ziB (fun n:Int=>Value.int .i32 n) (fun p:zaA=>Value.agg #[.int .i32 p.e0,.int .i32 p.e1]) b4 r1.2,cells b6 [b.2.v] 120,zgf zbw za5 176 5 b.2.v b.1]) (fun c pre g=>False) (fun c pre g=>[]) (fun pre x b j=>[(1,zP b1),(2,.slice none 0 0),(4,zP b5),(5,zP b6),(17,.func (.func 67) #[] #[zP b7]),(6,zP j)]) (fun pre x b j=>[cells b1 [.string s1] 9,cells b5 [.map (some b4)] 178,ziB (fun n:Int=>Value.int .i32 n) (fun p:zaA=>Value.agg #[.int .i32 p.e0,.int .i32 p.e1]) b4 r1.2,cells b6 [b.2.v] 120,zgf zbw za5 176 5 b.2.v b.1,cells j (zr2 x) 60]) (([]:List zaQ),Hd.nil) (fun post e=>by rw [List.nil_append] at e; subst e; exact h) (zab [1,4,3,5,7] kr rfl) ⟨.inl ⟨6,rfl⟩,trivial⟩ (fun _=>rfl) dc ?_ ?_ ?_ ?_
   ·
    rintro lp rc pre x1 post ⟨l4,hd4⟩ w1 K1 hxs1 hext hro hinv
    refine zas ?_
    refine zbh zlt rfl dc (fun b8 => ?_)
    refine zaZ (k:=5) (vs:=(zr2 x1)) (l':=(zr2 x1)) zhE rfl rfl rfl rfl rfl (show _≤_ by simp) rfl rfl ?_
    refine zaP ?_
    exact fun a w ha hw=>⟨b8,(zbf rfl) _ _ _ ha,hw.weaken (zab [0,1,2,3,4,5] kr rfl)⟩
   ·
    rintro lp rc pre x1 post1 ⟨l4,hd4⟩ jb1 w1 K1 hxs1 hext hro hinv
    have h:=hinv (x1::post1) hxs1
    obtain ⟨ag1,hag1⟩:∃ ag,ag=zcQ dn1 (zf6 s1 r1) post1:=⟨_,rfl⟩
    have h:zf6 s1 r1 x1 ag1 l4=some r:=by rw [hag1]; exact h
    unfold zf6 at h
    refine zaG (zaE (zyG (zaa zqB rfl dc rfl (show _=3 from rfl) (zaj (k:=5) zlc rfl dc rfl rfl rfl (zyN ?_)))))
    refine zyB rfl h (fun h => ?_) (fun h => ?_)
    ·
     refine zaE ?_
     obtain ⟨c1,hq4,h⟩:=zbL h
     obtain ⟨hg1,h⟩:=zbQ h
     refine zgB (β:=Nat) 9 8 _ [(0,21,hd4.v),(1,22,zP jb1),(2,23,zI x1.At),(3,24,.string s1),(4,25,zP jb1),(5,26,zI x1.At),(6,27,.int .u8 c1),(7,28,.agg #[zI x1.At,.int .u8 c1,.int .i32 (-1),.slice none 0 0,.slice none 0 0])] (fun b9=>[(29,.slice (some ⟨b9,0,none⟩) 1 1)]) (fun b9=>[cells b1 [.string s1] 9,cells b5 [.map (some b4)] 178,ziB (fun n:Int=>Value.int .i32 n) (fun p:zaA=>Value.agg #[.int .i32 p.e0,.int .i32 p.e1]) b4 r1.2,cells b6 [hd4.v] 120,zgf zbw za5 176 5 hd4.v l4,cells jb1 (zr2 x1) 60,cells b9 [zI x1.At,.int .u8 c1,.int .i32 (-1),.slice none 0 0,.slice none 0 0] 176]) mixed kr kr rfl dc dc (by rfl) kr kr (zao ?_ (zao ?_ (zao ?_ (zao ?_ (zao ?_ (zao ?_ (zao ?_ (zao ?_ (zbU DrawPreX.nil))))))))) (fun b9=>(zao ?_ (zao ?_ (zao ?_ (zao ?_ (zao ?_ (zao ?_ (zao ?_ (zao ?_ (zbU DrawPreX.nil)))))))))) ?_ ?_
     · exact fun D n d c u i=>zaj (k:=3) zmd rfl dc (zbd (by rfl) rfl) rfl rfl (zar 0 u i)
     · exact fun D n d c u i=>zaa ze3 rfl dc (zbd (by rfl) rfl) (show _=0 from rfl) (zar 1 u i)
     · exact fun D n d c u i=>zaj (k:=5) zbW rfl dc (zam 1 u d) rfl rfl (zar 2 u i)
     · exact fun D n d c u i=>zaj (k:=0) zhk rfl dc (zbd (by rfl) rfl) rfl rfl (zar 3 u i)
     · exact fun D n d c u i=>zaa ze3 rfl dc (zbd (by rfl) rfl) (show _=0 from rfl) (zar 4 u i)
     · exact fun D n d c u i=>zaj (k:=5) zbW rfl dc (zam 4 u d) rfl rfl (zar 5 u i)
     · exact fun D n d c u i=>zea rfl dc (zam 3 u d) (zam 5 u d) (zcc underlying9 hq4) (zar 6 u i)
     · exact fun D n d c u i=>zbA (v:=.agg #[zI x1.At,.int .u8 c1,.int .i32 (-1),.slice none 0 0,.slice none 0 0]) (ps:=[(0,.tmp 23),(1,.tmp 27),(2,.const (.int .i32 (-1)))]) rfl dc (evP.cons (zam 2 u d) (evP.cons (zam 6 u d) (evP.cons rfl evP.nil))) (fun _=>by kernel_rfl) (zar 7 u i)
     · exact fun D n d c u i=>zaj (k:=3) zmd rfl dc (zbd (by rfl) rfl) rfl rfl (zar 0 u i)
     · exact fun D n d c u i=>zaa ze3 rfl dc (zbd (by rfl) rfl) (show _=0 from rfl) (zar 1 u i)
     · exact fun D n d c u i=>zaj (k:=5) zbW rfl dc (zam 1 u d) rfl rfl (zar 2 u i)
     · exact fun D n d c u i=>zaj (k:=0) zhk rfl dc (zbd (by rfl) rfl) rfl rfl (zar 3 u i)
     · exact fun D n d c u i=>zaa ze3 rfl dc (zbd (by rfl) rfl) (show _=0 from rfl) (zar 4 u i)
     · exact fun D n d c u i=>zaj (k:=5) zbW rfl dc (zam 4 u d) rfl rfl (zar 5 u i)
     · exact fun D n d c u i=>zea rfl dc (zam 3 u d) (zam 5 u d) (zcc underlying9 hq4) (zar 6 u i)
     · exact fun D n d c u i=>zbA (v:=.agg #[zI x1.At,.int .u8 c1,.int .i32 (-1),.slice none 0 0,.slice none 0 0]) (ps:=[(0,.tmp 23),(1,.tmp 27),(2,.const (.int .i32 (-1)))]) rfl dc (evP.cons (zam 2 u d) (evP.cons (zam 6 u d) (evP.cons rfl evP.nil))) (fun _=>by kernel_rfl) (zar 7 u i)
     ·
      intro D hn hd hcl
      refine zbc (cs:=[zI x1.At,.int .u8 c1,.int .i32 (-1),.slice none 0 0,.slice none 0 0]) (te:=176) (ps:=[(0,.tmp 28)]) rfl dc (evP.cons (zaI (m:=7) kr rfl (hd 7 dc)) evP.nil) (fun _=>by kernel_rfl) (fun b9 => ?_)
      exact fun a w ha hw=>⟨b9,zuI (by rfl) _ _ _ ha,hw⟩
     intro b9
     refine zfi (enc:=(zlp (.i32))) (e:=21) (size:=1) ?_
     refine zfi (enc:=(zlp (.i32))) (e:=21) (size:=1) ?_
     refine zeE (k:=4) rfl znk (fun zs1 hz1 => ?_)
     refine zbx (k:=4) (k2:=6) (ys:=[((⟨x1.At,c1,(-1),([]:List Int),([]:List Int)⟩:zaQ),(Hd.nil,Hd.nil))]) underlying120 zwy zbV zhd rfl dc rfl rfl rfl rfl rfl rfl (by rw [zx9 hz1]; exact hg1) (fun v1 => ?_)
     refine zbJ (k:=4) rfl (fun hd5 he1 => ?_)
     subst he1
     refine zfs (k:=9) rfl (zab [7,8] kr rfl) rfl (zpi (nest:=za5) (zs:=zs1) (z:=((⟨x1.At,c1,(-1),([]:List Int),([]:List Int)⟩:zaQ),(Hd.nil,Hd.nil)))) ?_
     refine zfs (k:=4) rfl (zab [9] kr rfl) rfl (ziR (enc:=zbw) (nest:=za5) (zyv hz1)) ?_
     refine zcs (L':=[cells b1 [.string s1] 9,cells b5 [.map (some b4)] 178,ziB (fun n:Int=>Value.int .i32 n) (fun p:zaA=>Value.agg #[.int .i32 p.e0,.int .i32 p.e1]) b4 r1.2,cells b6 [hd4.v] 120,zgf zbw za5 176 5 hd5.v (l4++[(⟨x1.At,c1,(-1),([]:List Int),([]:List Int)⟩:zaQ)]),cells jb1 (zr2 x1) 60,cells b9 [zI x1.At,.int .u8 c1,.int .i32 (-1),.slice none 0 0,.slice none 0 0] 176]) (zab [0,1,2,3,4,5,6] kr rfl) ?_
     refine zaT (k:=3) (l':=[hd5.v]) zwb rfl rfl rfl rfl rfl (fun _ _=>rfl) rfl ?_
     refine zyN (zbu (zaq (zaJ ?_)))
     exact zcN (l4++[(⟨x1.At,c1,(-1),([]:List Int),([]:List Int)⟩:zaQ)],hd5) (fun post2 e2=>by have e9:=zds hxs1 e2; subst e9; subst hag1; exact h) (zab [0,1,2,3,4] kr rfl)
    refine zal (zay ?_)
    obtain ⟨j2,hj2,h⟩:=zbT h
    refine za8 (β:=Unit) 0 rfl (fun b=>j2=some r) (fun b=>[]) (fun b=>[(1,zP b1),(2,.slice none 0 0),(4,zP b5),(5,zP b6),(6,zP jb1),(17,.func (.func 67) #[] #[zP b7])]) (fun b=>[cells b1 [.string s1] 9,cells b5 [.map (some b4)] 178,ziB (fun n:Int=>Value.int .i32 n) (fun p:zaA=>Value.agg #[.int .i32 p.e0,.int .i32 p.e1]) b4 r1.2,cells b6 [hd4.v] 120,zgf zbw za5 176 5 hd4.v l4,cells jb1 (zr2 x1) 60]) (fun cut => ?_) ?_
    ·
     refine cut (zyG (zaj (k:=3) zmd rfl dc rfl rfl rfl (zi6 (k:=4) rfl dc rfl rfl underlying120 (zyR 1 rfl (zyH (zyR 1 rfl (zaS rfl zc1 (zyR 1 rfl ?_))))))))
     refine zyS (s:=35) rfl h (fun h => ?_) (fun h => ?_)
     ·
      refine zaj (k:=3) zmd rfl dc rfl rfl rfl (zyR 1 rfl ?_)
      obtain ⟨hg2,h⟩:=zbQ h
      refine zaS rfl (zce (r:=(l4.length:Int) - 1) (IntWalk.i64_in _ hg2)) ?_
      refine zeE (k:=4) rfl znk (fun zs2 hz2 => ?_)
      obtain ⟨x2,hq5,h⟩:=zbL h
      obtain ⟨⟨eh1,eh2⟩,eq1⟩:=zjk hz2 hq5
      refine za3 (k:=4) eq1 underlying120 zoW rfl dc rfl rfl rfl rfl (zgr (i:=((l4.length:Int) - 1:Int).toNat) (j:=0) (k:=4) (q:=(x2,(eh1,eh2))) (cs:=[zI x2.at_,.int .u8 x2.broken,.int .i32 x2.base,eh1.v,eh2.v]) znI zbV rfl dc rfl rfl (zbo eq1) rfl rfl rfl ?_)
      refine zeE (k:=6) rfl (zsj (zbo eq1)) (fun _ _ => ?_)
      obtain ⟨r3,hq6,h⟩:=zbL h
      refine zi7 (v:=.bool r3) (vs:=[.agg #[zI x2.at_,.int .u8 x2.broken,.int .i32 x2.base,eh1.v,eh2.v]]) rfl dc rfl rfl rfl zxF (zfS (u1:=x2) (u1_h0:=eh1) (u1_h1:=eh2) hq6) [7,8] kr rfl (zyR 2 rfl ?_)
      refine zyS (s:=43) rfl h (fun h => ?_) (fun h => ?_)
      ·
       refine zaa zgo rfl dc rfl (show _=2 from rfl) (zaj (k:=5) zfY rfl dc rfl rfl rfl ?_)
       obtain ⟨hg3,h⟩:=zbQ h
       refine zbg (v:=zI (kind x1.Rune)) (vs:=[.int .i32 x1.Rune]) rfl dc rfl rfl rfl zxE (zh9 fun w=>zjZ x1.Rune w hg3.1 hg3.2) ?_
       refine zaS rfl zaL (zyR 1 rfl (zyN ?_))
       refine zyB rfl h (fun h => ?_) (fun h => ?_)
       ·
        refine zaE (zvJ (k:=6) rfl (zab [7,8] kr rfl) rfl (zpa (nest:=za5) (zbo eq1) rfl) ?_)
        obtain ⟨hg4,h⟩:=zbQ h
        obtain ⟨x3,hq7,h⟩:=zbL h
        obtain ⟨⟨eh3,eh4⟩,eq2⟩:=zjk hz2 hq7
        obtain ⟨r4,hq8,h⟩:=zbL h
        refine zbB 6 [(0,49,hd4.v),(1,50,zI (l4.length:Int)),(2,51,zI ((l4.length:Int) - 1)),(3,52,.pointer (some ⟨zdz hd4.v,((l4.length:Int) - 1:Int).toNat*5,none⟩)),(4,53,.pointer (some ⟨jb1,2,none⟩)),(5,54,.int .i32 x1.Rune)] mixed kr kr dc (by rfl) kr kr (zad ?_ (zyP 1 1 rfl (zad ?_ (zad ?_ (zad ?_ (zad ?_ DrawPre.nil)))))) ?_
        · exact fun D n d c u i=>zaj (k:=3) zmd rfl dc (zbd (by rfl) rfl) rfl rfl (zar 0 u i)
        · exact fun D n d c u i=>zb6 rfl dc (zam 1 u d) rfl (zce (r:=(l4.length:Int) - 1) (IntWalk.i64_in _ hg4)) (zar 2 u i)
        · exact fun D n d c u i=>za3 (k:=4) eq2 underlying120 zoW rfl dc (zam 0 u d) (zam 2 u d) rfl rfl (zar 3 u i)
        · exact fun D n d c u i=>zaa zgo rfl dc (zbd (by rfl) rfl) (show _=2 from rfl) (zar 4 u i)
        · exact fun D n d c u i=>zaj (k:=5) zfY rfl dc (zam 4 u d) rfl rfl (zar 5 u i)
        refine zeE (k:=6) rfl (zsj (zbo eq2)) (fun _ _ => ?_)
        refine zcE (vs:=[.pointer (some ⟨zdz hd4.v,((l4.length:Int) - 1:Int).toNat*5,none⟩),.int .i32 x1.Rune]) rfl dc rfl rfl rfl zzd (zhM (vu1:=hd4.v) (u1:=x3) (u1_h0:=eh3) (u1_h1:=eh4) (zbo eq2) hq8) (zab [4,9,10] kr rfl) ?_
        rintro ⟨hd6,hd7⟩
        refine zcs (L':=[cells b1 [.string s1] 9,cells b5 [.map (some b4)] 178,ziB (fun n:Int=>Value.int .i32 n) (fun p:zaA=>Value.agg #[.int .i32 p.e0,.int .i32 p.e1]) b4 r1.2,cells b6 [hd4.v] 120,zuP hd4.v (zs2.set (((l4.length:Int) - 1:Int).toNat) (r4,(hd6,hd7))),cells jb1 (zr2 x1) 60,own za5 (zs2.eraseIdx (((l4.length:Int) - 1:Int).toNat)),emp,emp,emp,emp,zv6 hd6.v r4.low,zv6 hd7.v r4.high]) (zab [0,1,2,3,11,5,6,7,8,9,10,12,13] kr rfl) ?_
        refine zfs (k:=6) rfl (zab [11,12] kr rfl) rfl (zpa (nest:=za5) (zs:=zs2) (z:=(r4,(hd6,hd7))) (zom (zbo eq2)) zjJ) ?_
        refine zcs (L':=[cells b1 [.string s1] 9,cells b5 [.map (some b4)] 178,ziB (fun n:Int=>Value.int .i32 n) (fun p:zaA=>Value.agg #[.int .i32 p.e0,.int .i32 p.e1]) b4 r1.2,cells b6 [hd4.v] 120,zuP hd4.v (zs2.set (((l4.length:Int) - 1:Int).toNat) (r4,(hd6,hd7))),cells jb1 (zr2 x1) 60,own za5 (zs2.set (((l4.length:Int) - 1:Int).toNat) (r4,(hd6,hd7))),emp,emp]) (zab [0,1,2,3,4,5,6,7,8] kr rfl) ?_
        refine zyN (zbu (zaq (zaJ (zgy (k:=4) rfl (zab [6] kr rfl) rfl (ziR (enc:=zbw) (nest:=za5) (zzS hz2)) ?_))))
        exact zcN (l4.set ((l4.length:Int) - 1:Int).toNat r4,hd4) (fun post2 e2=>by have e9:=zds hxs1 e2; subst e9; subst hag1; exact h) (zab [0,1,2,3,4] kr rfl)
       refine zal (zgy (k:=6) rfl (zab [7,8] kr rfl) rfl (zpa (nest:=za5) (zbo eq1) rfl) ?_)
       refine zgy (k:=4) rfl (zab [6] kr rfl) rfl (ziR (enc:=zbw) (nest:=za5) hz2) ?_
       exact zak () h rfl (zbf rfl) (zab [0,1,2,3,4,5] kr rfl)
      refine zyR 5 rfl (zyN (zaM rfl (zal (zgy (k:=6) rfl (zab [7,8] kr rfl) rfl (zpa (nest:=za5) (zbo eq1) rfl) ?_))))
      refine zgy (k:=4) rfl (zab [6] kr rfl) rfl (ziR (enc:=zbw) (nest:=za5) hz2) ?_
      exact zak () h rfl (zbf rfl) (zab [0,1,2,3,4,5] kr rfl)
     refine zyR 13 rfl (zaP ?_)
     refine zay (zaM rfl (zal ?_))
     exact zak () h rfl (zbf rfl) (zab [0,1,2,3,4,5] kr rfl)
    rintro _ h
    rw [hj2] at h
    obtain ⟨j3,hj3,h⟩:=zbT h
    refine za8 (β:=Int×Int×Int×(List Int)×(List Int)×Nat×Hd×Hd) 1 rfl (fun b=>j3 b.1 b.2.1 b.2.2.1 b.2.2.2.1 b.2.2.2.2.1=some r) (fun b=>[]) (fun b=>[(1,zP b1),(2,.slice none 0 0),(4,zP b5),(5,zP b6),(8,zP b.2.2.2.2.2.1),(17,.func (.func 67) #[] #[zP b7])]) (fun b=>[cells b1 [.string s1] 9,cells b5 [.map (some b4)] 178,ziB (fun n:Int=>Value.int .i32 n) (fun p:zaA=>Value.agg #[.int .i32 p.e0,.int .i32 p.e1]) b4 r1.2,cells b6 [hd4.v] 120,zgf zbw za5 176 5 hd4.v l4,cells b.2.2.2.2.2.1 [zI b.1,.int .u8 b.2.1,.int .i32 b.2.2.1,b.2.2.2.2.2.2.1.v,b.2.2.2.2.2.2.2.v] 176,zv6 b.2.2.2.2.2.2.1.v b.2.2.2.1,zv6 b.2.2.2.2.2.2.2.v b.2.2.2.2.1]) (fun cut => ?_) ?_
    ·
     refine zyG (zaa ze3 rfl dc rfl (show _=0 from rfl) (zaj (k:=5) zbW rfl dc rfl rfl rfl (zaa zgo rfl dc rfl (show _=2 from rfl) (zaj (k:=5) zfY rfl dc rfl rfl rfl ?_))))
     refine zbA (v:=.agg #[zI x1.At,.int .u8 0,.int .i32 x1.Rune,.slice none 0 0,.slice none 0 0]) (ps:=[(0,.tmp 57),(2,.tmp 59)]) rfl dc rfl (fun _=>by kernel_rfl) ?_
     refine zbh zvO rfl dc (fun b11 => ?_)
     refine zaZ (k:=6) (vs:=[zI x1.At,.int .u8 0,.int .i32 x1.Rune,.slice none 0 0,.slice none 0 0]) (l':=[zI x1.At,.int .u8 0,.int .i32 x1.Rune,.slice none 0 0,.slice none 0 0]) zoW rfl rfl rfl rfl rfl (show _≤_ by simp) rfl rfl ?_
     refine zyN (cut (zyG (zaV (k:=6) (cs:=[zI x1.At,.int .u8 0,.int .i32 x1.Rune,.slice none 0 0,.slice none 0 0]) znI rfl dc rfl rfl rfl rfl (zfi (enc:=(zlp (.i32))) (e:=21) (size:=1) ?_))))
     refine zfi (enc:=(zlp (.i32))) (e:=21) (size:=1) ?_
     obtain ⟨r5,hq9,h⟩:=zbL h
     refine zi7 (v:=.bool r5) (vs:=[.agg #[zI x1.At,.int .u8 0,.int .i32 x1.Rune,.slice none 0 0,.slice none 0 0]]) rfl dc rfl rfl rfl zxF (zfS (u1:=(⟨x1.At,0,x1.Rune,([]:List Int),([]:List Int)⟩:zaQ)) (u1_h0:=Hd.nil) (u1_h1:=Hd.nil) hq9) [7,8] kr rfl (zyN ?_)
     refine zyB rfl h (fun h => ?_) (fun h => ?_)
     ·
      refine zyG (zaj (k:=1) zrk rfl dc rfl rfl rfl (zaa zgo rfl dc rfl (show _=2 from rfl) (zaj (k:=5) zfY rfl dc rfl rfl rfl ?_)))
      obtain ⟨r6,hq10,h⟩:=zbL h
      refine zcE (vs:=[.map (some b4),.int .i32 x1.Rune]) rfl dc rfl rfl rfl zzc (znp hq10) (zab [2] kr rfl) ?_
      rintro v2
      refine zcs (L':=[cells b1 [.string s1] 9,cells b5 [.map (some b4)] 178,ziB (fun n:Int=>Value.int .i32 n) (fun p:zaA=>Value.agg #[.int .i32 p.e0,.int .i32 p.e1]) b4 r1.2,cells b6 [hd4.v] 120,zgf zbw za5 176 5 hd4.v l4,cells jb1 (zr2 x1) 60,cells b11 [zI x1.At,.int .u8 0,.int .i32 x1.Rune,.slice none 0 0,.slice none 0 0] 176,zv6 (.slice none 0 0) ([]:List Int),zv6 (.slice none 0 0) ([]:List Int),zv6 v2 r6]) (zab [0,1,9,3,4,5,6,7,8,10] kr rfl) ?_
      refine zbJ (k:=9) rfl (fun hd10 he2 => ?_)
      subst he2
      refine zyR 1 rfl (zyH (zyR 1 rfl ?_))
      obtain ⟨q1,hq11,h⟩:=zbL h
      refine za3 (k:=9) hq11 underlying174 zl8 rfl dc rfl rfl rfl rfl (zbD (i:=(0:Int).toNat) (j:=0) (k:=9) (q:=q1) zfY zcJ rfl dc rfl rfl (zbo hq11) rfl dc rfl (zaa ziZ rfl dc rfl (show _=2 from rfl) ?_))
      refine zaT (k:=6) (l':=[zI x1.At,.int .u8 0,.int .i32 q1,.slice none 0 0,.slice none 0 0]) zl8 rfl rfl rfl rfl rfl (fun _ _=>rfl) rfl ?_
      refine zyH (zyR 1 rfl ?_)
      refine zhx (k:=9) rfl (fun hw1 => ?_)
      obtain ⟨hg5,h⟩:=zbQ h
      obtain ⟨v3,hv1,hs1⟩:=zrj (lo:=some (zI 1)) (hi:=none) hw1 underlying174 zl8 (.inr rfl) (.inl ⟨rfl,rfl⟩) hg5
      refine zdA rfl dc rfl rfl rfl hs1 (zcO hv1 rfl dc rfl underlying174 (zyR 1 rfl (zyN (zaG (zer (enc:=(zlp (.i32))) (e:=21) (size:=1) ?_)))))
      refine zer (enc:=(zlp (.i32))) (e:=21) (size:=1) ?_
      refine zbP (β:=Nat×Int×Int×Int×(List Int)×(List Int)×Int×Hd×Hd) (fun b=>za1 (fun _ _ _ _ _ _=>none) (zf5 j3 r6) b.1 b.2.1 b.2.2.1 b.2.2.2.1 b.2.2.2.2.1 b.2.2.2.2.2.1 b.2.2.2.2.2.2.1=some r) (fun b=>[]) (fun b=>[(1,zP b1),(2,.slice none 0 0),(4,zP b5),(5,zP b6),(8,zP b11),(17,.func (.func 67) #[] #[zP b7]),(72,v3),(73,zI ((zp5 r6 1 (r6.length:Int)).length:Int)),(74,zI b.2.2.2.2.2.2.1)]) (fun b=>[cells b1 [.string s1] 9,cells b5 [.map (some b4)] 178,ziB (fun n:Int=>Value.int .i32 n) (fun p:zaA=>Value.agg #[.int .i32 p.e0,.int .i32 p.e1]) b4 r1.2,cells b6 [hd4.v] 120,zgf zbw za5 176 5 hd4.v l4,cells b11 [zI b.2.1,.int .u8 b.2.2.1,.int .i32 b.2.2.2.1,b.2.2.2.2.2.2.2.1.v,b.2.2.2.2.2.2.2.2.v] 176,zv6 b.2.2.2.2.2.2.2.1.v b.2.2.2.2.1,zv6 b.2.2.2.2.2.2.2.2.v b.2.2.2.2.2.1,zv6 hd10.v r6]) (fun b=>b.1) (zcD,x1.At,0,q1,([]:List Int),([]:List Int),0,Hd.nil,Hd.nil) h rfl (zbf rfl) (zab [0,1,2,3,4,6,10,11,9] kr rfl) ?_
      rintro ⟨n1,u23,u24,u25,u26,u27,x6,hd16,hd17⟩ h
      cases n1 with
      | zero=>exact zdO h
      | succ n1 =>
       obtain ⟨ag2,hag2⟩:∃ ag,ag=za1 (fun _ _ _ _ _ _=>none) (zf5 j3 r6) n1:=⟨_,rfl⟩
       have h:zf5 j3 r6 ag2 u23 u24 u25 u26 u27 x6=some r:=by rw [hag2]; exact h
       unfold zf5 at h
       refine zyG (zaS rfl zbF (zyN (zaE ?_)))
       refine zyB rfl h (fun h => ?_) (fun h => ?_)
       ·
        refine zal (zay (zaE (zaG (zyG ?_))))
        obtain ⟨q2,hq12,h⟩:=zbL h
        refine zbv hv1 hq12 underlying174 zl8 rfl dc rfl rfl rfl (zbD (i:=0+(1:Int).toNat+(x6:Int).toNat) (j:=0) (k:=8) (q:=q2) zfY zcJ rfl dc rfl rfl (Vw.get hv1 hq12) rfl dc rfl (zyR 1 rfl (zyN (zas (zyR 1 rfl (zkp (enc:=zbw) [((⟨u23,u24,u25,u26,u27⟩:zaQ),(hd16,hd17))] (k:=5) rfl zbV rfl (show 1≤maxLen by decide) ?_))))))
        obtain ⟨r7,hq13,h⟩:=zbL h
        refine zcE (vs:=[zP b11,.int .i32 q2]) rfl dc rfl rfl rfl zzd (zhM (vu1:=(.slice (some ⟨b11,0,none⟩) 1 1)) (u1:=(⟨u23,u24,u25,u26,u27⟩:zaQ)) (u1_h0:=hd16) (u1_h1:=hd17) (show [((⟨u23,u24,u25,u26,u27⟩:zaQ),(hd16,hd17))][0]?=some ((⟨u23,u24,u25,u26,u27⟩:zaQ),(hd16,hd17)) from rfl) hq13) (zab [5,6,7] kr rfl) ?_
        rintro ⟨hd18,hd19⟩
        refine zcs (L':=[cells b1 [.string s1] 9,cells b5 [.map (some b4)] 178,ziB (fun n:Int=>Value.int .i32 n) (fun p:zaA=>Value.agg #[.int .i32 p.e0,.int .i32 p.e1]) b4 r1.2,cells b6 [hd4.v] 120,zgf zbw za5 176 5 hd4.v l4,zuP (.slice (some ⟨b11,0,none⟩) 1 1) [(r7,(hd18,hd19))],emp,emp,zv6 hd10.v r6,zv6 hd18.v r7.low,zv6 hd19.v r7.high]) (zab [0,1,2,3,4,9,6,7,8,10,11] kr rfl) ?_
        refine zwG (k:=5) rfl (zBt zbV) ?_
        refine zaP (zae (zay (zas ?_)))
        obtain ⟨hg6,h⟩:=zbQ h
        refine zaS rfl (zbb (r:=x6+1) (IntWalk.i64_in _ hg6)) (zyR 1 rfl (zaP ?_))
        subst hag2
        exact zbr (n1,r7.at_,r7.broken,r7.base,r7.low,r7.high,x6+1,hd18,hd19) h (Nat.lt_succ_self _) rfl (zbf rfl) (zab [0,1,2,3,4,5,9,10,8] kr rfl)
       refine zbu (zaq (zaq (zaJ ?_)))
       exact zak (u23,u24,u25,u26,u27,b11,hd16,hd17) h rfl (zbf rfl) (zab [0,1,2,3,4,5,6,7] kr rfl)
     refine zal (zgE (enc:=(zlp (.i32))) (e:=21) (size:=1) ?_)
     refine zgE (enc:=(zlp (.i32))) (e:=21) (size:=1) ?_
     exact zak (x1.At,0,x1.Rune,([]:List Int),([]:List Int),b11,Hd.nil,Hd.nil) h rfl (zbf rfl) (zab [0,1,2,3,4,6,9,10] kr rfl)
    rintro ⟨u1,u2,u3,u4,u5,b10,hd8,hd9⟩ h
    rw [hj3] at h
    refine zas (zaj (k:=3) zmd rfl dc rfl rfl rfl (zaV (k:=5) (cs:=[zI u1,.int .u8 u2,.int .i32 u3,hd8.v,hd9.v]) znI rfl dc rfl rfl rfl rfl ?_))
    refine zbc (cs:=[zI u1,.int .u8 u2,.int .i32 u3,hd8.v,hd9.v]) (te:=176) (ps:=[(0,.tmp 82)]) rfl dc rfl (fun _=>by kernel_rfl) (fun b12 => ?_)
    refine zeE (k:=4) rfl znk (fun zs3 hz3 => ?_)
    obtain ⟨hg7,h⟩:=zbQ h
    refine zbx (k:=4) (k2:=8) (ys:=[((⟨u1,u2,u3,u4,u5⟩:zaQ),(hd8,hd9))]) underlying120 zwy zbV zhd rfl dc rfl rfl rfl rfl rfl rfl (by rw [zx9 hz3]; exact hg7) (fun v4 => ?_)
    refine zbJ (k:=4) rfl (fun hd20 he3 => ?_)
    subst he3
    refine zfs (k:=9) rfl (zab [6,7] kr rfl) rfl (zpi (nest:=za5) (zs:=zs3) (z:=((⟨u1,u2,u3,u4,u5⟩:zaQ),(hd8,hd9)))) ?_
    refine zfs (k:=4) rfl (zab [9] kr rfl) rfl (ziR (enc:=zbw) (nest:=za5) (zyv hz3)) ?_
    refine zcs (L':=[cells b1 [.string s1] 9,cells b5 [.map (some b4)] 178,ziB (fun n:Int=>Value.int .i32 n) (fun p:zaA=>Value.agg #[.int .i32 p.e0,.int .i32 p.e1]) b4 r1.2,cells b6 [hd4.v] 120,zgf zbw za5 176 5 hd20.v (l4++[(⟨u1,u2,u3,u4,u5⟩:zaQ)]),cells b10 [zI u1,.int .u8 u2,.int .i32 u3,hd8.v,hd9.v] 176,emp,emp,cells b12 [zI u1,.int .u8 u2,.int .i32 u3,hd8.v,hd9.v] 176]) (zab [0,1,2,3,4,5,6,7,8] kr rfl) ?_
    refine zaT (k:=3) (l':=[hd20.v]) zwb rfl rfl rfl rfl rfl (fun _ _=>rfl) rfl ?_
    refine zaP (zae ?_)
    exact zcN (l4++[(⟨u1,u2,u3,u4,u5⟩:zaQ)],hd20) (fun post2 e2=>by have e9:=zds hxs1 e2; subst e9; subst hag1; exact h) (zab [0,1,2,3,4] kr rfl)
   ·
    rintro dm1 ⟨l4,hd4⟩ hinv
    have h:dn1 l4=some r:=hinv [] (List.append_nil _).symm
    rw [hdn1] at h
    refine zew (k:=13) (j:=0) rfl rfl dc ?_
    refine zae ?_
    exact zak (l4,b6,hd4,dm1::([]:List Nat)) h rfl (zbf rfl) (zab [11,12,0] kr rfl)
   rintro dm1 c pre x1 post g hxs hX
   exact (show False from hX).elim
  rintro ⟨l1,b2,hd1,ds1⟩ h
  rw [hj1] at h
  refine zyG (zaj (k:=0) zmd rfl dc rfl rfl rfl (zyR 1 rfl (zyN (zau (zcy (by simp) ?_)))))
  cases h
  exact zdh (rs:=[.tmp 2]) ds1 hd1.v (.inl rfl) (zbq (k:=2) rfl) results48 (.cons (.tmp rfl) .nil) rfl (zab [1] kr rfl)
 exact fun b hb=>hb.elim
def zdC (l1:List zaQ) (j1:zBA→Option zBA) (ag1:zBA→Int→Option zBA) (b4:zBA) (x3:Int):Option zBA := zaB (decide ((x3:Int)<(l1.length:Int))) ( zbE (fun (j2:zBA→Option zBA) => zan (zdf l1 x3) fun (x4:zaQ) => zaB (decide ((x4.base:Int)<0)) ( grd (b4.size+1≤140737488355328) <| grd (∀ x∈([x4.broken]:List Int),U8 x) <| j2 (b4++(zk1 [x4.broken]))
) ( zan (ziH x4) fun (r1:zBA) => grd (b4.size+r1.size≤140737488355328) <| j2 (b4++r1)
)
) (fun (b5:zBA) => grd (I64 (x3+1)) <| ag1 b5 (x3+1)
)
) ( j1 b4
)
def zfz (l1:List zaQ):Option zBA := zbE (fun (j1:zBA→Option zBA) => za1 (fun _ _=>none) (zdC l1 j1) zcD ByteArray.empty 0
) (fun (b1:zBA) => some b1
)
theorem ziF {vvl1 vl1:Value} {Zl1:List (zaQ×Hd×Hd)} {kl1:Nat} {zl1:List (zaQ×Hd×Hd)} {l1:List zaQ} (hwl1:Vw vvl1 Zl1 5 kl1 vl1 zl1) (hzl1:zl1.map Prod.fst=l1) {r:zBA} (h:zfz l1=some r):Fn prog 47 [vl1,.func (.func 49) #[] #[]] [zuP vvl1 Zl1,own za5 Zl1] (fun _b:Unit=>.string r) (fun _b=>[zuP vvl1 Zl1,own za5 Zl1]):=by
 unfold zfz at h
 refine Fn.intro func47 rfl ntmps47 (by simp) ?_
 intro w0 K
 obtain ⟨j1,hj1,h⟩:=zbT h
 refine za8 (β:=zBA×Value) 2 rfl (fun b=>j1 b.1=some r) (fun b=>[]) (fun b=>[(5,b.2)]) (fun b=>[zuP vvl1 Zl1,own za5 Zl1,byt 5 b.2 b.1]) (fun cut => ?_) ?_
 ·
  refine zyG (zyR 1 rfl (zyH (zyR 1 rfl (zyN (cut (zyG (zyR 1 rfl ?_)))))))
  refine zhi hzl1 hwl1 rfl dc rfl underlying120 (zyR 1 rfl (zyN (zaG (zuH (e:=5) ?_))))
  refine zbP (β:=Nat×zBA×Int×Value) (fun b=>za1 (fun _ _=>none) (zdC l1 j1) b.1 b.2.1 b.2.2.1=some r) (fun b=>[]) (fun b=>[(1,.func (.func 49) #[] #[]),(5,b.2.2.2),(8,vl1),(9,zI (l1.length:Int)),(10,zI b.2.2.1)]) (fun b=>[zuP vvl1 Zl1,own za5 Zl1,byt 5 b.2.2.2 b.2.1]) (fun b=>b.1) (zcD,ByteArray.empty,0,(.slice none 0 0)) h rfl (zbf rfl) (zab [0,1,2] kr rfl) ?_
  rintro ⟨n1,b4,x3,v4⟩ h
  cases n1 with
  | zero=>exact zdO h
  | succ n1 =>
   obtain ⟨ag1,hag1⟩:∃ ag,ag=za1 (fun _ _=>none) (zdC l1 j1) n1:=⟨_,rfl⟩
   have h:zdC l1 j1 ag1 b4 x3=some r:=by rw [hag1]; exact h
   unfold zdC at h
   refine zyG (zaS rfl zbF (zyN (zaE ?_)))
   refine zyB rfl h (fun h => ?_) (fun h => ?_)
   ·
    refine zal (zay ?_)
    obtain ⟨j2,hj2,h⟩:=zbT h
    refine za8 (β:=zBA×Value) 0 rfl (fun b=>j2 b.1=some r) (fun b=>[]) (fun b=>[(1,.func (.func 49) #[] #[]),(5,b.2),(8,vl1),(9,zI (l1.length:Int)),(10,zI x3)]) (fun b=>[zuP vvl1 Zl1,own za5 Zl1,byt 5 b.2 b.1]) (fun cut => ?_) ?_
    ·
     refine cut (zaG (zyG ?_))
     obtain ⟨x4,hq1,h⟩:=zbL h
     obtain ⟨⟨eh1,eh2⟩,eq1⟩:=zjk hzl1 hq1
     refine zbv hwl1 eq1 underlying120 zoW rfl dc rfl rfl rfl (zgr (i:=kl1+(x3:Int).toNat) (j:=0) (k:=0) (q:=(x4,(eh1,eh2))) (cs:=[zI x4.at_,.int .u8 x4.broken,.int .i32 x4.base,eh1.v,eh2.v]) znI zbV rfl dc rfl rfl (Vw.get hwl1 eq1) rfl rfl rfl ?_)
     refine zbh zvO rfl dc (fun b6 => ?_)
     refine zaZ (k:=3) (vs:=[zI x4.at_,.int .u8 x4.broken,.int .i32 x4.base,eh1.v,eh2.v]) (l':=[zI x4.at_,.int .u8 x4.broken,.int .i32 x4.base,eh1.v,eh2.v]) zoW rfl rfl rfl rfl rfl (show _≤_ by simp) rfl rfl ?_
     refine zyH (zaa ziZ rfl dc rfl (show _=2 from rfl) (zaj (k:=3) zfY rfl dc rfl rfl rfl (zaS rfl zbF (zyN ?_))))
     refine zyB rfl h (fun h => ?_) (fun h => ?_)
     ·
      refine zas (zyR 1 rfl (zaa zvu rfl dc rfl (show _=1 from rfl) (zaj (k:=3) zBm rfl dc rfl rfl rfl ?_)))
      refine zbc (cs:=[.int .u8 x4.broken]) (te:=5) (ps:=[(0,.tmp 19)]) rfl dc rfl (fun _=>by kernel_rfl) (fun b7 => ?_)
      obtain ⟨hg1,h⟩:=zbQ h
      obtain ⟨hg2,h⟩:=zbQ h
      refine zpX (k:=2) (k2:=4) (ys:=(zk1 [x4.broken])) underlying144 zBh rfl dc rfl rfl rfl rfl (zqf hg2) rfl hg1 (fun v6 => ?_)
      refine zyR 1 rfl (zaP (zae ?_))
      exact zak (b4++(zk1 [x4.broken]),v6) h rfl (zbf rfl) (zab [0,1,2] kr rfl)
     refine zas (zyR 2 rfl (zaV (k:=3) (cs:=[zI x4.at_,.int .u8 x4.broken,.int .i32 x4.base,eh1.v,eh2.v]) znI rfl dc rfl rfl rfl rfl ?_))
     refine zeE (k:=1) rfl (zsj (Vw.get hwl1 eq1)) (fun _ _ => ?_)
     obtain ⟨r1,hq2,h⟩:=zbL h
     refine zi7 (v:=.string r1) (vs:=[.agg #[zI x4.at_,.int .u8 x4.broken,.int .i32 x4.base,eh1.v,eh2.v]]) rfl dc rfl rfl rfl zAx (zox (u1:=x4) (u1_h0:=eh1) (u1_h1:=eh2) hq2) [4,5] kr rfl ?_
     obtain ⟨hg3,h⟩:=zbQ h
     refine zpW (k:=2) underlying144 underlying9 zBh rfl dc rfl rfl rfl hg3 (fun v7 => ?_)
     refine zyR 1 rfl (zaP (zae (zgy (k:=1) rfl (zab [4,5] kr rfl) rfl (zpa (nest:=za5) (Vw.get hwl1 eq1) rfl) ?_)))
     exact zak (b4++r1,v7) h rfl (zbf rfl) (zab [0,1,2] kr rfl)
    rintro ⟨b5,v5⟩ h
    rw [hj2] at h
    refine zas ?_
    obtain ⟨hg4,h⟩:=zbQ h
    refine zaS rfl (zbb (r:=x3+1) (IntWalk.i64_in _ hg4)) (zyR 1 rfl (zaP ?_))
    subst hag1
    exact zbr (n1,b5,x3+1,v5) h (Nat.lt_succ_self _) rfl (zbf rfl) (zab [0,1,2] kr rfl)
   refine zbu (zaq (zaq (zaJ ?_)))
   exact zak (b4,v4) h rfl (zbf rfl) (zab [0,1,2] kr rfl)
 rintro ⟨b1,v1⟩ h
 rw [hj1] at h
 refine zyG (zyR 1 rfl (zuG (k:=2) rfl dc rfl rfl underlying144 underlying5 underlying9 (zyR 1 rfl (zyN (zau ?_)))))
 cases h
 exact zbt (rs:=[.tmp 4]) () (.inl rfl) results47 (.cons (.tmp rfl) .nil) rfl (zab [0,1] kr rfl)
def zjy (s1:zBA):Option zBA := zan (ziG s1) fun (r1:(List zaQ)) => zan (zfz r1) fun (r2:zBA) => some r2
theorem zpr {s1:zBA} {r:zBA} (h:zjy s1=some r):FnP prog 19 [.string s1] (.string r):=by
 unfold zjy at h
 refine FnP.intro func19 rfl ntmps19 (by simp) ?_
 intro w0 K
 refine zyG (zyR 1 rfl (zyH (zyR 1 rfl ?_)))
 obtain ⟨r1,hq1,h⟩:=zbL h
 refine zcE (vs:=[.string s1]) rfl dc rfl rfl rfl zAy (zow hq1) Splits.nil ?_
 rintro v1
 refine zn1 (k:=0) rfl (fun hd1 he1 => ?_)
 subst he1
 refine zeE (k:=0) rfl znk (fun zs1 hz1 => ?_)
 refine zhx (k:=0) rfl (fun hw1 => ?_)
 obtain ⟨r2,hq2,h⟩:=zbL h
 refine zi7 (v:=.string r2) (vs:=[hd1.v,.func (.func 49) #[] #[]]) rfl dc rfl rfl rfl zAz (ziF hw1 hz1 hq2) [0,1] kr rfl (zyR 1 rfl (zyN (zau ?_)))
 cases h
 exact za2 2 results19
end Go.Proofs.YtmmhmppcemfdcaaGreatDoor
