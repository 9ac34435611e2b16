/-
  Texts laid together: Op, Ir, Rq, Ms, Tab, Lt, Pcs, Tok, Vs, PcW, Cls, ClsW, ClsW2, SeqW, RefPcs, Runs, C0, Gi, Im, Shf, Ck, Dr, Bytes, Bld, Gr, Shi, In. Nothing is assumed.
-/
import Derived.Test.YtifpjbgnikjglaaDoorCollateBack1
import Derived.Test.YtifpjbgnikjglaaDoorProg
import Derived.Shelf.Abstract
import Derived.Shelf.Strings.Builder1
import Derived.Shelf.Small.Strs
import Derived.Shelf.Strings.BuilderF
import Derived.Shelf.Strings.Search1
import Derived.Shelf.Strings.Search2
import Derived.Shelf.Strings.Search3
import Derived.Shelf.LaysM
import Derived.Shelf.Strings.Shaped
import Derived.Shelf.Strings.Prefix
import Derived.Shelf.Unicode.DecodeSlow
import Derived.Lib.AppendStr
import Derived.Laws.IdiomStrings
import Derived.Lib.BufferRead
import Derived.Lib.Builder
import Derived.Outline
import Derived.Lib.UnsafeStr
import Derived.Lib.MakeNoZero
import Derived.Shelf.Spec.SlicesInsert
import Derived.Shelf.Spec.SlicesInsertGrow
set_option maxRecDepth 100000
set_option maxHeartbeats 4000000
namespace Go.Proofs.YtifpjbgnikjglaaDoor
open Go.RowKit Go.Lib
open Tryd
set_option linter.unusedVariables false
set_option linter.unusedSimpArgs false
section
variable {F:Fence} {P:Program} {w0:World} {K:Nat→Prop} {N:Nat} {dfs:List Deferred} {ops:Array Oper} {Q:Exit→Act→World→Prop} {rest:List Oper} {σ:List (Nat×Value)} {L:List Asn} {c:Code} {ex:Exit} {k:Nat}
 {α η:Type} {enc:α×η→List Value} {nest:α×η→List Asn} {t:TypeId} {p:Value} {m:Option α} {x:α}
theorem zoc (enc:α×η→List Value) (nest:α×η→List Asn) (t:TypeId) (h:TX w0 K N dfs Q ex σ (L++[zkZ enc nest t (.pointer none) none])):TX w0 K N dfs Q ex σ L:=fun a w ha hw =>
 h a w ha (hw.grow (C':=fun _=>False) (Ext.refl _ _) (sepL.one (A:=zkZ enc nest t (.pointer none) none) ⟨fun _ h=>h,rfl⟩))
theorem zhN (h:m=some x):Entl [zkZ enc nest t p m] (fun bh:Nat×η=>cells bh.1 (enc (x,bh.2)) t::nest (x,bh.2)) (fun bh=>p=.pointer (some ⟨bh.1,0,none⟩)):=fun C w hh=>by
 subst h
 obtain ⟨b,hd,h2,h3⟩:=pobj_some.1 (sepL.one1.1 hh)
 exact ⟨(b,hd),h2,h3⟩
def zzp (p:Value) (m:Option α):Prop:=(m.isNone=true∧p=.pointer none)∨(m.isNone=false∧∃ b,p=.pointer (some ⟨b,0,none⟩))
theorem zsU (hk:L[k]?=some (zkZ enc nest t p m)) (h:zzp p m→TO F P w0 K N dfs ops Q rest σ L):TO F P w0 K N dfs ops Q rest σ L:=fun a w ha hw=>by
 obtain ⟨C1,h1,_⟩:=hw.focus hk
 refine h ?_ a w ha hw
 rcases zqt h1 with ⟨rfl,h2⟩ | ⟨x,b,rfl,h2⟩
 ·exact .inl ⟨rfl,h2⟩
 ·exact .inr ⟨rfl,b,h2⟩
theorem zqU {ty e':TypeId} {w:World} (ht:P.underlying ty=some (.pointer e')):(Op.equal ty (.pointer none) (.pointer none)).run P w=.ok true w:=by
 have h:∀ d,(Op.equalIn (d+1) ty (.pointer none) (.pointer none)).run P w=.ok true w:=fun d=>by simp [Op.equalIn,run_underlying ht]
 exact h 9999
theorem zq2 {ty e':TypeId} {y z:Operand} (ht:P.underlying ty=some (.pointer e')) (hv:zzp p m) (w:World):(do eqGuard .eql ty y z p (.pointer none); binOp .eql ty p (.pointer none):Sem Value).run P w=.ok (.bool m.isNone) w:=by
 rcases hv with ⟨h1,rfl⟩ | ⟨h1,b,rfl⟩
 ·rw [h1]; simp [eqGuard,binOp,Sem.run_bind,zqU ht]
 ·rw [h1]; exact zfE ht w
end
section
variable {F:Fence} {P:Program} {w0:World} {K:Nat→Prop} {N:Nat} {dfs:List Deferred} {ops:Array Oper} {Q:Exit→Act→World→Prop} {rest:List Oper} {σ σ':List (Nat×Value)} {L L' R As Bs:List Asn} {o:Oper} {v:Value}
 {d:Nat} {t:TypeId} {op:Op} {ty:TypeId} {pos:String} {aft:Array Edge} {g:Option (Nat×Bool)} {x y z:Operand} {c c1 c2:Code} {k:Nat} {A B:Asn} {RO:List (Nat×Obj)} {RD RD0:List Asn}
def ItrR (P:Program) (gf:FuncId) (caps:List Value) {α:Type} (enc:α→List Value) (xs:List α) (RD:List Asn):Prop :=
 ∀ (w:World) (D:Nat→Prop),(∀ A∈RD,∃ C,A.P C w∧∀ k,C k→D k)→(∀ k,D k→k<w.heap.size)→zp2 P gf caps.toArray (fun x=>(enc x).toArray) xs D w
theorem ItrR.intro {gf:FuncId} {fn:Func} {caps:List Value} {α:Type} {enc:α→List Value} {xs:List α} (hf:P.funcs[gf]?=some fn) (hb:fn.body=some c) (hn:fn.ntmps=N) (hN:caps.length+1≤N)
  (h:∀ l w0 K (I X:List α→Asn),Rd w0 K RD→YC P l enc xs I X w0 K →
   TC Fence.wide P w0 K N [] (bodyPostM Fence.wide 0 P fn (FY xs I X w0 K)) c (zfT (.func (.yield l) #[] #[]::caps)) [I []]):ItrR P gf caps enc xs RD:=by
 subst hn
 intro w D hRD hDlt l I X C0 W hD hsz hC0 hIl hXl hy h0
 have hRo:Rd W C0 RD:=fun A hA=>by
  obtain ⟨C,h1,h2⟩:=hRD A hA
  exact ⟨C,A.loc h1 hsz (fun k hk=>(hD k (h2 k hk)).2),fun k hk hc=>(hC0 k hc).2 (h2 k hk)⟩
 have:=h l W C0 (fun pre=>zwq (I pre) (fun C W W'=>hIl pre C W W')) (fun pre=>zwq (X pre) (fun C W W'=>hXl pre C W W')) hRo (fun pre x post C W1 hxs he hi=>by
  obtain ⟨f1,t1,a1,b1,hr1,hr2⟩:=hy pre x post C W1 hxs he hi.1
  refine ⟨f1,t1,a1,b1,hr1,hr2.mono ?_⟩
  rintro e w2 ⟨b,rfl,C',hx,hc⟩
  have hlt:∀ k,C' k→k<w2.heap.size:=fun k hk=>by
   have:=hx.1.size
   rcases hx.2 k hk with h | h
   ·have:=hi.2 k h; omega
   ·exact h.2
  exact ⟨b,rfl,C',hx,hc.imp (fun h=>⟨h.1,h.2,hlt⟩) (fun h=>⟨h.1,h.2,hlt⟩)⟩)
 have hs:(Value.func (.yield l) #[] #[]::caps).toArray=#[.func (.yield l) #[] #[]]++caps.toArray:=by simp
 rw [← hs]
 refine (zeK hf hb (this _ W (zh5 _ (by simpa using hN)) ⟨C0,sepL.one ⟨h0,fun k hk=>(hC0 k hk).1⟩,Ext.refl _ _⟩)).mono ?_
 rintro e w' ⟨he,hh⟩
 refine ⟨he,?_⟩
 rcases hh with ⟨C',hh,hx⟩ | ⟨pre,x,post,hxs,C',hh,hx⟩
 ·obtain ⟨C1,C2,g1,g2,_,g4⟩:=hh
  have:C'=C1:=funext fun k=>propext (by rw [g4]; exact ⟨fun h=>h.resolve_right (g2 k),.inl⟩)
  subst this
  exact ⟨C',hx,.inl g1.1⟩
 ·obtain ⟨C1,C2,g1,g2,_,g4⟩:=hh
  have:C'=C1:=funext fun k=>propext (by rw [g4]; exact ⟨fun h=>h.resolve_right (g2 k),.inl⟩)
  subst this
  exact ⟨C',hx,.inr ⟨pre,x,post,hxs,g1.1⟩⟩
section
variable {α β γ δ:Type}
theorem zod {gf:FuncId} {caps:List Value} {enc:α→List Value} {xs:List α} {ps:List Nat} {assign body:Code} (hRd:Rd w0 K RD0) (hRo:Ro w0 K RO)
  (hg:ev σ x=some (.func (.func gf) #[] caps.toArray)) (hent:∀ args w,(callFunc gf args).run P w=.ok (.enter gf args) w) (hY:ItrR P gf caps enc xs RD)
  (Inv:List α→β→Prop) (LI:List α→β→List Asn) (X:Code→List α→γ→Prop) (LX:Code→List α→γ→List Asn) (σJ:List α→α→β→δ→List (Nat×Value)) (LJ:List α→α→β→δ→List Asn) (b0:β)
  (h0:Inv [] b0) (hs:Splits L (LI [] b0) R) (hS:RdS R RD0 RD) (hps:∀ x,(enc x).length=ps.length) (hpN:∀ p∈ps,p<N)
  (hassign:∀ l r pre e post b w1 K1,xs=pre++e::post→Ext K K1 w0 w1→Ro w1 K1 (RO++[(l,.loop r)])→Inv pre b →
   TC (Fence.wide.inRound l) P w1 K1 N [] (Exit.then (fun a w=>∃ j,St w1 K1 N [] (σJ pre e b j) (LJ pre e b j) a w) (fun _ _ _=>False)) assign (ziR ps (enc e) σ) (LI pre b))
  (hbody:∀ l r pre e post b j w1 K1,xs=pre++e::post→Ext K K1 w0 w1→Ro w1 K1 (RO++[(l,.loop r)])→Inv pre b→TC (Fence.wide.inRound l) P w1 K1 N [] (RQ Inv LI X LX (pre++[e]) w1 K1) body (σJ pre e b j) (LJ pre e b j))
  (hdone:∀ d b,Inv xs b→TX w0 K N ({ target:=.collected d,args:=#[] }::dfs) Q .normal σ (R++(LI xs b++[zdW d])))
  (hstop:∀ d c pre e post b,xs=pre++e::post→X c (pre++[e]) b→TC Fence.wide P w0 K N ({ target:=.collected d,args:=#[] }::dfs) Q c σ (R++(LX c (pre++[e]) b++[zdW d]))) :
  TC Fence.wide P w0 K N dfs Q (.rangeFunc x ps.toArray assign body) σ L:=by
 intro a w ha hw
 obtain ⟨C1,C2,g1,g2,g3,gx,hstep⟩:=hw.split2 hs
 have hDh:Rd w C1 RD:=hS.rd (w0:=w0) (K:=K) g2 g3 (hRd.ext gx)
 have hlt1:=g1.lt
 have hro1:∀ {C:Nat→Prop} {W:World},Ext K C w0 W→Ro W C RO:=fun {C W} hx p hp=>by
  obtain ⟨h1,h2⟩:=hRo p hp
  refine ⟨hx.1.at h1 h2,fun h => ?_⟩
  rcases hx.2 _ h with h | h
  ·exact h2 h
  ·have:=zbC h1; omega
 refine zpd (gf:=gf) (lb:=caps.toArray) (ha.ev hg) hent (hY w (fun k=>k<w.heap.size∧¬ C1 k) (fun A hA=>by
  obtain ⟨C,h1,h2⟩:=hDh A hA
  exact ⟨C,h1,fun k hk=>⟨A.lt h1 k hk,h2 k hk⟩⟩) (fun k h=>h.1)) (fun k h=>⟨h.1,rfl⟩) (Nat.le_refl _) (fun e=>by simp [hps])
  (fun pre C W=>∃ b,Inv pre b∧sepL (LI pre b) C W) (fun c pre C W=>∃ b,X c pre b∧sepL (LX c pre b) C W)
  (fun pre e a1 C W=>∃ b j,Inv pre b∧At N [] (σJ pre e b j) a1∧sepL (LJ pre e b j) C W) ?_ ?_ ?_ C1 (fun k hk=>⟨hlt1 k hk,fun h=>h.2 hk⟩) ⟨b0,h0,g1⟩ ?_ ?_ ?_ ?_
 ·rintro pre C W W' ⟨b,h1,h2⟩ hs hk; exact ⟨b,h1,h2.loc hs hk⟩
 ·rintro c pre C W W' ⟨b,h1,h2⟩ hs hk; exact ⟨b,h1,h2.loc hs hk⟩
 ·rintro pre e a1 _ C W W' ⟨b,j,h1,h2,h3⟩ hs hk; exact ⟨b,j,h1,h2,h3.loc hs hk⟩
 ·rintro l pre e post C W1 hxs hext ⟨b,hb,hi⟩ hn hl ⟨r,hr⟩
  have hx1:Ext K C w0 W1:=gx.trans hext
  refine wpIn_mono (hassign l r pre e post b W1 C hxs hx1 ((hro1 hx1).snoc hr hn) hb _ W1 (ha.zip ps (enc e) hpN) ⟨C,hi,Ext.refl _ _⟩) ?_
  rintro ex a' w' hq
  cases ex with
  | normal =>
   obtain ⟨j,hj,C',hL',hx'⟩:=hq
   exact ⟨C',hx',b,j,hb,hj,hL'⟩
  | _=>exact hq
 ·rintro l pre e post C W1 a1 hxs hext ⟨b,j,hb,hat,hi⟩ hn hl ⟨r,hr⟩
  have hx1:Ext K C w0 W1:=gx.trans hext
  refine wpIn_mono (hbody l r pre e post b j W1 C hxs hx1 ((hro1 hx1).snoc hr hn) hb a1 W1 hat ⟨C,hi,Ext.refl _ _⟩) ?_
  rintro ex a' w' hq
  cases ex with
  | normal=>obtain ⟨b',h1,C',h2,h3⟩:=hq; exact ⟨C',h3,b',h1,h2⟩
  | ret=>obtain ⟨b',h1,C',h2,h3⟩:=hq; exact ⟨C',h3,b',h1,h2⟩
  | exit id=>obtain ⟨b',h1,C',h2,h3⟩:=hq; exact ⟨C',h3,b',h1,h2⟩
  | goto id=>obtain ⟨b',h1,C',h2,h3⟩:=hq; exact ⟨C',h3,b',h1,h2⟩
  | panic _=>exact hq
  | outgrown=>exact hq
 ·rintro d C W hext ⟨b,hb,hi⟩ hd hCd hdef
  refine hdone d b hb _ W ⟨ha.1,by rw [← ha.2.1],ha.2.2⟩ (hstep _ (fun k=>C k∨k=d) W ⟨hext.1,fun k hk => ?_⟩ ?_)
  ·rcases hk with hk | rfl
   ·exact hext.2 k hk
   ·exact .inr ⟨hd,zbC hdef⟩
  ·exact hi.append (sepL.one ⟨fun k=>Iff.rfl,hdef⟩) (fun k hk e=>hCd (e ▸ hk))
 ·rintro d c pre e post C W hxs hext ⟨b,hb,hi⟩ hd hCd hdef
  refine hstop d c pre e post b hxs hb _ W ⟨ha.1,by rw [← ha.2.1],ha.2.2⟩ (hstep _ (fun k=>C k∨k=d) W ⟨hext.1,fun k hk => ?_⟩ ?_)
  ·rcases hk with hk | rfl
   ·exact hext.2 k hk
   ·exact .inr ⟨hd,zbC hdef⟩
  ·exact hi.append (sepL.one ⟨fun k=>Iff.rfl,hdef⟩) (fun k hk e=>hCd (e ▸ hk))
end
end
theorem zqn {α:Type} {enc:α→List Value} {size k:Nat} {vv:Value} {xs:List α} {e:TypeId} (hz:∀ x,(enc x).length=size) {C:Nat→Prop} {w:World} (h:(vec enc e size vv xs).P C w):(ze5 enc size vv k xs).P C w :=
 ⟨(zek hz h).1,fun i x j v h1 h2 h3=>(zek hz h).2 i x j v (Nat.zero_le _) h2 h3⟩
theorem Rd.up {α:Type} {enc:α→List Value} {size k m:Nat} {vv:Value} {xs:List α} {w0:World} {K:Nat→Prop} {RD:List Asn} {i:Nat} (hr:Rd w0 K RD) (hi:RD[i]?=some (ze5 enc size vv k xs)):Rd w0 K (RD++[ze5 enc size vv (k+m) xs]) :=
 hr.append fun B hB=>by
  rw [List.mem_singleton] at hB
  subst hB
  obtain ⟨C,h,hk⟩:=hr _ (List.mem_of_getElem? hi)
  exact ⟨C,⟨h.1,fun i x j v h1 h2 h3=>h.2 i x j v (by omega) h2 h3⟩,hk⟩
structure zzP (α:Type) where
 vv:Value
 k:Nat
 L:List α
def zmC {α:Type} (enc:α→List Value) (size:Nat) (hd:Hd) (xs:List α):Asn :=
 exA fun b:{b:zzP α // Vw b.vv b.L size b.k hd.v xs}=>ze5 enc size b.1.vv b.1.k b.1.L
theorem zmB {α:Type} {enc:α→List Value} {size:Nat} {e:TypeId} {hd:Hd} {xs:List α} (hlen:∀ x,(enc x).length=size) {C:Nat→Prop} {w:World} (h:(vec enc e size hd.v xs).P C w):(zmC enc size hd xs).P C w :=
 ⟨⟨⟨hd.v,0,xs⟩,zph h⟩,zek hlen h⟩
theorem zts {α:Type} {enc:α→List Value} {size:Nat} {hd:Hd} {xs:List α} {vv:Value} {k:Nat} {L:List α} (hV:Vw vv L size k hd.v xs) {C:Nat→Prop} {w:World} (h:(ze5 enc size vv k L).P C w):(zmC enc size hd xs).P C w :=
 ⟨⟨⟨vv,k,L⟩,hV⟩,h⟩
section
variable {α η:Type} {enc:α×η→List Value} {nest nestR:α×η→List Asn} {e:TypeId} {size:Nat} {v:Value} {xs:List α} {zs:List (α×η)} {z:α×η}
def zx2 (nestR:α×η→List Asn) (zs:List (α×η)):Asn :=
  ⟨fun C w=>(∀ k,C k→k<w.heap.size)∧∀ z∈zs,∀ A∈nestR z,∃ D,A.P D w∧∀ k,D k→C k,
   fun h k hk=>h.1 k hk,
   fun {C w w'} h hs hk=>⟨fun k hC=>Nat.lt_of_lt_of_le (h.1 k hC) hs,fun z hz A hA=>by
     obtain ⟨D,h1,h2⟩:=h.2 z hz A hA
     exact ⟨D,A.loc h1 hs (fun k hD=>hk k (h2 k hD)),h2⟩⟩⟩
variable {w0:World} {K:Nat→Prop} {RD:List Asn} {i j:Nat}
theorem Rd.openSl {β:Type} {enc1:β→List Value} {hd:Hd} {ys:List β} (hr:Rd w0 K RD) (hi:RD[i]?=some (zmC enc1 size hd ys)):∃ vv k L,Vw vv L size k hd.v ys∧Rd w0 K (RD++[ze5 enc1 size vv k L]):=by
 obtain ⟨C,⟨⟨⟨vv,k,L⟩,hV⟩,hC⟩,hk⟩:=hr _ (List.mem_of_getElem? hi)
 refine ⟨vv,k,L,hV,hr.append fun B hB => ?_⟩
 rw [List.mem_singleton] at hB
 subst hB
 exact ⟨C,hC,hk⟩
end
section
variable {α η:Type} {nest:α×η→List Asn} {zs ys:List (α×η)}
end
section
variable {F:Fence} {P:Program} {w0:World} {K:Nat→Prop} {N:Nat} {dfs:List Deferred} {Q:Exit→Act→World→Prop} {σ:List (Nat×Value)} {L:List Asn} {c:Code} {k:Nat} {α η:Type} {enc:α×η→List Value} {nest:α×η→List Asn} {t:TypeId} {p:Value} {m:Option α}
end
section
def zaw (h:Hd):Nat:=match h.1 with
 | some a=>a.block
 | none=>0
abbrev FsL:Type:=List (zBA×(List zBA×Hd))
def fsV (z:List zBA×Hd):Value:=z.2.v
def fsR (z:List zBA×Hd):List Asn:=[zmC zgU 1 z.2 z.1]
def fsP (L:FsL):List (zBA×List zBA):=L.map fun p=>(p.1,p.2.1)
abbrev fsM (b:Nat) (L:FsL):Asn:=za5 (fun s:zBA=>Value.string s) fsV b L
abbrev fsO (L:FsL):Asn:=zx2 fsR (L.map Prod.snd)
def zbe (b:Nat) (M:List (zBA×List zBA)):Asn:=exA fun L:{L:FsL // fsP L=M}=>zej [fsM b L.1,fsO L.1]
theorem zlb (k:zBA):∀ (L:FsL),zbK k (fsP L)=(zbK k L).map Prod.fst
 | []=>rfl
 | p::L=>by
  have ih:=zlb k L
  show zbK k ((p.1,p.2.1)::fsP L)=(zbK k (p::L)).map Prod.fst
  unfold zbK
  show (if k=p.1 then some p.2.1 else zbK k (fsP L))=(if k=p.1 then some p.2 else zbK k L).map Prod.fst
  split
  ·rfl
  ·exact ih
theorem zrK (k:zBA) (xs:List zBA) (hd:Hd):∀ (L:FsL),fsP (zgw k (xs,hd) L)=zgw k xs (fsP L)
 | []=>rfl
 | p::L=>by
  have ih:=zrK k xs hd L
  show fsP (zgw k (xs,hd) (p::L))=zgw k xs ((p.1,p.2.1)::fsP L)
  unfold zgw
  show fsP (if k=p.1 then (k,(xs,hd))::L else p::zgw k (xs,hd) L)=(if k=p.1 then (k,xs)::fsP L else (p.1,p.2.1)::zgw k xs (fsP L))
  split
  ·rfl
  ·show (p.1,p.2.1)::fsP (zgw k (xs,hd) L)=_
   rw [ih]
theorem zps (k:zBA) (z:List zBA×Hd):∀ (L:FsL),∀ y∈(zgw k z L).map Prod.snd,y=z∨y∈L.map Prod.snd
 | [],y,h=>.inl (by simpa [zgw] using h)
 | p::L,y,h=>by
  have ih:=zps k z L
  unfold zgw at h
  have h:y∈(if k=p.1 then (k,z)::L else p::zgw k z L).map Prod.snd:=h
  split at h
  ·rcases List.mem_cons.1 h with rfl | h
   ·exact .inl rfl
   ·exact .inr (List.mem_cons_of_mem _ h)
  ·rcases List.mem_cons.1 h with rfl | h
   ·exact .inr (List.mem_cons_self ..)
   ·exact (ih y h).imp id (List.mem_cons_of_mem _)
theorem zmP {κ ν:Type} [DecidableEq κ] (k:κ) (v:ν):∀ (L:List (κ×ν)),zbK k L=some v→v∈L.map Prod.snd
 | [],h=>by cases h
 | p::L,h=>by
  unfold zbK at h
  have h:(if k=p.1 then some p.2 else zbK k L)=some v:=h
  split at h
  ·cases h; exact List.mem_cons_self ..
  ·exact List.mem_cons_of_mem _ (zmP k v L h)
variable {b:Nat} {M:List (zBA×List zBA)} {L:FsL}
theorem znj:Entl [zbe b M] (fun L:FsL=>[fsM b L,fsO L]) (fun L=>fsP L=M):=fun C w h=>by
 obtain ⟨⟨L,hL⟩,hz⟩:=sepL.one1.1 h
 exact ⟨L,hL,hz⟩
theorem zoj:Entl [fsM b []] (fun _:Unit=>[zbe b []]) (fun _=>True):=fun C w h=>by
 refine ⟨(),trivial,sepL.one1.2 ⟨⟨[],rfl⟩,?_⟩⟩
 have h1:=sepL.one1.1 h
 exact zmy (C1:=C) (C2:=fun _=>False) h1 ⟨fun k h=>h.elim,fun z hz=>by simp at hz⟩ (fun k a b=>b) (fun k=>by simp)
theorem zoi (k:zBA) (xs:List zBA) (hd:Hd) (hL:fsP L=M):Entl [fsM b (zgw k (xs,hd) L),fsO L,zmC zgU 1 hd xs] (fun _:Unit=>[zbe b (zgw k xs M)]) (fun _=>True):=fun C w h=>by
 obtain ⟨C1,C2,h1,h2,h3,h4⟩:=h
 obtain ⟨D1,D2,g1,g2,g3,g4⟩:=h2
 have g2:=sepL.one1.1 g2
 refine ⟨(),trivial,sepL.one1.2 ⟨⟨zgw k (xs,hd) L,by rw [zrK,hL]⟩,?_⟩⟩
 refine zmy (C1:=C1) (C2:=C2) h1 ⟨fun q hq => ?_,fun z hz A hA => ?_⟩ h3 h4
 ·rcases (g4 q).1 hq with h | h
  ·exact (fsO L).lt g1 q h
  ·exact (zmC zgU 1 hd xs).lt g2 q h
 ·rcases zps k (xs,hd) L z hz with rfl | hz
  ·have hA:A=zmC zgU 1 hd xs:=List.mem_singleton.1 hA
   subst hA
   exact ⟨D2,g2,fun q hq=>(g4 q).2 (.inr hq)⟩
  ·obtain ⟨D,d1,d2⟩:=g1.2 z hz A hA
   exact ⟨D,d1,fun q hq=>(g4 q).2 (.inl (d2 q hq))⟩
theorem Rd.fors {w0:World} {K:Nat→Prop} {RD:List Asn} {i:Nat} (hr:Rd w0 K RD) (hi:RD[i]?=some (zbe b M)):∃ L:FsL,fsP L=M∧Rd w0 K (RD++[fsM b L,fsO L]):=by
 obtain ⟨C,⟨⟨L,hL⟩,hz⟩,hk⟩:=hr _ (List.mem_of_getElem? hi)
 obtain ⟨C1,C2,h1,h2,h3,h4⟩:=zl4 hz
 refine ⟨L,hL,hr.append fun B hB => ?_⟩
 rcases List.mem_cons.1 hB with rfl | hB
 ·exact ⟨C1,h1,fun k h=>hk k ((h4 k).2 (.inl h))⟩
 ·rw [List.mem_singleton] at hB
  subst hB
  exact ⟨C2,h2,fun k h=>hk k ((h4 k).2 (.inr h))⟩
theorem Rd.forsGet {w0:World} {K:Nat→Prop} {RD:List Asn} {i:Nat} {k:zBA} {xs:List zBA} {hd:Hd} (hr:Rd w0 K RD) (hi:RD[i]?=some (fsO L)) (hg:zbK k L=some (xs,hd)):Rd w0 K (RD++[zmC zgU 1 hd xs]) :=
 hr.more hi fun C hC B hB=>hC.2 _ (zmP k _ L hg) B hB
section
variable {F:Fence} {P:Program} {w0:World} {K:Nat→Prop} {N:Nat} {dfs:List Deferred} {ops:Array Oper} {Q:Exit→Act→World→Prop} {rest:List Oper} {σ:List (Nat×Value)} {LL RD:List Asn}
 {d:Nat} {ty:TypeId} {pos:String} {aft:Array Edge} {g:Option (Nat×Bool)} {x y z:Operand} {i:Nat} {mt kt et:TypeId}
theorem zpb [WideF F] {kk:zBA} (hs:P.underlying kt=some .string) (ht:P.underlying mt=some (.map kt et)) (hz0:(P.info? et).bind (fun i=>i.zero)=some (.slice none 0 0)) (hg:gd ops σ g=some true) (hd:d<N) (hx:ev σ x=some (.map (some b))) (hy:ev σ y=some (.string kk))
  (hr:Rd w0 K RD) (hi:RD[i]?=some (zbe b M))
  (h:∀ hd:Hd,(∀ xs,zbK kk M=some xs→Rd w0 K (RD++[zmC zgU 1 hd xs]))→TO F P w0 K N dfs ops Q rest ((d,.tuple #[hd.v,.bool (zbK kk M).isSome])::σ) LL) :
  TO F P w0 K N dfs ops Q (⟨some d,.lookup mt x y true,ty,pos,aft,g⟩::rest) σ LL:=by
 obtain ⟨L,hL,hr'⟩:=hr.fors hi
 have hb:((zbK kk L).getD ([],Hd.nil)).2.v=fsV ((zbK kk L).getD ([],Hd.nil)):=rfl
 refine zfU (k:=RD.length) (M:=L) (z0:=([],Hd.nil)) (ev':=fsV) (zcV hs) ht hz0 hg hd hx hy hr' (by simp) ?_
 have h1:=h ((zbK kk L).getD ([],Hd.nil)).2 (fun xs hxs=>by
  rw [← hL,zlb] at hxs
  cases hg':zbK kk L with
  | none=>rw [hg'] at hxs; cases hxs
  | some q =>
   rw [hg'] at hxs
   have:q.1=xs:=Option.some.inj hxs
   subst this
   have h2:=hr'.forsGet (i:=RD.length+1) (k:=kk) (xs:=q.1) (hd:=q.2) (by simp) hg'
   refine hr.append fun B hB => ?_
   rw [List.mem_singleton] at hB
   subst hB
   exact h2 _ (by simp))
 rw [← hL,zlb,hb] at h1
 cases hq:zbK kk L with
 | none=>rw [hq] at h1; exact h1
 | some q=>rw [hq] at h1; exact h1
end
end
section
open Go.Shelf
theorem zd8:zcE prog 3:=⟨_,underlying3,rfl⟩
theorem zir:SizeOk prog 3 1:=by unfold SizeOk; as_aux_lemma=>kernel_rfl
theorem zwD:ZeroOk prog 3 [.int .i64 0]:=by unfold ZeroOk; as_aux_lemma=>kernel_rfl
theorem zwm:zcE prog 4:=⟨_,underlying4,rfl⟩
theorem zrt:SizeOk prog 4 1:=by unfold SizeOk; as_aux_lemma=>kernel_rfl
theorem zxU:ZeroOk prog 4 [.bool false]:=by unfold ZeroOk; as_aux_lemma=>kernel_rfl
theorem zxZ:zcE prog 5:=⟨_,underlying5,rfl⟩
theorem zuD:ByteOk prog 5:=ByteOk.mk' kr
theorem ze4:zcE prog 9:=⟨_,underlying9,rfl⟩
theorem ziS:SizeOk prog 9 1:=by unfold SizeOk; as_aux_lemma=>kernel_rfl
theorem zzm:ZeroOk prog 9 [.string ByteArray.empty]:=by unfold ZeroOk; as_aux_lemma=>kernel_rfl
theorem zvL:ElemOk prog 9 1:=ElemOk.mk' kr
theorem zft:zcE prog 21:=⟨_,underlying21,rfl⟩
theorem zho:SizeOk prog 21 1:=by unfold SizeOk; as_aux_lemma=>kernel_rfl
theorem zo0:ElemOk prog 21 1:=ElemOk.mk' kr
theorem zix:zcE prog 23:=⟨_,underlying23,rfl⟩
theorem ztn:SizeOk prog 23 1:=by unfold SizeOk; as_aux_lemma=>kernel_rfl
theorem zwE:ZeroOk prog 23 [.pointer none]:=by unfold ZeroOk; as_aux_lemma=>kernel_rfl
theorem zqm:zcE prog 30:=⟨_,underlying30,rfl⟩
theorem zwR:SizeOk prog 30 1:=by unfold SizeOk; as_aux_lemma=>kernel_rfl
theorem zwX:zcE prog 33:=⟨_,underlying33,rfl⟩
theorem zi1:zls prog 35 2:=⟨_,underlying35,rfl,by as_aux_lemma=>kernel_rfl⟩
theorem zsl:zdD prog 35 0 0:=⟨_,_,underlying35,rfl,rfl,by as_aux_lemma=>kernel_rfl⟩
theorem zh7:SizeOk prog 35 2:=by unfold SizeOk; as_aux_lemma=>kernel_rfl
theorem zom:ZeroOk prog 35 [.int .i64 0,.int .i64 0]:=by unfold ZeroOk; as_aux_lemma=>kernel_rfl
theorem zgY:zcE prog 38:=⟨_,underlying38,rfl⟩
theorem zqf:SizeOk prog 38 1:=by unfold SizeOk; as_aux_lemma=>kernel_rfl
theorem zwC:ZeroOk prog 38 [.slice none 0 0]:=by unfold ZeroOk; as_aux_lemma=>kernel_rfl
theorem zu7:zcE prog 43:=⟨_,underlying43,rfl⟩
theorem zwQ:SizeOk prog 43 1:=by unfold SizeOk; as_aux_lemma=>kernel_rfl
theorem zxT:ZeroOk prog 43 [.slice none 0 0]:=by unfold ZeroOk; as_aux_lemma=>kernel_rfl
theorem zoz:zcE prog 49:=⟨_,underlying49,rfl⟩
theorem zwP:SizeOk prog 49 1:=by unfold SizeOk; as_aux_lemma=>kernel_rfl
theorem zxS:ZeroOk prog 49 [.slice none 0 0]:=by unfold ZeroOk; as_aux_lemma=>kernel_rfl
theorem zkT:zls prog 52 5:=⟨_,underlying52,rfl,by as_aux_lemma=>kernel_rfl⟩
theorem zoZ:zdD prog 52 1 1:=⟨_,_,underlying52,rfl,rfl,by as_aux_lemma=>kernel_rfl⟩
theorem ze6:zdD prog 52 2 2:=⟨_,_,underlying52,rfl,rfl,by as_aux_lemma=>kernel_rfl⟩
theorem zmV:zdD prog 52 3 3:=⟨_,_,underlying52,rfl,rfl,by as_aux_lemma=>kernel_rfl⟩
theorem zmU:zdD prog 52 4 4:=⟨_,_,underlying52,rfl,rfl,by as_aux_lemma=>kernel_rfl⟩
theorem zmu:SizeOk prog 52 5:=by unfold SizeOk; as_aux_lemma=>kernel_rfl
theorem ztd:ZeroOk prog 52 [.int .i64 0,.int .u8 0,.int .i32 0,.slice none 0 0,.slice none 0 0]:=by unfold ZeroOk; as_aux_lemma=>kernel_rfl
theorem zxr:ElemOk prog 52 5:=ElemOk.mk' kr
theorem zrC:zcE prog 54:=⟨_,underlying54,rfl⟩
theorem zwO:SizeOk prog 54 1:=by unfold SizeOk; as_aux_lemma=>kernel_rfl
theorem zwB:ZeroOk prog 54 [.map none]:=by unfold ZeroOk; as_aux_lemma=>kernel_rfl
theorem ztq:zcE prog 55:=⟨_,underlying55,rfl⟩
theorem zwN:SizeOk prog 55 1:=by unfold SizeOk; as_aux_lemma=>kernel_rfl
theorem zwA:ZeroOk prog 55 [.map none]:=by unfold ZeroOk; as_aux_lemma=>kernel_rfl
theorem zrF:zls prog 61 2:=⟨_,underlying61,rfl,by as_aux_lemma=>kernel_rfl⟩
theorem zwM:SizeOk prog 61 2:=by unfold SizeOk; as_aux_lemma=>kernel_rfl
theorem zuQ:ZeroOk prog 61 [.int .i32 0,.int .i32 0]:=by unfold ZeroOk; as_aux_lemma=>kernel_rfl
theorem zql:zcE prog 62:=⟨_,underlying62,rfl⟩
theorem zwL:SizeOk prog 62 1:=by unfold SizeOk; as_aux_lemma=>kernel_rfl
theorem zxR:ZeroOk prog 62 [.slice none 0 0]:=by unfold ZeroOk; as_aux_lemma=>kernel_rfl
theorem zi0:zls prog 66 5:=⟨_,underlying66,rfl,by as_aux_lemma=>kernel_rfl⟩
theorem zoY:zdD prog 66 0 0:=⟨_,_,underlying66,rfl,rfl,by as_aux_lemma=>kernel_rfl⟩
theorem zoX:zdD prog 66 1 1:=⟨_,_,underlying66,rfl,rfl,by as_aux_lemma=>kernel_rfl⟩
theorem zmT:zdD prog 66 2 2:=⟨_,_,underlying66,rfl,rfl,by as_aux_lemma=>kernel_rfl⟩
theorem zoW:zdD prog 66 3 3:=⟨_,_,underlying66,rfl,rfl,by as_aux_lemma=>kernel_rfl⟩
theorem zsk:zdD prog 66 4 4:=⟨_,_,underlying66,rfl,rfl,by as_aux_lemma=>kernel_rfl⟩
theorem ziq:SizeOk prog 66 5:=by unfold SizeOk; as_aux_lemma=>kernel_rfl
theorem zol:ZeroOk prog 66 [.int .i64 0,.int .i64 0,.string ByteArray.empty,.string ByteArray.empty,.int .i64 0]:=by unfold ZeroOk; as_aux_lemma=>kernel_rfl
theorem zxq:ElemOk prog 66 5:=ElemOk.mk' kr
theorem zx0:zls prog 68 3:=⟨_,underlying68,rfl,by as_aux_lemma=>kernel_rfl⟩
theorem zxW:SizeOk prog 68 3:=by unfold SizeOk; as_aux_lemma=>kernel_rfl
theorem zxQ:ZeroOk prog 68 [.nilFunc,.nilFunc,.nilFunc]:=by unfold ZeroOk; as_aux_lemma=>kernel_rfl
theorem zwz:ZeroOk prog 74 [.pointer none,.slice none 0 0]:=by unfold ZeroOk; as_aux_lemma=>kernel_rfl
theorem zqk:zcE prog 75:=⟨_,underlying75,rfl⟩
theorem zu6:zcE prog 76:=⟨_,underlying76,rfl⟩
theorem zly:zcE prog 77:=⟨_,underlying77,rfl⟩
theorem ziF:zdD prog 79 0 0:=⟨_,_,underlying79,rfl,rfl,by as_aux_lemma=>kernel_rfl⟩
theorem zjO:zdD prog 79 1 1:=⟨_,_,underlying79,rfl,rfl,by as_aux_lemma=>kernel_rfl⟩
theorem zoV:zdD prog 79 2 2:=⟨_,_,underlying79,rfl,rfl,by as_aux_lemma=>kernel_rfl⟩
theorem zgB:zdD prog 79 3 3:=⟨_,_,underlying79,rfl,rfl,by as_aux_lemma=>kernel_rfl⟩
theorem zjN:zdD prog 79 4 4:=⟨_,_,underlying79,rfl,rfl,by as_aux_lemma=>kernel_rfl⟩
theorem zgZ:zls prog 95 4:=⟨_,underlying95,rfl,by as_aux_lemma=>kernel_rfl⟩
theorem zdY:zdD prog 95 0 0:=⟨_,_,underlying95,rfl,rfl,by as_aux_lemma=>kernel_rfl⟩
theorem zg3:zdD prog 95 1 1:=⟨_,_,underlying95,rfl,rfl,by as_aux_lemma=>kernel_rfl⟩
theorem zgA:zdD prog 95 2 2:=⟨_,_,underlying95,rfl,rfl,by as_aux_lemma=>kernel_rfl⟩
theorem zoU:zdD prog 95 3 3:=⟨_,_,underlying95,rfl,rfl,by as_aux_lemma=>kernel_rfl⟩
theorem zfR:SizeOk prog 95 4:=by unfold SizeOk; as_aux_lemma=>kernel_rfl
theorem zkL:ZeroOk prog 95 [.int .i64 0,.int .i64 0,.int .i32 0,.bool false]:=by unfold ZeroOk; as_aux_lemma=>kernel_rfl
theorem zzc:ElemOk prog 95 4:=ElemOk.mk' kr
theorem zul:zcE prog 103:=⟨_,underlying103,rfl⟩
theorem zwS:SizeOk prog 103 1:=by unfold SizeOk; as_aux_lemma=>kernel_rfl
theorem zwZ:zls prog 116 2:=⟨_,underlying116,rfl,by as_aux_lemma=>kernel_rfl⟩
theorem zgr:zdD prog 116 0 0:=⟨_,_,underlying116,rfl,rfl,by as_aux_lemma=>kernel_rfl⟩
theorem zhW:zdD prog 116 1 1:=⟨_,_,underlying116,rfl,rfl,by as_aux_lemma=>kernel_rfl⟩
theorem zgo:SizeOk prog 116 2:=by unfold SizeOk; as_aux_lemma=>kernel_rfl
theorem zwF:ZeroOk prog 116 [.int .i64 0,.string ByteArray.empty]:=by unfold ZeroOk; as_aux_lemma=>kernel_rfl
theorem zxs:ElemOk prog 116 2:=ElemOk.mk' kr
theorem zwY:zcE prog 121:=⟨_,underlying121,rfl⟩
abbrev zEN (n:Nat):Prop:=∀ args w,(callFunc n args).run prog w=.ok (.enter n args) w
theorem zzt:zEN 6:=enters_of func6 kr rfl
theorem zzK:zEN 7:=enters_of func7 kr rfl
theorem zzs:zEN 8:=enters_of func8 kr rfl
theorem zzr:zEN 9:=enters_of func9 kr rfl
theorem zvJ:zEN 10:=enters_of func10 kr rfl
theorem ztU:zEN 11:=enters_of func11 kr rfl
theorem ztT:zEN 12:=enters_of func12 kr rfl
theorem zxo:zEN 13:=enters_of func13 kr rfl
theorem ztS:zEN 14:=enters_of func14 kr rfl
theorem zxn:zEN 15:=enters_of func15 kr rfl
theorem zvI:zEN 16:=enters_of func16 kr rfl
theorem zvH:zEN 19:=enters_of func19 kr rfl
theorem zvG:zEN 20:=enters_of func20 kr rfl
theorem zzb:zEN 21:=enters_of func21 kr rfl
theorem zvF:zEN 22:=enters_of func22 kr rfl
theorem zza:zEN 23:=enters_of func23 kr rfl
theorem ztR:zEN 24:=enters_of func24 kr rfl
theorem zvE:zEN 25:=enters_of func25 kr rfl
theorem zy9:zEN 26:=enters_of func26 kr rfl
theorem zy8:zEN 27:=enters_of func27 kr rfl
theorem zvD:zEN 28:=enters_of func28 kr rfl
theorem zy7:zEN 29:=enters_of func29 kr rfl
theorem zvC:zEN 30:=enters_of func30 kr rfl
theorem zvB:zEN 31:=enters_of func31 kr rfl
theorem zy6:zEN 32:=enters_of func32 kr rfl
theorem zvA:zEN 33:=enters_of func33 kr rfl
theorem zxm:zEN 34:=enters_of func34 kr rfl
theorem zy5:zEN 35:=enters_of func35 kr rfl
theorem zy4:zEN 36:=enters_of func36 kr rfl
theorem zy3:zEN 37:=enters_of func37 kr rfl
theorem zy2:zEN 38:=enters_of func38 kr rfl
theorem zxl:zEN 39:=enters_of func39 kr rfl
theorem zy1:zEN 40:=enters_of func40 kr rfl
theorem zst:zEN 42:=enters_of func42 kr rfl
theorem zvz:zEN 43:=enters_of func43 kr rfl
theorem zxk:zEN 44:=enters_of func44 kr rfl
theorem zvy:zEN 45:=enters_of func45 kr rfl
theorem zy0:zEN 46:=enters_of func46 kr rfl
theorem zyZ:zEN 47:=enters_of func47 kr rfl
theorem zvx:zEN 48:=enters_of func48 kr rfl
theorem zyY:zEN 49:=enters_of func49 kr rfl
theorem zqW:zEN 50:=enters_of func50 kr rfl
theorem zyX:zEN 51:=enters_of func51 kr rfl
theorem zxj:zEN 52:=enters_of func52 kr rfl
theorem zyW:zEN 53:=enters_of func53 kr rfl
theorem zyV:zEN 55:=enters_of func55 kr rfl
theorem zyU:zEN 58:=enters_of func58 kr rfl
theorem zyT:zEN 59:=enters_of func59 kr rfl
theorem zxi:zEN 60:=enters_of func60 kr rfl
theorem zxh:zEN 61:=enters_of func61 kr rfl
theorem zyM:zEN 62:=enters_of func62 kr rfl
theorem zyL:zEN 63:=enters_of func63 kr rfl
theorem zyK:zEN 64:=enters_of func64 kr rfl
theorem zlK:zEN 65:=enters_of func65 kr rfl
theorem zyJ:zEN 66:=enters_of func66 kr rfl
theorem zyI:zEN 67:=enters_of func67 kr rfl
theorem zyF:zEN 68:=enters_of func68 kr rfl
theorem zyD:zEN 69:=enters_of func69 kr rfl
theorem zyA:zEN 70:=enters_of func70 kr rfl
theorem zss:zEN 71:=enters_of func71 kr rfl
theorem zyz:zEN 72:=enters_of func72 kr rfl
theorem zyy:zEN 75:=enters_of func75 kr rfl
theorem zyx:zEN 76:=enters_of func76 kr rfl
theorem zxg:zEN 78:=enters_of func78 kr rfl
theorem zyw:zEN 80:=enters_of func80 kr rfl
theorem zyv:zEN 81:=enters_of func81 kr rfl
theorem zyu:zEN 82:=enters_of func82 kr rfl
theorem zyt:zEN 83:=enters_of func83 kr rfl
theorem zys:zEN 84:=enters_of func84 kr rfl
theorem zxf:zEN 85:=enters_of func85 kr rfl
theorem zyr:zEN 86:=enters_of func86 kr rfl
theorem zyp:zEN 89:=enters_of func89 kr rfl
theorem zxe:zEN 91:=enters_of func91 kr rfl
theorem zyo:zEN 92:=enters_of func92 kr rfl
theorem zqV:zEN 93:=enters_of func93 kr rfl
theorem zyn:zEN 97:=enters_of func97 kr rfl
theorem zym:zEN 98:=enters_of func98 kr rfl
theorem zxp:zEN 104:=enters_of func104 kr rfl
theorem mixed:prog.follows .mixedOrders=true:=by as_aux_lemma=>kernel_rfl
end
@[ext] structure zj1 where
 e0:zBA
 e1:zBA
 e2:zBA
def zjo (a b:zj1):Bool:=decide (a.e0=b.e0)&&decide (a.e1=b.e1)&&decide (a.e2=b.e2)
theorem zjP (a b:zj1):zjo a b=true↔a=b:=by
 rcases a with ⟨a0,a1,a2⟩
 rcases b with ⟨b0,b1,b2⟩
 simp [zjo,Bool.and_eq_true,and_assoc]
instance:DecidableEq zj1:=fun a b=>decidable_of_iff _ (zjP a b)
@[ext] structure zaJ where
 Err:Int
 At:Int
def zdu (a b:zaJ):Bool:=(a.Err==b.Err)&&(a.At==b.At)
theorem zkn (a b:zaJ):zdu a b=true↔a=b:=by
 rcases a with ⟨a0,a1⟩
 rcases b with ⟨b0,b1⟩
 simp [zdu,Bool.and_eq_true,and_assoc]
instance:DecidableEq zaJ:=fun a b=>decidable_of_iff _ (zkn a b)
@[ext] structure zlo where
 e0:Int
 e1:Int
def zkg (a b:zlo):Bool:=(a.e0==b.e0)&&(a.e1==b.e1)
theorem zkm (a b:zlo):zkg a b=true↔a=b:=by
 rcases a with ⟨a0,a1⟩
 rcases b with ⟨b0,b1⟩
 simp [zkg,Bool.and_eq_true,and_assoc]
instance:DecidableEq zlo:=fun a b=>decidable_of_iff _ (zkm a b)
@[ext] structure zaf where
 e0:Int
 e1:Int
def zjp (a b:zaf):Bool:=(a.e0==b.e0)&&(a.e1==b.e1)
theorem zjQ (a b:zaf):zjp a b=true↔a=b:=by
 rcases a with ⟨a0,a1⟩
 rcases b with ⟨b0,b1⟩
 simp [zjp,Bool.and_eq_true,and_assoc]
instance:DecidableEq zaf:=fun a b=>decidable_of_iff _ (zjQ a b)
@[ext] structure zac where
 sort:Int
 place:Int
 digits:zBA
 marks:zBA
 great:Int
def zbs (x:zac):List Value:=[.int .i64 x.sort,.int .i64 x.place,.string x.digits,.string x.marks,.int .i64 x.great]
theorem zbg (x:zac):(zbs x).length=5:=rfl
theorem zfb (x:zac):∀ u∈zbs x,u.oneCell'=true:=by
 intro u hu
 simp only [zbs,List.mem_cons,List.not_mem_nil,or_false] at hu
 rcases hu with rfl | rfl | rfl | rfl | rfl <;> rfl
def zgd (a b:zac):Bool:=(a.sort==b.sort)&&(a.place==b.place)&&decide (a.digits=b.digits)&&decide (a.marks=b.marks)&&(a.great==b.great)
theorem zg4 (a b:zac):zgd a b=true↔a=b:=by
 rcases a with ⟨a0,a1,a2,a3,a4⟩
 rcases b with ⟨b0,b1,b2,b3,b4⟩
 simp [zgd,Bool.and_eq_true,and_assoc]
instance:DecidableEq zac:=fun a b=>decidable_of_iff _ (zg4 a b)
@[ext] structure zam where
 At:Int
 Width:Int
 Rune:Int
 Broken:Bool
def zbR (x:zam):List Value:=[.int .i64 x.At,.int .i64 x.Width,.int .i32 x.Rune,.bool x.Broken]
theorem zgs (x:zam):(zbR x).length=4:=rfl
theorem zjr (x:zam):∀ u∈zbR x,u.oneCell'=true:=by
 intro u hu
 simp only [zbR,List.mem_cons,List.not_mem_nil,or_false] at hu
 rcases hu with rfl | rfl | rfl | rfl <;> rfl
def zjq (a b:zam):Bool:=(a.At==b.At)&&(a.Width==b.Width)&&(a.Rune==b.Rune)&&(a.Broken==b.Broken)
theorem zjR (a b:zam):zjq a b=true↔a=b:=by
 rcases a with ⟨a0,a1,a2,a3⟩
 rcases b with ⟨b0,b1,b2,b3⟩
 simp [zjq,Bool.and_eq_true,and_assoc]
instance:DecidableEq zam:=fun a b=>decidable_of_iff _ (zjR a b)
@[ext] structure zau where
 at_:Int
 text:zBA
def zc3 (x:zau):List Value:=[.int .i64 x.at_,.string x.text]
theorem zdJ (x:zau):(zc3 x).length=2:=rfl
theorem zhE (x:zau):∀ u∈zc3 x,u.oneCell'=true:=by
 intro u hu
 simp only [zc3,List.mem_cons,List.not_mem_nil,or_false] at hu
 rcases hu with rfl | rfl <;> rfl
def zhg (a b:zau):Bool:=(a.at_==b.at_)&&decide (a.text=b.text)
theorem zib (a b:zau):zhg a b=true↔a=b:=by
 rcases a with ⟨a0,a1⟩
 rcases b with ⟨b0,b1⟩
 simp [zhg,Bool.and_eq_true,and_assoc]
instance:DecidableEq zau:=fun a b=>decidable_of_iff _ (zib a b)
@[ext] structure zoa where
 e0_lo:Int
 e0_hi:Int
 e1_lo:Int
 e1_hi:Int
 e2_lo:Int
 e2_hi:Int
 e3_lo:Int
 e3_hi:Int
 e4_lo:Int
 e4_hi:Int
 e5_lo:Int
 e5_hi:Int
 e6_lo:Int
 e6_hi:Int
 e7_lo:Int
 e7_hi:Int
 e8_lo:Int
 e8_hi:Int
 e9_lo:Int
 e9_hi:Int
 e10_lo:Int
 e10_hi:Int
 e11_lo:Int
 e11_hi:Int
 e12_lo:Int
 e12_hi:Int
 e13_lo:Int
 e13_hi:Int
 e14_lo:Int
 e14_hi:Int
 e15_lo:Int
 e15_hi:Int
theorem zq4 {x y:Operand} (a b:zaJ) (w:World):(do eqGuard .eql 35 x y (.agg #[.int .i64 a.Err,.int .i64 a.At]) (.agg #[.int .i64 b.Err,.int .i64 b.At]); binOp .eql 35 (.agg #[.int .i64 a.Err,.int .i64 a.At]) (.agg #[.int .i64 b.Err,.int .i64 b.At]):Sem Value).run prog w=.ok (.bool (zdu a b)) w :=
 zt0 kr (show ((a.Err==b.Err)&&((a.At==b.At)&&true))=zdu a b by simp [zdu,Bool.and_assoc]) (zsp (dd:=9999) kr kr (zpS (ft:=33) (off:=0) (a:=.int .i64 a.Err) (b:=.int .i64 b.Err) kr (fun _=>by kernel_rfl) (fun _=>by kernel_rfl) (zmW underlying33) (zpS (ft:=3) (off:=1) (a:=.int .i64 a.At) (b:=.int .i64 b.At) kr (fun _=>by kernel_rfl) (fun _=>by kernel_rfl) (zmW underlying3) (zso (n:=2) kr)))) w
theorem zq3 {x y:Operand} (a b:zaJ) (w:World):(do eqGuard .neq 35 x y (.agg #[.int .i64 a.Err,.int .i64 a.At]) (.agg #[.int .i64 b.Err,.int .i64 b.At]); binOp .neq 35 (.agg #[.int .i64 a.Err,.int .i64 a.At]) (.agg #[.int .i64 b.Err,.int .i64 b.At]):Sem Value).run prog w=.ok (.bool (!zdu a b)) w :=
 ztZ kr (show ((a.Err==b.Err)&&((a.At==b.At)&&true))=zdu a b by simp [zdu,Bool.and_assoc]) (zsp (dd:=9999) kr kr (zpS (ft:=33) (off:=0) (a:=.int .i64 a.Err) (b:=.int .i64 b.Err) kr (fun _=>by kernel_rfl) (fun _=>by kernel_rfl) (zmW underlying33) (zpS (ft:=3) (off:=1) (a:=.int .i64 a.At) (b:=.int .i64 b.At) kr (fun _=>by kernel_rfl) (fun _=>by kernel_rfl) (zmW underlying3) (zso (n:=2) kr)))) w
structure zah where
 at_:Int
 broken:Int
 base:Int
 low:List Int
 high:List Int
def za0 (z:zah×Hd×Hd):List Value:=[.int .i64 z.1.at_,.int .u8 z.1.broken,.int .i32 z.1.base,z.2.1.v,z.2.2.v]
def zaz (z:zah×Hd×Hd):List Asn:=[vec (zlf (.i32)) 21 1 z.2.1.v z.1.low,vec (zlf (.i32)) 21 1 z.2.2.v z.1.high]
theorem zbd (z:zah×Hd×Hd):(za0 z).length=5:=rfl
theorem zgf (z:zah×Hd×Hd):∀ u∈za0 z,u.oneCell'=true:=by
 intro u hu
 simp only [za0,List.mem_cons,List.not_mem_nil,or_false] at hu
 rcases hu with rfl | rfl | rfl | rfl | rfl <;> rfl
structure zab where
 units:List zBA
 place:List (zBA×Int)
 fors:List (zBA×List zBA)
 skips:List (zBA×Bool)
 lines:List zBA
def zaZ (z:zab×Hd×Hd×Hd×Hd×Hd):List Value:=[z.2.1.v,.map (some (zaw z.2.2.1)),.map (some (zaw z.2.2.2.1)),.map (some (zaw z.2.2.2.2.1)),z.2.2.2.2.2.v]
def zaY (z:zab×Hd×Hd×Hd×Hd×Hd):List Asn:=[vec zgU 9 1 z.2.1.v z.1.units,za5 (fun n:zBA=>Value.string n) (fun n:Int=>Value.int .i64 n) (zaw z.2.2.1) z.1.place,zbe (zaw z.2.2.2.1) z.1.fors,za5 (fun n:zBA=>Value.string n) (fun n:Bool=>Value.bool n) (zaw z.2.2.2.2.1) z.1.skips,vec zgU 9 1 z.2.2.2.2.2.v z.1.lines]
theorem zi4:∀ (P:List Pc) (i:Nat) (l:List UInt8) (x:Pc) (B:List Pc),zed i l=P++x::B →
  ∃ n,x.i=i+n∧n+x.w≤l.length∧zs7 (l.drop n) x.r x.w∧zed (i+n) (l.drop n)=x::B∧B=zed (x.i+x.w) (l.drop (n+x.w))
 | [],i,l,x,B,h=>by
  by_cases hl:l=[]
  ·subst hl; simp [zex] at h
  ·have hok:=zvN l hl
   have h':=h
   rw [zd9 i l hl] at h
   simp only [List.nil_append,List.cons.injEq] at h
   obtain ⟨rfl,hB⟩:=h
   exact ⟨0,by simp,by simpa using hok.le,by simpa using hok,by simpa using h',by simpa using hB.symm⟩
 | p::P,i,l,x,B,h=>by
  by_cases hl:l=[]
  ·subst hl; simp [zex] at h
  ·have hle:=znX l hl
   rw [zd9 i l hl] at h
   simp only [List.cons_append,List.cons.injEq] at h
   obtain ⟨n,h1,h2,h3,h4,h5⟩:=zi4 P _ _ x B h.2
   refine ⟨(decodeL l).2+n,by omega,by simp at h2; omega,by rw [← List.drop_drop]; exact h3,by rw [← List.drop_drop,← Nat.add_assoc]; exact h4,?_⟩
   rw [h5,List.drop_drop,Nat.add_assoc]
theorem znw (l:List UInt8) (P:List Pc) (x:Pc) (B:List Pc) (h:pcs l=P++x::B) :
  x.i+x.w≤l.length∧zs7 (l.drop x.i) x.r x.w∧zed x.i (l.drop x.i)=x::B∧B=zed (x.i+x.w) (l.drop (x.i+x.w)):=by
 obtain ⟨n,h1,h2,h3,h4,h5⟩:=zi4 P 0 l x B h
 have:x.i=n:=by omega
 subst this
 exact ⟨h2,h3,by simpa using h4,h5⟩
theorem ziB (l:List UInt8) (x:Pc) (h:x∈pcs l):1≤x.w∧x.i+x.w≤l.length∧zs7 (l.drop x.i) x.r x.w:=by
 obtain ⟨P,B,hs⟩:=List.append_of_mem h
 obtain ⟨h1,h2,_⟩:=znw l P x B hs
 exact ⟨h2.pos,h1,h2⟩
structure Tok where
 r:Nat
 bs:List UInt8
 deriving DecidableEq
def Tok.broken (t:Tok):Bool:=t.r==65533&&t.bs.length==1
def Tok.valid (t:Tok):Prop:=(t.r<55296∨(57343<t.r∧t.r≤1114111))∧t.bs=encodeRune t.r
def zbp (ts:List Tok):List UInt8:=ts.flatMap Tok.bs
def zlx:Nat→List UInt8→List Tok
 | 0,_=>[]
 | f+1,l=>if l=[] then [] else ⟨(decodeL l).1,l.take (decodeL l).2⟩::zlx f (l.drop (decodeL l).2)
def zdP (l:List UInt8):List Tok:=zlx l.length l
theorem zch (t:Tok) (ts:List Tok):zbp (t::ts)=t.bs++zbp ts:=by simp [zbp]
theorem zbh (a b:List Tok):zbp (a++b)=zbp a++zbp b:=by simp [zbp]
theorem zno:∀ (f g:Nat) (l:List UInt8),l.length≤f→l.length≤g→zlx f l=zlx g l:=by
 intro f
 induction f with
 | zero =>
  intro g l h1 h2
  have:l=[]:=List.eq_nil_of_length_eq_zero (by omega)
  subst this
  cases g <;> simp [zlx]
 | succ f ih =>
  intro g l h1 h2
  cases g with
  | zero =>
   have:l=[]:=List.eq_nil_of_length_eq_zero (by omega)
   subst this
   simp [zlx]
  | succ g =>
   by_cases hl:l=[]
   ·simp [zlx,hl]
   ·simp only [zlx,hl,if_false]
    have:=zhF l
    have hlen:0<l.length:=List.length_pos_iff.2 hl
    rw [ih g _ (by simp; omega) (by simp; omega)]
theorem zhO:zdP []=[]:=by simp [zdP,zlx]
theorem zf3 (l:List UInt8) (h:l≠[]):zdP l=⟨(decodeL l).1,l.take (decodeL l).2⟩::zdP (l.drop (decodeL l).2):=by
 have hlen:0<l.length:=List.length_pos_iff.2 h
 unfold zdP
 obtain ⟨n,hn⟩:∃ n,l.length=n+1:=⟨l.length - 1,by omega⟩
 rw [hn]
 simp only [zlx,h,if_false]
 have:=zhF l
 rw [zno n (l.drop (decodeL l).2).length _ (by simp; omega) (Nat.le_refl _)]
theorem zfS {P:List UInt8→Prop} (h0:P []) (h1:∀ l,l≠[]→P (l.drop (decodeL l).2)→P l):∀ l,P l:=by
 have key:∀ (n:Nat) (l:List UInt8),l.length≤n→P l:=by
  intro n
  induction n with
  | zero=>intro l hl; rw [List.eq_nil_of_length_eq_zero (by omega:l.length=0)]; exact h0
  | succ n ih =>
   intro l hl
   by_cases hn:l=[]
   ·rw [hn]; exact h0
   ·have:=zhF l
    exact h1 l hn (ih _ (by simp; omega))
 exact fun l=>key l.length l (Nat.le_refl _)
theorem zfI (l:List UInt8):zbp (zdP l)=l:=by
 induction l using zfS with
 | h0=>rw [zhO]; rfl
 | h1 l hn ih=>rw [zf3 l hn,zch,ih]; exact List.take_append_drop _ _
theorem zwH (l:List UInt8) (h:l≠[]):(⟨(decodeL l).1,l.take (decodeL l).2⟩:Tok).valid∨(⟨(decodeL l).1,l.take (decodeL l).2⟩:Tok).broken=true:=by
 by_cases hb:(decodeL l).1=65533∧(decodeL l).2=1
 ·right
  have hlen:0<l.length:=List.length_pos_iff.2 h
  simp [Tok.broken,hb.1,hb.2]; omega
 ·left
  exact ⟨znV l,(encode_decode l h hb).symm⟩
theorem ze3 (l:List UInt8):∀ t∈zdP l,t.valid∨t.broken=true:=by
 induction l using zfS with
 | h0=>rw [zhO]; simp
 | h1 l hn ih =>
  rw [zf3 l hn]
  intro t ht
  rcases List.mem_cons.1 ht with rfl | ht
  ·exact zwH l hn
  ·exact ih t ht
theorem zdi {t:Tok} (h:t.valid):t.broken=false:=by
 unfold Tok.broken
 by_cases hr:t.r=65533
 ·have:=h.2; rw [hr,zmX] at this; simp [this]
 ·simp [hr]
theorem zvW {t:Tok} (h:t.valid∨t.broken=true):t.bs≠[]:=by
 rcases h with h | h
 ·rw [h.2]; intro e; have:=(zfD (t.r:Int)).1; rw [e] at this; simp at this
 ·intro e; unfold Tok.broken at h; rw [e] at h; simp at h
def zvQ (b:UInt8):Bool:=b.toNat / 64==2
def zue:List UInt8→Prop
 | []=>True
 | b::_=>zvQ b=false
theorem zm1 {n b0 b1 b2 b3 c1 c2 c3 m:Nat} (h1:n≤1∨b1 / 64≠2) (h2:m≤1∨c1 / 64≠2):decodeN n b0 b1 b2 b3=decodeN m b0 c1 c2 c3:=by
 unfold decodeN
 have e1:¬ (1<n∧b1 / 64=2):=by omega
 have e2:¬ (1<m∧c1 / 64=2):=by omega
 simp only [e1,e2,and_false,false_and,if_false]
theorem zm0 {n b0 b1 b2 b3 c2 c3 m:Nat} (hn:1<n) (hm:1<m) (h1:n≤2∨b2 / 64≠2) (h2:m≤2∨c2 / 64≠2):decodeN n b0 b1 b2 b3=decodeN m b0 b1 c2 c3:=by
 unfold decodeN
 have e1:¬ (2<n∧b2 / 64=2):=by omega
 have e2:¬ (2<m∧c2 / 64=2):=by omega
 simp only [e1,e2,and_false,false_and,if_false,hn,hm,true_and]
theorem zmZ {n b0 b1 b2 b3 c3 m:Nat} (hn:2<n) (hm:2<m) (h1:n≤3∨b3 / 64≠2) (h2:m≤3∨c3 / 64≠2):decodeN n b0 b1 b2 b3=decodeN m b0 b1 b2 c3:=by
 unfold decodeN
 have e1:¬ (3<n∧b3 / 64=2):=by omega
 have e2:¬ (3<m∧c3 / 64=2):=by omega
 have h1n:1<n:=by omega
 have h1m:1<m:=by omega
 simp only [e1,e2,and_false,if_false,hn,hm,h1n,h1m,true_and]
theorem zmY {n b0 b1 b2 b3 m:Nat} (hn:3<n) (hm:3<m):decodeN n b0 b1 b2 b3=decodeN m b0 b1 b2 b3:=by
 unfold decodeN
 have h1n:1<n:=by omega
 have h1m:1<m:=by omega
 have h2n:2<n:=by omega
 have h2m:2<m:=by omega
 simp only [hn,hm,h1n,h1m,h2n,h2m,true_and]
theorem zmv {x:List UInt8} (h:zue x) (n:Nat):n+x.length≤n∨(x.getD 0 0).toNat / 64≠2:=by
 cases x with
 | nil=>simp
 | cons b x=>right; simpa [zue,zvQ] using h
theorem ztW (l x:List UInt8) (hl:l≠[]) (hx:zue x):decodeL (l++x)=decodeL l:=by
 rw [decodeL_N,decodeL_N]
 rcases l with _ | ⟨a,_ | ⟨b,_ | ⟨c,_ | ⟨d,l⟩⟩⟩⟩
 ·exact absurd rfl hl
 ·refine zm1 ?_ (.inl (by simp))
  rcases zmv hx 1 with h | h
  ·left; simp only [List.length_append,List.length_cons,List.length_nil]; omega
  ·right; simpa using h
 ·refine zm0 (by simp) (by simp) ?_ (.inl (by simp))
  rcases zmv hx 2 with h | h
  ·left; simp only [List.length_append,List.length_cons,List.length_nil]; omega
  ·right; simpa using h
 ·refine zmZ (by simp) (by simp) ?_ (.inl (by simp))
  rcases zmv hx 3 with h | h
  ·left; simp only [List.length_append,List.length_cons,List.length_nil]; omega
  ·right; simpa using h
 ·exact zmY (by simp) (by simp)
theorem zf4 (l x:List UInt8) (hx:zue x):zdP (l++x)=zdP l++zdP x:=by
 induction l using zfS with
 | h0=>rw [zhO]; rfl
 | h1 l hn ih =>
  have hle:=znX l hn
  have hne:l++x≠[]:=by simp [hn]
  rw [zf3 _ hne,zf3 l hn,ztW l x hn hx,List.drop_append_of_le_length hle,ih,List.take_append_of_le_length hle]
  rfl
theorem zjS (r:Nat) (hv:r<55296∨(57343<r∧r≤1114111)) :
  (r≤127∧encodeRuneZ r=[(r:Int)])∨(128≤r∧r≤2047∧encodeRuneZ r=[192+(r:Int) / 64,128+(r:Int) % 64]) ∨
  (2048≤r∧r≤65535∧encodeRuneZ r=[224+(r:Int) / 4096,128+(r:Int) / 64 % 64,128+(r:Int) % 64]) ∨
  (65536≤r∧r≤1114111∧encodeRuneZ r=[240+(r:Int) / 262144,128+(r:Int) / 4096 % 64,128+(r:Int) / 64 % 64,128+(r:Int) % 64]):=by
 by_cases h1:r≤127
 ·exact .inl ⟨h1,encodeRuneZ_one (by omega) (by omega)⟩
 ·by_cases h2:r≤2047
  ·exact .inr (.inl ⟨by omega,h2,encodeRuneZ_two (by omega) (by omega)⟩)
  ·by_cases h3:r≤65535
   ·exact .inr (.inr (.inl ⟨by omega,h3,encodeRuneZ_three (by omega)⟩))
   ·exact .inr (.inr (.inr ⟨by omega,by omega,encodeRuneZ_four (by omega) (by omega)⟩))
theorem zfd (z:Int) (_h0:0≤z) (h1:z<256):(z.toNat.toUInt8).toNat=z.toNat:=by
 simp; omega
theorem zo3 (r:Nat) (hv:r<55296∨(57343<r∧r≤1114111)) (x:List UInt8):decodeL (encodeRune r++x)=(r,(encodeRune r).length):=by
 rw [decodeL_N]
 rcases zjS r hv with ⟨h,e⟩ | ⟨h,h',e⟩ | ⟨h,h',e⟩ | ⟨h,h',e⟩
 ·have hl:encodeRune r=[((r:Int).toNat.toUInt8)]:=by simp only [encodeRune,e,List.map_cons,List.map_nil]
  rw [hl]
  simp only [List.cons_append,List.nil_append,List.getD_cons_zero,List.length_cons]
  rw [zfd _ (by omega) (by omega)]
  unfold decodeN
  simp only [Int.toNat_natCast]
  rw [if_pos (by omega)]
  simp
 ·have hl:encodeRune r=[((192+(r:Int) / 64).toNat.toUInt8),((128+(r:Int) % 64).toNat.toUInt8)]:=by simp only [encodeRune,e,List.map_cons,List.map_nil]
  rw [hl]
  simp only [List.cons_append,List.nil_append,List.getD_cons_zero,List.getD_cons_succ,List.length_cons]
  rw [zfd _ (by omega) (by omega),zfd _ (by omega) (by omega)]
  have a1:(192+(r:Int) / 64).toNat=192+r / 64:=by omega
  have a2:(128+(r:Int) % 64).toNat=128+r % 64:=by omega
  rw [a1,a2]
  unfold decodeN
  have c1:¬ 192+r / 64<128:=by omega
  have c2:(192+r / 64) / 32=6:=by omega
  have c3:(128+r % 64) / 64=2:=by omega
  have c4:(192+r / 64) % 32*64+(128+r % 64) % 64=r:=by omega
  have c5:128≤r:=by omega
  rw [if_neg c1,if_pos ⟨c2,by omega,c3⟩,c4,if_pos c5]
  rfl
 ·have hl:encodeRune r=[((224+(r:Int) / 4096).toNat.toUInt8),((128+(r:Int) / 64 % 64).toNat.toUInt8),((128+(r:Int) % 64).toNat.toUInt8)]:=by simp only [encodeRune,e,List.map_cons,List.map_nil]
  rw [hl]
  simp only [List.cons_append,List.nil_append,List.getD_cons_zero,List.getD_cons_succ,List.length_cons]
  rw [zfd _ (by omega) (by omega),zfd _ (by omega) (by omega),zfd _ (by omega) (by omega)]
  have a1:(224+(r:Int) / 4096).toNat=224+r / 4096:=by omega
  have a2:(128+(r:Int) / 64 % 64).toNat=128+r / 64 % 64:=by omega
  have a3:(128+(r:Int) % 64).toNat=128+r % 64:=by omega
  rw [a1,a2,a3]
  unfold decodeN
  have c1:¬ 224+r / 4096<128:=by omega
  have c2:(224+r / 4096) / 32≠6:=by omega
  have c2':(224+r / 4096) / 16=14:=by omega
  have c3:(128+r / 64 % 64) / 64=2:=by omega
  have c3':(128+r % 64) / 64=2:=by omega
  have c4:(224+r / 4096) % 16*4096+(128+r / 64 % 64) % 64*64+(128+r % 64) % 64=r:=by omega
  have c5:2048≤r:=by omega
  rw [if_neg c1,if_neg (fun h=>c2 h.1),if_pos ⟨c2',⟨by omega,c3⟩,⟨by omega,c3'⟩⟩,c4,if_pos ⟨c5,by omega⟩]
  rfl
 ·have hl:encodeRune r=[((240+(r:Int) / 262144).toNat.toUInt8),((128+(r:Int) / 4096 % 64).toNat.toUInt8),((128+(r:Int) / 64 % 64).toNat.toUInt8),((128+(r:Int) % 64).toNat.toUInt8)]:=by simp only [encodeRune,e,List.map_cons,List.map_nil]
  rw [hl]
  simp only [List.cons_append,List.nil_append,List.getD_cons_zero,List.getD_cons_succ,List.length_cons]
  rw [zfd _ (by omega) (by omega),zfd _ (by omega) (by omega),zfd _ (by omega) (by omega),zfd _ (by omega) (by omega)]
  have a1:(240+(r:Int) / 262144).toNat=240+r / 262144:=by omega
  have a2:(128+(r:Int) / 4096 % 64).toNat=128+r / 4096 % 64:=by omega
  have a2':(128+(r:Int) / 64 % 64).toNat=128+r / 64 % 64:=by omega
  have a3:(128+(r:Int) % 64).toNat=128+r % 64:=by omega
  rw [a1,a2,a2',a3]
  unfold decodeN
  have c1:¬ 240+r / 262144<128:=by omega
  have c2:(240+r / 262144) / 32≠6:=by omega
  have c2':(240+r / 262144) / 16≠14:=by omega
  have c2'':(240+r / 262144) / 8=30:=by omega
  have c3:(128+r / 4096 % 64) / 64=2:=by omega
  have c3':(128+r / 64 % 64) / 64=2:=by omega
  have c3'':(128+r % 64) / 64=2:=by omega
  have c4:(240+r / 262144) % 8*262144+(128+r / 4096 % 64) % 64*4096+(128+r / 64 % 64) % 64*64+(128+r % 64) % 64=r:=by omega
  have c5:65536≤r:=by omega
  rw [if_neg c1,if_neg (fun h=>c2 h.1),if_neg (fun h=>c2' h.1),if_pos ⟨c2'',⟨by omega,c3⟩,⟨by omega,c3'⟩,⟨by omega,c3''⟩⟩,c4,if_pos ⟨c5,by omega⟩]
  rfl
theorem zto (r:Nat) (hv:r<55296∨(57343<r∧r≤1114111)) (x:List UInt8):zue (encodeRune r++x):=by
 rcases zjS r hv with ⟨h,e⟩ | ⟨h,h',e⟩ | ⟨h,h',e⟩ | ⟨h,h',e⟩ <;>
 ·simp only [encodeRune,e,List.map_cons,List.map_nil,List.cons_append,zue,zvQ,beq_eq_false_iff_ne,ne_eq]
  rw [zfd _ (by omega) (by omega)]
  omega
theorem zlT {t:Tok} (h:t.valid) (x:List UInt8):zdP (t.bs++x)=t::zdP x:=by
 have hne:t.bs++x≠[]:=by simp [zvW (.inl h)]
 rw [zf3 _ hne]
 rw [h.2,zo3 t.r h.1 x,← h.2]
 simp
theorem zkO {vs:List Tok} (h:∀ t∈vs,t.valid) (x:List UInt8):zdP (zbp vs++x)=vs++zdP x:=by
 induction vs with
 | nil=>rfl
 | cons t vs ih =>
  rw [zch,List.append_assoc,zlT (h t (List.mem_cons_self ..)),ih (fun q hq=>h q (List.mem_cons_of_mem _ hq))]
  rfl
theorem zkQ {vs:List Tok} (hne:vs≠[]) (h:∀ t∈vs,t.valid) (x:List UInt8):zue (zbp vs++x):=by
 cases vs with
 | nil=>exact absurd rfl hne
 | cons t vs =>
  have:=h t (List.mem_cons_self ..)
  rw [zch,List.append_assoc,this.2]
  exact zto t.r this.1 _
def zp8 (ts:List Tok):Prop:=zdP (zbp ts)=ts
theorem zk9 (l:List UInt8):zp8 (zdP l):=by unfold zp8; rw [zfI]
theorem zla {t:Tok} {ts:List Tok} (h:zp8 (t::ts)):zp8 ts:=by
 unfold zp8 at *
 by_cases hn:zbp (t::ts)=[]
 ·rw [hn,zhO] at h; cases h
 ·rw [zf3 _ hn] at h
  have h1:(⟨(decodeL (zbp (t::ts))).1,(zbp (t::ts)).take (decodeL (zbp (t::ts))).2⟩:Tok)=t:=by injection h
  have h2:zdP ((zbp (t::ts)).drop (decodeL (zbp (t::ts))).2)=ts:=by injection h
  have h3:(zbp (t::ts)).take (decodeL (zbp (t::ts))).2=t.bs:=congrArg Tok.bs h1
  have h4:=List.take_append_drop (decodeL (zbp (t::ts))).2 (zbp (t::ts))
  rw [h3] at h4
  have h5:(zbp (t::ts)).drop (decodeL (zbp (t::ts))).2=zbp ts:=by
   rw [zch] at h4 ⊢
   exact List.append_cancel_left h4
  rw [← h5]; exact h2
theorem zhx {a ts:List Tok} (h:zp8 (a++ts)):zp8 ts:=by
 induction a with
 | nil=>exact h
 | cons t a ih=>exact ih (zla h)
inductive Sub:List Tok→List Tok→Prop
 | nil:Sub [] []
 | brk {b:Tok} {ts us:List Tok}:b.broken=true→Sub ts us→Sub (b::ts) (b::us)
 | val {gs vs ts us:List Tok}:gs≠[]→vs≠[]→(∀ t∈gs,t.valid)→(∀ t∈vs,t.valid)→Sub ts us→Sub (gs++ts) (vs++us)
theorem Sub.one {t:Tok} {vs ts us:List Tok} (ht:t.valid) (hn:vs≠[]) (hv:∀ t∈vs,t.valid) (h:Sub ts us):Sub (t::ts) (vs++us) :=
 Sub.val (gs:=[t]) (by simp) hn (by simpa using ht) hv h
theorem Sub.head {ts us:List Tok} (h:Sub ts us):∃ B ts' us',(∀ b∈B,b.broken=true)∧ts=B++ts'∧us=B++us'∧zue (zbp ts')∧zue (zbp us'):=by
 induction h with
 | nil=>exact ⟨[],[],[],by simp,rfl,rfl,trivial,trivial⟩
 | brk hb _ ih =>
  obtain ⟨B,ts',us',h1,rfl,rfl,h4,h5⟩:=ih
  exact ⟨_::B,ts',us',by simpa [hb] using h1,rfl,rfl,h4,h5⟩
 | @val gs vs ts us h1 h2 h3 h4 _ ih =>
  exact ⟨[],gs++ts,vs++us,by simp,rfl,rfl,by rw [zbh]; exact zkQ h1 h3 _,by rw [zbh]; exact zkQ h2 h4 _⟩
theorem Sub.good {ts us:List Tok} (h:Sub ts us) (hg:zp8 ts):zp8 us:=by
 induction h with
 | nil=>exact hg
 | @brk b ts us hb hs ih =>
  have ih':=ih (zla hg)
  obtain ⟨B,ts',us',h1,rfl,rfl,h4,h5⟩:=hs.head
  unfold zp8 at *
  have hne:b.bs≠[]:=zvW (.inr hb)
  have e1:zbp (b::(B++ts'))=zbp (b::B)++zbp ts':=by rw [← List.cons_append,zbh]
  have e2:zbp (b::(B++us'))=zbp (b::B)++zbp us':=by rw [← List.cons_append,zbh]
  rw [e1,zf4 _ _ h4] at hg
  rw [e2,zf4 _ _ h5]
  have g1:zdP (zbp ts')=ts':=by
   have:=zhx (a:=B) (ts:=ts') (by
    have hh:zp8 (b::(B++ts')):=by unfold zp8; rw [e1,zf4 _ _ h4]; exact hg
    exact zla hh)
   exact this
  rw [zbh,zf4 _ _ h5] at ih'
  have g2:zdP (zbp us')=us':=zhx (a:=B) (by unfold zp8; rw [zbh,zf4 _ _ h5]; exact ih')
  rw [g1,← List.cons_append] at hg
  rw [g2,← List.cons_append]
  rw [List.append_cancel_right hg]
 | @val gs vs ts us h1 h2 h3 h4 _ ih =>
  unfold zp8
  rw [zbh,zkO h4,show zdP (zbp us)=us from ih (zhx hg)]
def place:Nat→List Tok→List Pc
 | _,[]=>[]
 | i,t::ts=>⟨i,t.bs.length,t.r⟩::place (i+t.bs.length) ts
theorem znx (l:List UInt8):∀ i,zed i l=place i (zdP l):=by
 induction l using zfS with
 | h0=>intro i; rw [zhO,zex]; rfl
 | h1 l hn ih =>
  intro i
  have hle:=znX l hn
  have e:(l.take (decodeL l).2).length=(decodeL l).2:=by simp; omega
  rw [zd9 i l hn,zf3 l hn,place,ih,e]
def zgx (s:zBA) (k:Nat):Nat:=match (pcs s.data.toList)[k]? with
 | some p=>p.i
 | none=>s.size
theorem zqr {s:zBA} {k:Nat} {p:Pc} (h:(pcs s.data.toList)[k]?=some p):zgx s k=p.i:=by simp [zgx,h]
theorem zqq (s:zBA):zgx s 0=0:=by
 unfold zgx
 by_cases h:s.data.toList=[]
 ·have:s.size=0:=by have:=congrArg List.length h; simpa using this
  simp [h,pcs,zex,this]
 ·simp [pcs,zd9 0 _ h]
theorem zqs {s:zBA} {k:Nat} {p:Pc} (h:(pcs s.data.toList)[k]?=some p):zgx s (k+1)=p.i+p.w∧zed p.i (s.data.toList.drop p.i)=p::(pcs s.data.toList).drop (k+1):=by
 have hk:k<(pcs s.data.toList).length:=(List.getElem?_eq_some_iff.1 h).1
 have he:pcs s.data.toList=(pcs s.data.toList).take k++p::(pcs s.data.toList).drop (k+1):=by
  have h1:=List.drop_eq_getElem_cons hk
  have h2:(pcs s.data.toList)[k]=p:=(List.getElem?_eq_some_iff.1 h).2
  rw [h2] at h1
  rw [← h1,List.take_append_drop]
 obtain ⟨q1,q2,q3,q4⟩:=znw s.data.toList _ p _ he
 have hlen:s.data.toList.length=s.size:=by rw [Array.length_toList]; rfl
 refine ⟨?_,q3⟩
 unfold zgx
 have hget:(pcs s.data.toList)[k+1]?=((pcs s.data.toList).drop (k+1))[0]?:=by simp
 rw [hget,q4]
 by_cases hd':s.data.toList.drop (p.i+p.w)=[]
 ·rw [hd',zex]
  have h5:=congrArg List.length hd'
  simp only [List.length_drop,List.length_nil,hlen] at h5
  obtain ⟨_,h6,_⟩:=ziB s.data.toList p (List.mem_of_getElem? h)
  simp; omega
 ·rw [zd9 _ _ hd']; simp
section
variable {F:Fence} {P:Program} {w0:World} {K:Nat→Prop} {N:Nat} {dfs:List Deferred} {ops:Array Oper} {Q:Exit→Act→World→Prop} {rest:List Oper} {σ:List (Nat×Value)} {L:List Asn}
 {d:Nat} {t:TypeId} {ty:TypeId} {pos:String} {aft:Array Edge} {g:Option (Nat×Bool)} {x:Operand} {k:Nat} {s:zBA}
theorem zfA [WideF F] (ht:P.underlying t=some .string) (hg:gd ops σ g=some true) (hd:d<N) (hx:ev σ x=some (.string s))
  (h:∀ b,TO F P w0 K N dfs ops Q rest ((d,.pointer (some ⟨b,0,none⟩))::σ) (L++[obj b (.stringIter s (zgx s 0))])):TO F P w0 K N dfs ops Q (⟨some d,.range t x,ty,pos,aft,g⟩::rest) σ L :=
 zfz hg (by simp) fun a w ha hw=>⟨.pointer (some ⟨w.heap.size,0,none⟩),w.alloc (.stringIter s 0),by simp [execOp,ha.ev hx,Instr.range,run_underlying ht,Sem.run_bind],h _ _ _ (ha.put hd _) (by rw [zqq]; exact hw.alloc _)⟩
theorem zf0 [WideF F] {it m:Nat} {p:Pc} (hg:gd ops σ g=some true) (hd:d<N) (hx:ev σ x=some (.pointer (some ⟨it,0,none⟩))) (hk:L[k]?=some (obj it (.stringIter s (zgx s m)))) (hp:(pcs s.data.toList)[m]?=some p)
  (h:TO F P w0 K N dfs ops Q rest ((d,.tuple #[.bool true,.int .i64 p.i,.int .i32 p.r])::σ) (L.set k (obj it (.stringIter s (zgx s (m+1)))))):TO F P w0 K N dfs ops Q (⟨some d,.next x true,ty,pos,aft,g⟩::rest) σ L:=by
 refine zfz hg (by simp) fun a w ha hw => ?_
 have hit:=hw.obj hk
 rw [zqr hp] at hit
 obtain ⟨h1,h2⟩:=zqs hp
 have hmem:=List.mem_of_getElem? hp
 obtain ⟨g1,g2,_⟩:=ziB s.data.toList p hmem
 have hlen:s.data.toList.length=s.size:=by rw [Array.length_toList]; rfl
 obtain ⟨r,wd,W1,e1,e2,e3,e4,e5,e6,e7,e8⟩:=zrT P w it s p.i hit (by omega)
 rw [h2] at e6
 have hpe:p=⟨p.i,wd,r⟩:=(List.cons.inj e6).1
 have hw':p.w=wd:=congrArg Pc.w hpe
 have hr:p.r=r:=congrArg Pc.r hpe
 obtain ⟨C1,c1,c2⟩:=hw.focus hk
 refine ⟨.tuple #[.bool true,.int .i64 p.i,.int .i32 p.r],W1,by rw [hr]; simp [execOp,ha.ev hx,e1,Sem.run_bind],h _ _ (ha.put hd _) (c2 _ C1 W1 ⟨?_,fun j hj=>.inl hj⟩ ⟨c1.1,by rw [h1,hw']; exact e3⟩)⟩
 exact e2.weaken (fun i _ hi=>by subst hi; exact (c1.1 _).2 rfl)
theorem zf1 [WideF F] {it m:Nat} (hg:gd ops σ g=some true) (hd:d<N) (hx:ev σ x=some (.pointer (some ⟨it,0,none⟩))) (hk:L[k]?=some (obj it (.stringIter s (zgx s m)))) (hm:(pcs s.data.toList).length≤m)
  (h:TO F P w0 K N dfs ops Q rest ((d,.tuple #[.bool false])::σ) L):TO F P w0 K N dfs ops Q (⟨some d,.next x true,ty,pos,aft,g⟩::rest) σ L:=by
 refine zfz hg (by simp) fun a w ha hw => ?_
 have hit:=hw.obj hk
 have e:zgx s m=s.size:=by simp [zgx,List.getElem?_eq_none hm]
 rw [e] at hit
 exact ⟨_,w,by simp [execOp,ha.ev hx,(zrU P w it s s.size hit (by omega)).1,Sem.run_bind],h _ _ (ha.put hd _) hw⟩
end
section
open Go.Shelf
attribute [local go_sem] Oper.semAt_some zrg zlP zlQ
theorem zi3 {a b:Bool} (h:a=b):Ending.returned (.bool a)=.returned (.bool b):=by rw [h]
theorem zhr {k:IntKind} {a b:Int} (h:a=b):Ending.returned (.int k a)=.returned (.int k b):=by rw [h]
end
def zsn (r:Int):Bool:=decide (r % 2=0)
def zkf (r:Int):Prop :=
 (65≤r∧r≤90)∨(0xC0≤r∧r≤0xDE∧r≠0xD7)∨(((0x100≤r∧r≤0x137)∨(0x14A≤r∧r≤0x177))∧r % 2=0)∨(0x139≤r∧r≤0x148∧r % 2=1)∨r=0x178 ∨
 (0x179≤r∧r≤0x17D∧r % 2=1)∨(0x386≤r∧r≤0x38F∧r≠0x387∧r≠0x38B∧r≠0x38D)∨(0x391≤r∧r≤0x3AB∧r≠0x3A2)∨(0x400≤r∧r≤0x42F)
instance (r:Int):Decidable (zkf r):=by unfold zkf; infer_instance
def great (r:Int):Bool:=decide (zkf r)
def zj8 (r:Int):Prop :=
 (97≤r∧r≤122)∨(0xDF≤r∧r≤0xFF∧r≠0xF7)∨(((0x100≤r∧r≤0x137)∨(0x14A≤r∧r≤0x177))∧r % 2=1)∨r=0x138∨r=0x149∨r=0x17F∨r=0x390 ∨
 (0x139≤r∧r≤0x148∧r % 2=0)∨(0x17A≤r∧r≤0x17E∧r % 2=0)∨(0x3AC≤r∧r≤0x3CE)∨(0x430≤r∧r≤0x45F)
instance (r:Int):Decidable (zj8 r):=by unfold zj8; infer_instance
def ziW (r:Int):Bool:=decide (zj8 r)
def zaS (r:Int):Bool:=great r||ziW r
def zbb (r:Int):Int :=
 if !great r then r
 else if r=0x130 then 0x69 else if r=0x178 then 0xFF else if r=0x386 then 0x3AC else if r=0x38C then 0x3CC
 else if 0x388≤r∧r≤0x38A then r+0x25 else if r=0x38E∨r=0x38F then r+0x3F
 else if 0x400≤r∧r≤0x40F then r+0x50 else if r<0x100∨0x17F<r then r+0x20 else r+1
def zt2 (r:Int):Int :=
 if r=0xFF then 0xFF - 0x178
 else if r<0x100∨(0x3B1≤r∧r≤0x3CB)∨(0x430≤r∧r≤0x44F) then 0x20
 else if r≤0x17F then 1
 else if r=0x3AC then 0x3AC - 0x386
 else if 0x3AD≤r∧r≤0x3AF then 0x25
 else if r=0x3CC then 0x40
 else if r=0x3CD∨r=0x3CE then 0x3F
 else 0x50
def zoq (r:Int):Int :=
 if !ziW r then r
 else if r=0x131 then 0x49 else if r=0x17F then 0x53 else if r=0x3C2 then 0x3A3
 else if great (r - zt2 r)&&(zbb (r - zt2 r)==r) then r - zt2 r else r
def znH (r:Int):Int :=
 if r<0∨(0xD800≤r∧r≤0xDFFF)∨0x10FFFF<r then 0
 else if zaS r then 1
 else if 0x300≤r∧r≤0x36F then 2
 else if 48≤r∧r≤57 then 3
 else if r=10∨r=13 then 4
 else if r=9∨r=32∨r=0xA0∨r=0x202F∨r=0x205F∨r=0x3000 then 5
 else if r=45∨(0x2010≤r∧r≤0x2015) then 6
 else if r=34∨r=39∨r=0xAB∨r=0xBB∨r=0x2039∨r=0x203A then 7
 else if r=33∨r=44∨r=46∨r=58∨r=59∨r=63∨r=0xA1∨r=0xB7∨r=0xBF∨r=0x2026 then 8
 else if 0x2000≤r∧r≤0x200A then 5
 else if 0x2018≤r∧r≤0x201F then 7
 else if r<0x20∨(0x7F≤r∧r≤0x9F)∨(0x200B≤r∧r≤0x200F)∨r=0xFEFF then 9
 else 10
def kind (r:Int):Int:=znH r
theorem zk8 (r:Int):great r=true↔zkf r:=by simp [great]
theorem zkR (r:Int):ziW r=true↔zj8 r:=by simp [ziW]
section
open Go.Shelf
theorem zzO (r:Int) (h0 : -2147483648≤r) (h1:r≤2147483647):(bits BinOp.and IntKind.i32 r 1==0)=zsn r:=by
 have hk:bits .and .i32 r 1=r % 2:=by
  have h1:(BitVec.ofInt 32 1).toNat=2 ^ 1 - 1:=by decide
  have key:(BitVec.ofInt 32 r &&& BitVec.ofInt 32 1).toNat=(r % ((2 ^ 32:Nat):Int)).toNat % 2 ^ 1:=by
   rw [BitVec.toNat_and,BitVec.toNat_ofInt,h1,Nat.and_two_pow_sub_one_eq_mod]
  show IntKind.i32.wrap ((BitVec.ofInt 32 r &&& BitVec.ofInt 32 1).toNat:Nat)=r % 2
  rw [key,IntKind.wrap_i32]
  omega
 rw [hk,zsn,Bool.eq_iff_iff]
 simp
theorem zpQ (r:Int) (w:World) (h0 : -2147483648≤r) (h1:r≤2147483647) :
  Calls prog 56 #[.int .i32 r] w fun e w'=>e=.returned (.bool (zsn r))∧w=w':=by
 go_enter func56,ntmps56
 go_wp2
 go_ret
 exact ⟨zi3 (zzO r h0 h1),rfl⟩
set_option maxHeartbeats 1000000 in
theorem zhw (r:Int) (w:World) (h0 : -2147483648≤r) (h1:r≤2147483647) :
  Calls prog 32 #[.int .i32 r] w fun e w'=>e=.returned (.bool (great r))∧w=w':=by
 go_enter func32,ntmps32
 go_wp2_with (go_at_call 56; refine (zpQ _ _ (by omega) (by omega)).mono ?_; rintro e w' ⟨rfl,rfl⟩)
 all_goals
  go_ret
  refine ⟨zi3 ?_,rfl⟩
  (go_light; rw [Bool.eq_iff_iff]; (try simp only [zk8,zkf,zsn,decide_eq_true_eq,bne_iff_ne,ne_eq,Bool.not_eq_true',decide_eq_false_iff_not,Bool.and_eq_true,Bool.or_eq_true,Bool.or_eq_false_iff,Bool.and_eq_false_iff,bne_eq_false_iff_eq,beq_iff_eq,beq_eq_false_iff_ne,Bool.false_eq_true,false_iff,true_iff,iff_true,iff_false,Bool.not_eq_false',Bool.not_true,Bool.not_false] at *); omega)
set_option maxHeartbeats 1000000 in
theorem ziV (r:Int) (w:World) (h0 : -2147483648≤r) (h1:r≤2147483647) :
  Calls prog 58 #[.int .i32 r] w fun e w'=>e=.returned (.bool (ziW r))∧w=w':=by
 go_enter func58,ntmps58
 go_wp2_with (go_at_call 56; refine (zpQ _ _ (by omega) (by omega)).mono ?_; rintro e w' ⟨rfl,rfl⟩)
 all_goals
  go_ret
  refine ⟨zi3 ?_,rfl⟩
  (go_light; rw [Bool.eq_iff_iff]; (try simp only [zkR,zj8,zsn,decide_eq_true_eq,bne_iff_ne,ne_eq,Bool.not_eq_true',decide_eq_false_iff_not,Bool.and_eq_true,Bool.or_eq_true,Bool.or_eq_false_iff,Bool.and_eq_false_iff,bne_eq_false_iff_eq,beq_iff_eq,beq_eq_false_iff_ne,Bool.false_eq_true,false_iff,true_iff,iff_true,iff_false,Bool.not_eq_false',Bool.not_true,Bool.not_false] at *); omega)
theorem zqE (r:Int) (w:World) (h0 : -2147483648≤r) (h1:r≤2147483647) :
  Calls prog 73 #[.int .i32 r] w fun e w'=>e=.returned (.bool (zaS r))∧w=w':=by
 go_enter func73,ntmps73
 go_wp2_with (first | (go_at_call 32; refine (zhw _ _ (by omega) (by omega)).mono ?_; rintro e w' ⟨rfl,rfl⟩) | (go_at_call 58; refine (ziV _ _ (by omega) (by omega)).mono ?_; rintro e w' ⟨rfl,rfl⟩))
 all_goals
  go_ret
  refine ⟨zi3 ?_,rfl⟩
  go_light
  simp_all [zaS]
set_option maxHeartbeats 1000000 in
theorem zhu (r:Int) (w:World) (h0 : -2147483648≤r) (h1:r≤2147483647) :
  Calls prog 12 #[.int .i32 r] w fun e w'=>e=.returned (.int .i32 (zbb r))∧w=w':=by
 by_cases hg:great r=true
 ·have hb:r≤2000∧0≤r:=by rw [zk8] at hg; unfold zkf at hg; omega
  have hb1:=hb.1; have hb2:=hb.2; clear hb
  go_enter func12,ntmps12
  go_wp2_with (go_at_call 32; refine (zhw _ _ (by omega) (by omega)).mono ?_; rintro e w' ⟨rfl,rfl⟩)
  all_goals
   go_ret
   refine ⟨zhr ?_,rfl⟩
   go_light
   grind [zbb]
 ·go_enter func12,ntmps12
  go_wp2_with (go_at_call 32; refine (zhw _ _ (by omega) (by omega)).mono ?_; rintro e w' ⟨rfl,rfl⟩)
  all_goals
   go_ret
   refine ⟨zhr ?_,rfl⟩
   go_light
   simp_all [zbb]
set_option maxHeartbeats 1000000 in
theorem zt1 (r:Int) (w:World) (h0 : -2147483648≤r) (h1:r≤2147483647) :
  Calls prog 90 #[.int .i32 r] w fun e w'=>e=.returned (.int .i32 (zt2 r))∧w=w':=by
 go_enter func90,ntmps90
 go_wp2
 all_goals
  go_ret
  refine ⟨zhr ?_,rfl⟩
  go_light
  grind [zt2]
theorem zsL (r:Int) : -300≤zt2 r∧zt2 r≤300:=by unfold zt2; (repeat' split) <;> omega
set_option maxHeartbeats 1000000 in
theorem zrk (r:Int) (w:World) (h0 : -2147483648≤r) (h1:r≤2147483647) :
  Calls prog 70 #[.int .i32 r] w fun e w'=>e=.returned (.int .i32 (zoq r))∧w=w':=by
 have hbd1:=(zsL r).1
 have hbd2:=(zsL r).2
 by_cases hg:ziW r=true
 ·have hb:r≤2000∧0≤r:=by rw [zkR] at hg; unfold zj8 at hg; omega
  have hb1:=hb.1; have hb2:=hb.2; clear hb
  go_enter func70,ntmps70
  go_wp2_with (first | (go_at_call 58; refine (ziV _ _ (by omega) (by omega)).mono ?_; rintro e w' ⟨rfl,rfl⟩) | (go_at_call 90; refine (zt1 _ _ (by omega) (by omega)).mono ?_; rintro e w' ⟨rfl,rfl⟩) | (go_at_call 32; refine (zhw _ _ (by omega) (by omega)).mono ?_; rintro e w' ⟨rfl,rfl⟩) | (go_at_call 12; refine (zhu _ _ (by omega) (by omega)).mono ?_; rintro e w' ⟨rfl,rfl⟩))
  all_goals
   go_ret
   refine ⟨zhr ?_,rfl⟩
   go_light
   grind [zoq]
 ·go_enter func70,ntmps70
  go_wp2_with (first | (go_at_call 58; refine (ziV _ _ (by omega) (by omega)).mono ?_; rintro e w' ⟨rfl,rfl⟩))
  all_goals
   go_ret
   refine ⟨zhr ?_,rfl⟩
   go_light
   simp_all [zoq]
theorem ztD (r:Int) (w:World) (h0 : -2147483648≤r) (h1:r≤2147483647) :
  Calls prog 74 #[.int .i32 r] w fun e w'=>e=.returned (.bool (decide (0x300≤r∧r≤0x36F)))∧w=w':=by
 go_enter func74,ntmps74
 go_wp2
 all_goals
  go_ret
  refine ⟨zi3 ?_,rfl⟩
  (go_light; rw [Bool.eq_iff_iff]; simp only [decide_eq_true_eq,bne_iff_ne,ne_eq,Bool.not_eq_true',decide_eq_false_iff_not,Bool.and_eq_true,Bool.or_eq_true,Bool.or_eq_false_iff,Bool.and_eq_false_iff,bne_eq_false_iff_eq,beq_iff_eq,beq_eq_false_iff_ne,Bool.false_eq_true,false_iff,true_iff,iff_true,iff_false,Bool.not_eq_false',Bool.not_true,Bool.not_false] at *; omega)
end
section
open Go.Shelf
theorem zja (r:Int) (w:World) (h0 : -2147483648≤r) (h1:r≤2147483647) :
  Calls prog 43 #[.int .i32 r] w fun e w'=>e=.returned (.int .i64 (kind r))∧w=w':=by
 go_enter func43,ntmps43
 go_wp2_with (first | (go_at_call 73; refine (zqE _ _ (by omega) (by omega)).mono ?_; rintro e w' ⟨rfl,rfl⟩) | (go_at_call 74; refine (ztD _ _ (by omega) (by omega)).mono ?_; rintro e w' ⟨rfl,rfl⟩))
 all_goals
  go_ret
  refine ⟨zhr ?_,rfl⟩
  go_light
  try simp only [decide_eq_true_eq,bne_iff_ne,ne_eq,Bool.not_eq_true',decide_eq_false_iff_not,Bool.and_eq_true,Bool.or_eq_true,Bool.or_eq_false_iff,Bool.and_eq_false_iff,bne_eq_false_iff_eq,beq_iff_eq,beq_eq_false_iff_ne,Bool.false_eq_true,false_iff,true_iff,iff_true,iff_false,Bool.not_eq_false',Bool.not_true,Bool.not_false] at *
  grind [kind,znH]
def zbr (b:Bool) (r:Int):Int:=if b then 11 else kind r
theorem zw1 (i wd r:Int) (b:Bool) (w:World) (h0 : -2147483648≤r) (h1:r≤2147483647) :
  Calls prog 50 #[.agg #[.int .i64 i,.int .i64 wd,.int .i32 r,.bool b]] w fun e w'=>e=.returned (.int .i64 (zbr b r))∧Below w.heap.size w w':=by
 cases b
 ·go_enter func50,ntmps50
  go_wp2_with (go_at_call 43; refine (zja _ _ (by omega) (by omega)).mono ?_; rintro e w' ⟨rfl,rfl⟩)
  go_ret
  exact ⟨zhr (by simp [zbr]),(Below.refl _ _).alloc (Nat.le_refl _) _⟩
 ·go_enter func50,ntmps50
  go_wp2_with (go_at_call 43; refine (zja _ _ (by omega) (by omega)).mono ?_; rintro e w' ⟨rfl,rfl⟩)
  go_ret
  exact ⟨zhr (by simp [zbr]),(Below.refl _ _).alloc (Nat.le_refl _) _⟩
end
section
open Go.Shelf
attribute [local go_sem] Oper.semAt_some zrg zlP zlQ
end
section
open Go.Shelf
attribute [local go_sem] Oper.semAt_some
end
structure Rn where
 f:Nat
 t:Nat
 k:Int
 deriving DecidableEq
theorem zwo (i wd r:Int) (b:Bool) (h0 : -2147483648≤r) (h1:r≤2147483647):FnP prog 50 [.agg #[.int .i64 i,.int .i64 wd,.int .i32 r,.bool b]] (.int .i64 (zbr b r)):=fun w=>zw1 i wd r b w h0 h1
end Go.Proofs.YtifpjbgnikjglaaDoor

namespace Go.Proofs.YtifpjbgnikjglaaDoor
@[ext] structure ziP where
 Rune:Int
 Text:zBA
 At:Int
end Go.Proofs.YtifpjbgnikjglaaDoor

namespace Go.Proofs.YtifpjbgnikjglaaDoor
open Go.RowKit Go.Lib
open Tryd
set_option linter.unusedVariables false
set_option linter.unusedSimpArgs false
def zo9 {α:Type} (P:Program) (g:FuncId) (lb:Array Value) (enc:α→Array Value) (xs:List α) (M:Nat→Prop) (W0:World):Prop :=
 ∀ (l:Nat) (I X:List α→(Nat→Prop)→World→Prop) (C0 B0:Nat→Prop) (W:World),
  (∀ k,M k→k<W0.heap.size∧W.heap[k]?=W0.heap[k]?∧¬ C0 k)→W0.heap.size≤W.heap.size→(∀ k,C0 k→k<W.heap.size)→(∀ k,B0 k↔C0 k∨M k) →
  zid I→zid X →
  (∀ pre x post C W1,xs=pre++x::post→Ext B0 C W W1→I pre C W1 →
   YAt P l (enc x) W1 fun b W2=>∃ C',Ext C C' W1 W2∧((b=true∧I (pre++[x]) C' W2)∨(b=false∧X (pre++[x]) C' W2))) →
  I [] C0 W →
  Calls P g (#[.func (.yield l) #[] #[]]++lb) W fun e W'=>(∃ v,e=.returned v) ∧
   ∃ C',Ext B0 C' W W'∧(I xs C' W'∨∃ pre x post,xs=pre++x::post∧X (pre++[x]) C' W')
section
variable {P:Program}
theorem zoA {α:Type} {gf:FuncId} {lb:Array Value} {enc:α→Array Value} {xs:List α} {M:Nat→Prop} {W0:World} (hY:zo9 P gf lb enc xs M W0)
  {fn:FuncId} {tmps:Array Value} {ps:Array Tmp} {assign body:Code} {dblk:Nat} (hps:∀ x,(enc x).size=ps.size)
  (I:List α→(Nat→Prop)→World→Prop) (X:Code→List α→(Nat→Prop)→World→Prop) (J:List α→α→Act→(Nat→Prop)→World→Prop)
  (hI:zid I) (hX:∀ c,zid (X c)) (hJ:∀ pre x a,zid (fun (_:Unit)=>J pre x a)) (C0 B0:Nat→Prop) (W:World) (l:Nat)
  (hl:W.heap[l]?=some (.loop { state:=.ready,pending:=none,fn,tmps,params:=ps,assign,body,defers:=dblk })) (hlC:¬ C0 l) (hlB:¬ B0 l)
  (hM:∀ k,M k→k<W0.heap.size∧W.heap[k]?=W0.heap[k]?∧¬ C0 k) (hs:W0.heap.size≤W.heap.size) (hC0:∀ k,C0 k→k<W.heap.size) (hB:∀ k,B0 k↔C0 k∨M k) (h0:I [] C0 W)
  (hassign:∀ pre x post C W1,xs=pre++x::post→Ext (fun k=>B0 k∨k=l) (fun k=>C k∨k=l) W W1→I pre C W1→¬ C l→(∃ r,W1.heap[l]?=some (.loop r)∧r.defers=dblk) →
   assign.wpIn (Fence.wide.inRound l) 0 P (Exit.then (fun a1 W2=>∃ C1,Ext C C1 W1 W2∧J pre x a1 C1 W2) (fun _ _ _=>False))
    { tmps:=(ps.zip (enc x)).foldl (fun t (p,v)=>t.setIfInBounds p v) tmps,defers:=[] } W1)
  (hbody:∀ pre x post C W1 a1,xs=pre++x::post→Ext (fun k=>B0 k∨k=l) (fun k=>C k∨k=l) W W1→J pre x a1 C W1→¬ C l→(∃ r,W1.heap[l]?=some (.loop r)∧r.defers=dblk) →
   body.wpIn (Fence.wide.inRound l) 0 P (zuf I X (pre++[x]) C W1) a1 W1) :
  Calls P gf (#[.func (.yield l) #[] #[]]++lb) W fun e W'=>(∃ v,e=.returned v) ∧
   ∃ C' st pe,Ext (fun k=>B0 k∨k=l) (fun k=>C' k∨k=l) W W'∧¬ C' l∧W'.heap[l]?=some (.loop { state:=st,pending:=pe,fn,tmps,params:=ps,assign,body,defers:=dblk })∧st≠.busy ∧
    ((pe=none∧I xs C' W')∨∃ c pre x post,pe=some c∧xs=pre++x::post∧X c (pre++[x]) C' W'):=by
 have hlt:l<W.heap.size:=zbC hl
 refine (hY l
  (fun pre Cc W1=>∃ C,Cc=(fun k=>C k∨k=l)∧¬ C l∧I pre C W1∧W1.heap[l]?=some (.loop { state:=.ready,pending:=none,fn,tmps,params:=ps,assign,body,defers:=dblk }))
  (fun pre Cc W1=>∃ C c,Cc=(fun k=>C k∨k=l)∧¬ C l∧X c pre C W1∧W1.heap[l]?=some (.loop { state:=.done,pending:=some c,fn,tmps,params:=ps,assign,body,defers:=dblk }))
  (fun k=>C0 k∨k=l) (fun k=>B0 k∨k=l) W (fun k hk=>⟨(hM k hk).1,(hM k hk).2.1,fun h=>h.elim (hM k hk).2.2 (fun e=>hlB ((hB l).2 (.inr (e ▸ hk))))⟩) hs ?_ (fun k=>by rw [hB]; exact or_right_comm) ?_ ?_ ?_ ?_).mono ?_
 ·rintro k (h | rfl)
  ·exact hC0 k h
  ·exact hlt
 ·rintro pre Cc W1 W2 ⟨C,rfl,hn,hi,hr⟩ hsz hk
  exact ⟨C,rfl,hn,hI _ _ _ _ hi hsz (fun k h=>hk k (.inl h)),(hk l (.inr rfl)).trans hr⟩
 ·rintro pre Cc W1 W2 ⟨C,c,rfl,hn,hi,hr⟩ hsz hk
  exact ⟨C,c,rfl,hn,hX c _ _ _ _ hi hsz (fun k h=>hk k (.inl h)),(hk l (.inr rfl)).trans hr⟩
 ·rintro pre x post Cc W1 hxs hext ⟨C,rfl,hn,hi,hr⟩
  have hlt1:l<W1.heap.size:=zbC hr
  have hy:=run_yield (P:=P) (args:=enc x) hr (hps x)
  refine ⟨fn,_,assign,body,hy,roundIn_of_wpIn (F:=Fence.wide) trivial (wpIn_mono (hassign pre x post C W1 hxs hext hi hn ⟨_,hr,rfl⟩) ?_)⟩
  clear hy
  rintro e a1 W2 hp
  cases e with
  | normal =>
   obtain ⟨C1,hx1,hj⟩:=hp
   have hn1:¬ C1 l:=hx1.not hlt1 hn
   have hr2:W2.heap[l]?=_:=hx1.1.at hr hn
   have hlt2:l<W2.heap.size:=zbC hr2
   refine ⟨_,run_beginRound hr2 rfl,?_⟩
   have hr3:=World.putObj_heap_same (w:=W2) (o:=.loop { state:=.busy,pending:=none,fn,tmps,params:=ps,assign,body,defers:=dblk }) hlt2
   have hother:∀ (Cz:Nat→Prop) (Wz:World) (o:Obj),¬ Cz l→∀ k,Cz k→(Wz.putObj l o).heap[k]?=Wz.heap[k]?:=fun Cz Wz o hz k hk=>World.putObj_heap_other (by rintro rfl; exact hz hk)
   have hj3:=hJ pre x a1 () C1 W2 (W2.putObj l (.loop { state:=.busy,pending:=none,fn,tmps,params:=ps,assign,body,defers:=dblk })) hj (by simp) (hother C1 W2 _ hn1)
   have e12:Ext (fun k=>C k∨k=l) (fun k=>C1 k∨k=l) W1 (W2.putObj l (.loop { state:=.busy,pending:=none,fn,tmps,params:=ps,assign,body,defers:=dblk })) :=
    ⟨(hx1.1.weaken (fun _ _ h=>.inl h)).putObj (.inl (.inr rfl)) _,fun k hk=>by
     rcases hk with hk | rfl
     ·rcases hx1.2 k hk with h' | h'
      ·exact .inl (.inl h')
      ·exact .inr (by simpa using h')
     ·exact .inl (.inr rfl)⟩
   refine wpIn_mono (hbody pre x post C1 _ a1 hxs (hext.trans e12) hj3 hn1 ⟨_,hr3,rfl⟩) ?_
   have fin:∀ (jump:Option Code) (C':Nat→Prop) (W4:World),Ext C1 C' (W2.putObj l (.loop { state:=.busy,pending:=none,fn,tmps,params:=ps,assign,body,defers:=dblk })) W4 →
     ¬ C' l∧(Instr.endRound l jump).run P W4=.ok (.bool jump.isNone) (W4.putObj l (.loop { state:=if jump.isNone then .ready else .done,pending:=jump,fn,tmps,params:=ps,assign,body,defers:=dblk })) ∧
     (W4.putObj l (.loop { state:=if jump.isNone then .ready else .done,pending:=jump,fn,tmps,params:=ps,assign,body,defers:=dblk })).heap[l]?=some (.loop { state:=if jump.isNone then .ready else .done,pending:=jump,fn,tmps,params:=ps,assign,body,defers:=dblk }) ∧
     Ext (fun k=>C k∨k=l) (fun k=>C' k∨k=l) W1 (W4.putObj l (.loop { state:=if jump.isNone then .ready else .done,pending:=jump,fn,tmps,params:=ps,assign,body,defers:=dblk })):=by
    intro jump C' W4 hx4
    have hn4:¬ C' l:=hx4.not (by simpa using hlt2) hn1
    have hr4:=hx4.1.at hr3 hn1
    have hlt4:l<W4.heap.size:=zbC hr4
    refine ⟨hn4,run_endRound (P:=P) jump hr4,World.putObj_heap_same hlt4,e12.trans ⟨(hx4.1.weaken (fun _ _ h=>.inl h)).putObj (.inl (.inr rfl)) _,?_⟩⟩
    rintro k (hk | rfl)
    ·rcases hx4.2 k hk with h' | h'
     ·exact .inl (.inl h')
     ·exact .inr (by simpa using h')
    ·exact .inl (.inr rfl)
   rintro e a3 W4 hp4
   cases e with
   | normal =>
    obtain ⟨C',hx4,hi4⟩:=hp4
    obtain ⟨q1,q2,q3,q4⟩:=fin none C' W4 hx4
    exact ⟨_,_,q2,true,rfl,_,q4,.inl ⟨rfl,C',rfl,q1,hI _ _ _ _ hi4 (by simp) (hother C' W4 _ q1),q3⟩⟩
   | ret =>
    obtain ⟨C',hx4,hi4⟩:=hp4
    obtain ⟨q1,q2,q3,q4⟩:=fin (some .ret) C' W4 hx4
    exact ⟨_,_,q2,false,rfl,_,q4,.inr ⟨rfl,C',_,rfl,q1,hX _ _ _ _ _ hi4 (by simp) (hother C' W4 _ q1),q3⟩⟩
   | exit id =>
    obtain ⟨C',hx4,hi4⟩:=hp4
    obtain ⟨q1,q2,q3,q4⟩:=fin (some (.exit id)) C' W4 hx4
    exact ⟨_,_,q2,false,rfl,_,q4,.inr ⟨rfl,C',_,rfl,q1,hX _ _ _ _ _ hi4 (by simp) (hother C' W4 _ q1),q3⟩⟩
   | goto t =>
    obtain ⟨C',hx4,hi4⟩:=hp4
    obtain ⟨q1,q2,q3,q4⟩:=fin (some (.goto t)) C' W4 hx4
    exact ⟨_,_,q2,false,rfl,_,q4,.inr ⟨rfl,C',_,rfl,q1,hX _ _ _ _ _ hi4 (by simp) (hother C' W4 _ q1),q3⟩⟩
   | panic ch=>exact hp4.elim
   | outgrown=>exact hp4.elim
  | ret=>exact hp.elim
  | exit id=>exact hp.elim
  | goto t=>exact hp.elim
  | panic ch=>exact hp.elim
  | outgrown=>exact hp.elim
 ·exact ⟨C0,rfl,hlC,h0,hl⟩
 ·rintro e W' ⟨hv,C',hext,⟨C,rfl,hn,hi,hr⟩ | ⟨pre,x,post,hxs,C,c,rfl,hn,hi,hr⟩⟩
  ·exact ⟨hv,C,_,_,hext,hn,hr,by simp,.inl ⟨rfl,hi⟩⟩
  ·exact ⟨hv,C,_,_,hext,hn,hr,by simp,.inr ⟨c,pre,x,post,rfl,hxs,hi⟩⟩
theorem zrf {α:Type} {g:Operand} {ps:Array Tmp} {assign body:Code} {Q:Exit→Act→World→Prop} {a:Act} {w:World}
  {gf:FuncId} {lb:Array Value} (hg:a.eval g=.func (.func gf) #[] lb) (eg:∀ args w,(callFunc gf args).run P w=.ok (.enter gf args) w)
  {enc:α→Array Value} {xs:List α} {M:Nat→Prop} {W0:World} (hY:zo9 P gf lb enc xs M W0)
  (hs:W0.heap.size≤w.heap.size) (hps:∀ x,(enc x).size=ps.size)
  (I:List α→(Nat→Prop)→World→Prop) (X:Code→List α→(Nat→Prop)→World→Prop) (J:List α→α→Act→(Nat→Prop)→World→Prop)
  (hI:zid I) (hX:∀ c,zid (X c)) (hJ:∀ pre x a,zid (fun (_:Unit)=>J pre x a)) (C0 B0:Nat→Prop)
  (hC0:∀ k,C0 k→k<w.heap.size) (hB:∀ k,B0 k↔C0 k∨M k) (hM:∀ k,M k→k<W0.heap.size∧w.heap[k]?=W0.heap[k]?∧¬ C0 k) (h0:I [] C0 w)
  (hassign:∀ l pre x post C W1,xs=pre++x::post→Ext B0 C w W1→I pre C W1→¬ C l→w.heap.size≤l→(∃ r,W1.heap[l]?=some (.loop r)) →
   assign.wpIn (Fence.wide.inRound l) 0 P (Exit.then (fun a1 W2=>∃ C1,Ext C C1 W1 W2∧J pre x a1 C1 W2) (fun _ _ _=>False))
    { tmps:=(ps.zip (enc x)).foldl (fun t (p,v)=>t.setIfInBounds p v) a.tmps,defers:=[] } W1)
  (hbody:∀ l pre x post C W1 a1,xs=pre++x::post→Ext B0 C w W1→J pre x a1 C W1→¬ C l→w.heap.size≤l→(∃ r,W1.heap[l]?=some (.loop r)) →
   body.wpIn (Fence.wide.inRound l) 0 P (zuf I X (pre++[x]) C W1) a1 W1)
  (hdone:∀ (d:Nat) (C:Nat→Prop) (W:World),Ext B0 C w W→I xs C W→w.heap.size≤d→¬ C d→W.heap[d]?=some (.deferred (some []))→Q .normal { a with defers:={ target:=.collected d,args:=#[] }::a.defers } W)
  (hstop:∀ (d:Nat) (c:Code) (pre:List α) (x:α) (post:List α) (C:Nat→Prop) (W:World),xs=pre++x::post→Ext B0 C w W→X c (pre++[x]) C W→w.heap.size≤d→¬ C d→W.heap[d]?=some (.deferred (some [])) →
   c.wpIn Fence.wide 0 P Q { a with defers:={ target:=.collected d,args:=#[] }::a.defers } W) :
  (Code.rangeFunc g ps assign body).wpIn Fence.wide 0 P Q a w:=by
 have hBl:∀ k,B0 k→k<w.heap.size:=fun k hk=>by
  rcases (hB k).1 hk with h | h
  ·exact hC0 k h
  ·have:=(hM k h).1; omega
 refine wpIn_rangeFunc ?_
 intro fn hfn
 obtain ⟨W1,hW1⟩:∃ W1,(w.alloc (.deferred (some []))).alloc (.loop { state:=.ready,pending:=none,fn,tmps:=a.tmps,params:=ps,assign,body,defers:=w.heap.size })=W1:=⟨_,rfl⟩
 have hL1:W1.heap[w.heap.size+1]?=some (.loop { state:=.ready,pending:=none,fn,tmps:=a.tmps,params:=ps,assign,body,defers:=w.heap.size }):=by
  rw [← hW1]; have:=World.alloc_heap_new (w.alloc (.deferred (some []))) (.loop { state:=.ready,pending:=none,fn,tmps:=a.tmps,params:=ps,assign,body,defers:=w.heap.size }); rwa [World.size_alloc] at this
 have hK1:W1.heap[w.heap.size]?=some (.deferred (some [])):=by
  rw [← hW1]; exact (Below.heap_alloc _ _ _ (by simp)).trans (World.alloc_heap_new w _)
 have hF1:Fr B0 w W1:=by rw [← hW1]; exact ((Fr.refl B0 w).alloc _).alloc _
 have hsz:W1.heap.size=w.heap.size+2:=by rw [← hW1]; simp
 have hold:∀ k,k<w.heap.size→W1.heap[k]?=w.heap[k]?:=fun k hk=>by rw [← hW1]; exact (Below.heap_alloc _ _ _ (by simp; omega)).trans (Below.heap_alloc _ _ _ hk)
 have hI1:I [] C0 W1:=hI _ _ _ _ h0 hF1.size (fun k hk=>hold k (hC0 k hk))
 have hpull:∀ {C:Nat→Prop} {W2:World},Ext (fun k=>B0 k∨k=w.heap.size+1) (fun k=>C k∨k=w.heap.size+1) W1 W2→¬ C (w.heap.size+1)→Ext B0 C w W2∧¬ C w.heap.size∧W2.heap[w.heap.size]?=some (.deferred (some [])):=by
  intro C W2 h hn
  have hnd:¬ C w.heap.size:=fun hc=>by
   rcases h.2 _ (.inl hc) with (h' | h') | h'
   ·have:=hBl _ h'; omega
   ·omega
   ·omega
  refine ⟨⟨hF1.trans' h.1 (fun i hi hc=>hc.resolve_right (by omega)),fun k hk => ?_⟩,hnd,h.1.at hK1 (fun hc => ?_)⟩
  ·have h2:=h.1.size
   rcases h.2 k (.inl hk) with (h' | h') | h'
   ·exact .inl h'
   ·exact absurd (h' ▸ hk) hn
   ·exact .inr (by omega)
  ·rcases hc with hc | hc
   ·have:=hBl _ hc; omega
   ·omega
 refine ⟨w.heap.size+1,[{ target:=.collected w.heap.size,args:=#[] }],W1,{ target:=.fn (.func gf) lb,args:=#[.func (.yield (w.heap.size+1)) #[] #[]] },W1,gf,
  #[.func (.yield (w.heap.size+1)) #[] #[]]++lb,W1,?_,?_,?_,?_,fun h=>by simp [Fence.wide] at h,callsIn_wide.2 ?_⟩
 ·rw [← hW1]; exact run_enterLoop_outer _ _ _ _ _
 ·simp only [resolve,hg]
  simp [go_sem]
 ·intro f' hf'; trivial
 ·simp [invoke,go_sem,eg]
 ·refine (zoA hY hps I X J hI hX hJ C0 B0 W1 (w.heap.size+1) hL1 (fun h=>by have:=hC0 _ h; omega) (fun h=>by have:=hBl _ h; omega)
   (fun k hk=>⟨(hM k hk).1,(hold k (by have:=(hM k hk).1; omega)).trans (hM k hk).2.1,(hM k hk).2.2⟩) (by omega) (fun k hk=>by have:=hC0 k hk; omega) hB hI1 ?_ ?_).mono ?_
  ·rintro pre x post C W2 hxs hext hi hn ⟨r,hr,_⟩
   exact hassign _ pre x post C W2 hxs (hpull hext hn).1 hi hn (by omega) ⟨r,hr⟩
  ·rintro pre x post C W2 a1 hxs hext hj hn ⟨r,hr,_⟩
   exact hbody _ pre x post C W2 a1 hxs (hpull hext hn).1 hj hn (by omega) ⟨r,hr⟩
  ·rintro e W2 ⟨⟨v,rfl⟩,C',st,pe,hext,hn,hr,hst,h⟩
   obtain ⟨q1,q2,q3⟩:=hpull hext hn
   have hlt2:w.heap.size+1<W2.heap.size:=zbC hr
   have e1:∀ o,Ext B0 C' w (W2.putObj (w.heap.size+1) o):=fun o=>⟨q1.1.putObj (.inr (by omega)) _,fun k hk=>by have:=q1.2 k hk; simpa using this⟩
   have hk1:∀ o,∀ k,C' k→(W2.putObj (w.heap.size+1) o).heap[k]?=W2.heap[k]?:=fun o k hk=>World.putObj_heap_other (by rintro rfl; exact hn hk)
   have hd1:∀ o,(W2.putObj (w.heap.size+1) o).heap[w.heap.size]?=some (.deferred (some [])):=fun o=>(World.putObj_heap_other (by omega)).trans q3
   rcases h with ⟨rfl,hi⟩ | ⟨c,pre,x,post,rfl,hxs,hx⟩
   ·exact ⟨none,_,run_endLoop (P:=P) hr hst,hdone _ C' _ (e1 _) (hI _ _ _ _ hi (by simp) (hk1 _)) (Nat.le_refl _) q2 (hd1 _)⟩
   ·exact ⟨some c,_,run_endLoop (P:=P) hr hst,hstop _ c pre x post C' _ hxs (e1 _) (hX _ _ _ _ _ hx (by simp) (hk1 _)) (Nat.le_refl _) q2 (hd1 _)⟩
end
section
variable {F:Fence} {P:Program} {w0:World} {K:Nat→Prop} {N:Nat} {dfs:List Deferred} {ops:Array Oper} {Q:Exit→Act→World→Prop} {rest:List Oper} {σ σ':List (Nat×Value)} {L L' R R0 As Bs:List Asn} {o:Oper} {v:Value}
 {d:Nat} {t:TypeId} {op:Op} {ty:TypeId} {pos:String} {aft:Array Edge} {g:Option (Nat×Bool)} {x y z:Operand} {c c1 c2:Code} {k:Nat} {A B:Asn} {RO:List (Nat×Obj)} {RD RD0:List Asn}
def ItrM (P:Program) (gf:FuncId) (caps:List Value) {α:Type} (enc:α→List Value) (xs:List α) (As:List Asn):Prop :=
 ∀ (w:World) (M:Nat→Prop),sepL As M w→zo9 P gf caps.toArray (fun x=>(enc x).toArray) xs M w
theorem ItrM.intro {gf:FuncId} {fn:Func} {caps:List Value} {α:Type} {enc:α→List Value} {xs:List α} (hf:P.funcs[gf]?=some fn) (hb:fn.body=some c) (hn:fn.ntmps=N) (hN:caps.length+1≤N)
  (h:∀ l w0 K (I X:List α→Asn),YC P l enc xs I X w0 K →
   TC Fence.wide P w0 K N [] (bodyPostM Fence.wide 0 P fn (FY xs I X w0 K)) c (zfT (.func (.yield l) #[] #[]::caps)) (I []::As)):ItrM P gf caps enc xs As:=by
 subst hn
 intro w M hAs l I X C0 B0 W hM hsz hC0 hB hIl hXl hy h0
 have hAs':sepL As M W:=hAs.loc hsz (fun k hk=>(hM k hk).2.1)
 have:=h l W B0 (fun pre=>zwq (I pre) (fun C W W'=>hIl pre C W W')) (fun pre=>zwq (X pre) (fun C W W'=>hXl pre C W W')) (fun pre x post C W1 hxs he hi=>by
  obtain ⟨f1,t1,a1,b1,hr1,hr2⟩:=hy pre x post C W1 hxs he hi.1
  refine ⟨f1,t1,a1,b1,hr1,hr2.mono ?_⟩
  rintro e w2 ⟨b,rfl,C',hx,hc⟩
  have hlt:∀ k,C' k→k<w2.heap.size:=fun k hk=>by
   have:=hx.1.size
   rcases hx.2 k hk with h | h
   ·have:=hi.2 k h; omega
   ·exact h.2
  exact ⟨b,rfl,C',hx,hc.imp (fun h=>⟨h.1,h.2,hlt⟩) (fun h=>⟨h.1,h.2,hlt⟩)⟩)
 have hs:(Value.func (.yield l) #[] #[]::caps).toArray=#[.func (.yield l) #[] #[]]++caps.toArray:=by simp
 rw [← hs]
 refine (zeK hf hb (this _ W (zh5 _ (by simpa using hN)) ⟨B0,⟨C0,M,⟨h0,hC0⟩,hAs',fun k a b=>(hM k b).2.2 a,hB⟩,Ext.refl _ _⟩)).mono ?_
 rintro e w' ⟨he,hh⟩
 refine ⟨he,?_⟩
 rcases hh with ⟨C',hh,hx⟩ | ⟨pre,x,post,hxs,C',hh,hx⟩
 ·obtain ⟨C1,C2,g1,g2,_,g4⟩:=hh
  have:C'=C1:=funext fun k=>propext (by rw [g4]; exact ⟨fun h=>h.resolve_right (g2 k),.inl⟩)
  subst this
  exact ⟨C',hx,.inl g1.1⟩
 ·obtain ⟨C1,C2,g1,g2,_,g4⟩:=hh
  have:C'=C1:=funext fun k=>propext (by rw [g4]; exact ⟨fun h=>h.resolve_right (g2 k),.inl⟩)
  subst this
  exact ⟨C',hx,.inr ⟨pre,x,post,hxs,g1.1⟩⟩
section
variable {α β γ δ:Type}
theorem zsY {gf:FuncId} {caps:List Value} {enc:α→List Value} {xs:List α} {ps:List Nat} {assign body:Code} (hRo:Ro w0 K RO)
  (hg:ev σ x=some (.func (.func gf) #[] caps.toArray)) (hent:∀ args w,(callFunc gf args).run P w=.ok (.enter gf args) w) (hY:ItrM P gf caps enc xs As)
  (Inv:List α→β→Prop) (LI:List α→β→List Asn) (X:Code→List α→γ→Prop) (LX:Code→List α→γ→List Asn) (σJ:List α→α→β→δ→List (Nat×Value)) (LJ:List α→α→β→δ→List Asn) (b0:β)
  (h0:Inv [] b0) (hs:Splits R0 (LI [] b0) R) (hs0:Splits L As R0) (hps:∀ x,(enc x).length=ps.length) (hpN:∀ p∈ps,p<N)
  (hassign:∀ l r pre e post b w1 K1,xs=pre++e::post→Ext K K1 w0 w1→Ro w1 K1 (RO++[(l,.loop r)])→Inv pre b →
   TC (Fence.wide.inRound l) P w1 K1 N [] (Exit.then (fun a w=>∃ j,St w1 K1 N [] (σJ pre e b j) (LJ pre e b j) a w) (fun _ _ _=>False)) assign (ziR ps (enc e) σ) (LI pre b))
  (hbody:∀ l r pre e post b j w1 K1,xs=pre++e::post→Ext K K1 w0 w1→Ro w1 K1 (RO++[(l,.loop r)])→Inv pre b→TC (Fence.wide.inRound l) P w1 K1 N [] (RQ Inv LI X LX (pre++[e]) w1 K1) body (σJ pre e b j) (LJ pre e b j))
  (hdone:∀ d b,Inv xs b→TX w0 K N ({ target:=.collected d,args:=#[] }::dfs) Q .normal σ (R++(LI xs b++[zdW d])))
  (hstop:∀ d c pre e post b,xs=pre++e::post→X c (pre++[e]) b→TC Fence.wide P w0 K N ({ target:=.collected d,args:=#[] }::dfs) Q c σ (R++(LX c (pre++[e]) b++[zdW d]))) :
  TC Fence.wide P w0 K N dfs Q (.rangeFunc x ps.toArray assign body) σ L:=by
 intro a w ha hw
 obtain ⟨B1,C2,⟨M,C1,hAs,g1,hd1,hB1⟩,g2,g3,gx,hstep⟩:=hw.split2 (hs0.consS hs)
 have hlt1:=g1.lt
 have hltM:=sepL.lt (L:=As) hAs
 have hro1:∀ {C:Nat→Prop} {W:World},Ext K C w0 W→Ro W C RO:=fun {C W} hx p hp=>by
  obtain ⟨h1,h2⟩:=hRo p hp
  refine ⟨hx.1.at h1 h2,fun h => ?_⟩
  rcases hx.2 _ h with h | h
  ·exact h2 h
  ·have:=zbC h1; omega
 refine zrf (gf:=gf) (lb:=caps.toArray) (ha.ev hg) hent (hY w M hAs) (Nat.le_refl _) (fun e=>by simp [hps])
  (fun pre C W=>∃ b,Inv pre b∧sepL (LI pre b) C W) (fun c pre C W=>∃ b,X c pre b∧sepL (LX c pre b) C W)
  (fun pre e a1 C W=>∃ b j,Inv pre b∧At N [] (σJ pre e b j) a1∧sepL (LJ pre e b j) C W) ?_ ?_ ?_ C1 B1 hlt1 (fun k=>by rw [hB1]; exact or_comm) (fun k hk=>⟨hltM k hk,rfl,hd1 k hk⟩) ⟨b0,h0,g1⟩ ?_ ?_ ?_ ?_
 ·rintro pre C W W' ⟨b,h1,h2⟩ hs hk; exact ⟨b,h1,h2.loc hs hk⟩
 ·rintro c pre C W W' ⟨b,h1,h2⟩ hs hk; exact ⟨b,h1,h2.loc hs hk⟩
 ·rintro pre e a1 _ C W W' ⟨b,j,h1,h2,h3⟩ hs hk; exact ⟨b,j,h1,h2,h3.loc hs hk⟩
 ·rintro l pre e post C W1 hxs hext ⟨b,hb,hi⟩ hn hl ⟨r,hr⟩
  have hx1:Ext K C w0 W1:=gx.trans hext
  refine wpIn_mono (hassign l r pre e post b W1 C hxs hx1 ((hro1 hx1).snoc hr hn) hb _ W1 (ha.zip ps (enc e) hpN) ⟨C,hi,Ext.refl _ _⟩) ?_
  rintro ex a' w' hq
  cases ex with
  | normal =>
   obtain ⟨j,hj,C',hL',hx'⟩:=hq
   exact ⟨C',hx',b,j,hb,hj,hL'⟩
  | _=>exact hq
 ·rintro l pre e post C W1 a1 hxs hext ⟨b,j,hb,hat,hi⟩ hn hl ⟨r,hr⟩
  have hx1:Ext K C w0 W1:=gx.trans hext
  refine wpIn_mono (hbody l r pre e post b j W1 C hxs hx1 ((hro1 hx1).snoc hr hn) hb a1 W1 hat ⟨C,hi,Ext.refl _ _⟩) ?_
  rintro ex a' w' hq
  cases ex with
  | normal=>obtain ⟨b',h1,C',h2,h3⟩:=hq; exact ⟨C',h3,b',h1,h2⟩
  | ret=>obtain ⟨b',h1,C',h2,h3⟩:=hq; exact ⟨C',h3,b',h1,h2⟩
  | exit id=>obtain ⟨b',h1,C',h2,h3⟩:=hq; exact ⟨C',h3,b',h1,h2⟩
  | goto id=>obtain ⟨b',h1,C',h2,h3⟩:=hq; exact ⟨C',h3,b',h1,h2⟩
  | panic _=>exact hq
  | outgrown=>exact hq
 ·rintro d C W hext ⟨b,hb,hi⟩ hd hCd hdef
  refine hdone d b hb _ W ⟨ha.1,by rw [← ha.2.1],ha.2.2⟩ (hstep _ (fun k=>C k∨k=d) W ⟨hext.1,fun k hk => ?_⟩ ?_)
  ·rcases hk with hk | rfl
   ·exact hext.2 k hk
   ·exact .inr ⟨hd,zbC hdef⟩
  ·exact hi.append (sepL.one ⟨fun k=>Iff.rfl,hdef⟩) (fun k hk e=>hCd (e ▸ hk))
 ·rintro d c pre e post C W hxs hext ⟨b,hb,hi⟩ hd hCd hdef
  refine hstop d c pre e post b hxs hb _ W ⟨ha.1,by rw [← ha.2.1],ha.2.2⟩ (hstep _ (fun k=>C k∨k=d) W ⟨hext.1,fun k hk => ?_⟩ ?_)
  ·rcases hk with hk | rfl
   ·exact hext.2 k hk
   ·exact .inr ⟨hd,zbC hdef⟩
  ·exact hi.append (sepL.one ⟨fun k=>Iff.rfl,hdef⟩) (fun k hk e=>hCd (e ▸ hk))
end
end
end Go.Proofs.YtifpjbgnikjglaaDoor

namespace Go.Proofs
open Go.Shelf
def zkv:Go.Shelf.Ren:=⟨fun | 106=>28 | 213=>54 | 265=>77 | n=>n,fun | 9=>9 | 3=>3 | n=>n,fun | n=>n⟩
theorem zn9:Go.Proofs.Lays.n106 Tryd.prog zkv:={
 mixed:=by kernel_rfl
 f106:=Tryd.func28.trans (congrArg some (by kernel_rfl))
 f213:=Tryd.func54.trans (congrArg some (by kernel_rfl))
 f265:=Tryd.func77.trans (congrArg some (by kernel_rfl))
 t3:=Tryd.underlying3
 a3:=Tryd.isAgg3
 z3:=Tryd.sizeOf3
 v3:=Tryd.zeroValue3
 t9:=Tryd.underlying9
 a9:=Tryd.isAgg9
 z9:=Tryd.sizeOf9
 v9:=Tryd.zeroValue9 }
open Go.RowKit in
theorem Tryd.strings_Compare (a b:ByteArray) (w:World) :
  Calls Tryd.prog 28 #[.string a,.string b] w fun e w'=>e=.returned (.int .i64 (Lib.compareBytes a.data.toList b.data.toList))∧w'=w:=Any.strings_Compare zn9 a b w
def zku:Go.Shelf.Ren:=⟨fun | 143=>83 | 219=>95 | 217=>99 | 225=>100 | 224=>101 | 267=>102 | 266=>105 | 314=>106 | n=>n,fun | 9=>9 | 3=>3 | 4=>4 | 5=>5 | 46=>90 | 146=>146 | 51=>145 | n=>n,fun | 1=>0 | n=>n⟩
theorem zn8:Go.Proofs.Lays.n143 Tryd.prog zku:={
 mixed:=by kernel_rfl
 f143:=Tryd.func83.trans (congrArg some (by kernel_rfl))
 f217:=Tryd.func99.trans (congrArg some (by kernel_rfl))
 f219:=Tryd.func95.trans (congrArg some (by kernel_rfl))
 f224:=Tryd.func101.trans (congrArg some (by kernel_rfl))
 f225:=Tryd.func100.trans (congrArg some (by kernel_rfl))
 f266:=Tryd.func105.trans (congrArg some (by kernel_rfl))
 f267:=Tryd.func102.trans (congrArg some (by kernel_rfl))
 f314:=Tryd.func106.trans (congrArg some (by kernel_rfl))
 t3:=Tryd.underlying3
 a3:=Tryd.isAgg3
 z3:=Tryd.sizeOf3
 v3:=Tryd.zeroValue3
 t4:=Tryd.underlying4
 a4:=Tryd.isAgg4
 z4:=Tryd.sizeOf4
 v4:=Tryd.zeroValue4
 t5:=Tryd.underlying5
 a5:=Tryd.isAgg5
 z5:=Tryd.sizeOf5
 v5:=Tryd.zeroValue5
 t9:=Tryd.underlying9
 a9:=Tryd.isAgg9
 z9:=Tryd.sizeOf9
 v9:=Tryd.zeroValue9
 t46:=Tryd.underlying90
 a46:=Tryd.isAgg90
 z46:=Tryd.sizeOf90
 v46:=Tryd.zeroValue90
 t51:=Tryd.underlying145
 a51:=Tryd.isAgg145
 z51:=Tryd.sizeOf145
 v51:=Tryd.zeroValue145
 t146:=Tryd.underlying146
 a146:=Tryd.isAgg146
 z146:=Tryd.sizeOf146
 v146:=Tryd.zeroValue146
 g1:=by kernel_rfl }
open Go.RowKit Go.Lib in
theorem Tryd.strings_Index_one (s:ByteArray) (c:UInt8) (w:World) :
  Calls Tryd.prog 83 #[.string s,.string ⟨#[c]⟩] w fun e w'=>e=.returned (.int .i64 (Lib.indexByte s.data.toList c))∧w'=w:=Any.strings_Index_one zn8 s c w
end Go.Proofs

namespace Go.Proofs.YtifpjbgnikjglaaDoor
open Go.RowKit Go.Lib
open Tryd
set_option linter.unusedVariables false
set_option linter.unusedSimpArgs false
section
open Go.Shelf
theorem zmj {P:Program} {f:FuncId} {vs:List Value} {v:Value} (h:∀ w,Calls P f vs.toArray w fun e w'=>e=.returned v∧w'=w):FnP P f vs v:=fun w=>(h w).mono fun e w' ⟨h1,h2⟩=>⟨h1,h2 ▸ Below.refl _ _⟩
theorem zvp (s:zBA) {sep:zBA} (h:sep=⟨#[10]⟩):FnP prog 83 [.string s,.string sep] (.int .i64 (Lib.indexByte s.data.toList 10)):=by
 subst h
 exact zmj fun w=>Tryd.strings_Index_one s 10 w
theorem zrB (a b:zBA):FnP prog 28 [.string a,.string b] (.int .i64 (Lib.compareBytes a.data.toList b.data.toList)):=zmj fun w=>Tryd.strings_Compare a b w
end
def zoO (w0:World) (K:Nat→Prop):Asn :=
  ⟨fun C w=>(∀ k,C k↔K k)∧(∀ k,K k→k<w0.heap.size)∧w0.heap.size≤w.heap.size∧∀ k,K k→w.heap[k]?=w0.heap[k]?,
   fun h k hk=>Nat.lt_of_lt_of_le (h.2.1 k ((h.1 k).1 hk)) h.2.2.1,
   fun h hs hk=>⟨h.1,h.2.1,Nat.le_trans h.2.2.1 hs,fun k hK=>(hk k ((h.1 k).2 hK)).trans (h.2.2.2 k hK)⟩⟩
def FnD (P:Program) (f:FuncId) (vs:List Value) (RD:List Asn) {β:Type} (V:β→Value) (RB:β→List Asn):Prop :=
 ∀ w C,(∀ k,C k→k<w.heap.size)→Rd w C RD→Calls P f vs.toArray w fun e w'=>∃ x:β,e=.returned (V x)∧Below w.heap.size w w'∧Rd w' C (RB x)
def FD (P:Program) {β:Type} (V:β→Value) (RB:β→List Asn) (w0:World) (K:Nat→Prop) (e:Ending) (w:World):Prop:=∃ x:β,e=.returned (V x)∧Below w0.heap.size w0 w∧Rd w K (RB x)
section
variable {F:Fence} {P:Program} {w0:World} {K:Nat→Prop} {N:Nat} {dfs:List Deferred} {ops:Array Oper} {Q:Exit→Act→World→Prop} {rest:List Oper} {σ σ':List (Nat×Value)} {L L' R As Bs:List Asn} {o:Oper} {v:Value}
 {d:Nat} {t:TypeId} {op:Op} {ty:TypeId} {pos:String} {aft:Array Edge} {g:Option (Nat×Bool)} {x y z:Operand} {c c1 c2:Code} {k:Nat} {A B:Asn} {RD RD0:List Asn} {e:TypeId} {ex:Exit}
theorem FnD.intro {f:FuncId} {fn:Func} {vs:List Value} {β:Type} {V:β→Value} {RB:β→List Asn} (hf:P.funcs[f]?=some fn) (hb:fn.body=some c) (hn:fn.ntmps=N) (hN:vs.length≤N)
  (h:∀ w0 K,Rd w0 K RD→TC Fence.wide P w0 K N [] (bodyPostM Fence.wide 0 P fn (FD P V RB w0 K)) c (zfT vs) [zoO w0 K]):FnD P f vs RD V RB:=by
 subst hn
 intro w C hC hR
 exact (zeK hf hb (h w C hR _ w (zh5 vs hN) ⟨C,sepL.one ⟨fun k=>Iff.rfl,hC,Nat.le_refl _,fun k _=>rfl⟩,Ext.refl _ _⟩)).mono fun e w' h=>h
theorem zsS {fn:Func} {rs:List ResultVar} {vs:List Value} {β:Type} {V:β→Value} {RB:β→List Asn} {e:Exit} (b:β) (hRd:Rd w0 K RD) (he:e=.ret∨e=.normal) (hrs:fn.results=rs.toArray) (hres:ResOks P σ L rs vs) (hv:zj9 vs=V b)
  (hs:Splits L (zoO w0 K::As) R) (hB:∀ C w,sepL As C w→(∀ k,C k→¬ K k)→Rd w K RD→Rd w K (RB b)):TX w0 K N [] (bodyPostM F 0 P fn (FD P V RB w0 K)) e σ L:=by
 intro a w ha hw
 have h1:=zf6 hrs hres ha hw
 have h2:LeavesInM F 0 P fn a.tmps (FD P V RB w0 K) a.defers .returning w:=by
  rw [ha.2.1]
  refine ⟨zj9 vs,h1,b,by rw [hv],?_⟩
  obtain ⟨C,hL,hx⟩:=hw
  obtain ⟨C1,C2,⟨D1,D2,g1,g2,g3,g4⟩,_,h3,h4⟩:=hs C w hL
  have hKC:∀ k,K k→C k:=fun k hk=>(h4 k).2 (.inl ((g4 k).2 (.inl ((g1.1 k).2 hk))))
  refine ⟨⟨hx.1.os,hx.1.tape,hx.1.output,hx.1.size,fun k hk => ?_⟩,hB D2 w g2 (fun k a b=>g3 k ((g1.1 k).2 b) a) fun A hA => ?_⟩
  ·by_cases hK:K k
   ·exact g1.2.2.2 k hK
   ·exact hx.1.keep k hk hK
  ·obtain ⟨D,d1,d2⟩:=hRd.ext hx A hA
   exact ⟨D,d1,fun k hk hK=>d2 k hk (hKC k hK)⟩
 rcases he with rfl | rfl <;> exact h2
theorem zsQ {w1:World} {K1:Nat→Prop} (hx:Ext K K1 w0 w1) (h:TX w0 K N dfs Q ex σ L):TX w1 K1 N dfs Q ex σ L:=fun a w ha ⟨C,hC,h1⟩=>h a w ha ⟨C,hC,hx.trans h1⟩
theorem zt9 [WideF F] {xs:List Operand} {ats:Array TypeId} {f:FuncId} {first cap:Array Value} {vs vs':List Value} {β:Type} {V:β→Value} {RB:β→List Asn} (hRd:Rd w0 K RD0)
  (hg:gd ops σ g=some true) (hd:d<N) (hx:ev σ x=some (.func (.func f) first cap)) (hxs:evL σ xs=some vs) (hv:first.toList++vs++cap.toList=vs')
  (hent:∀ args w,(callFunc f args).run P w=.ok (.enter f args) w) (hF:FnD P f vs' RD V RB) (hS:RdS [] RD0 RD)
  (h:∀ b w1 K1,Ext K K1 w0 w1→Rd w1 K1 (RD0++RB b)→TO F P w1 K1 N dfs ops Q rest ((d,V b)::σ) L) :
  TO F P w0 K N dfs ops Q (⟨some d,.call { callee:=.value x,args:=xs.toArray,argTypes:=ats },ty,pos,aft,g⟩::rest) σ L:=by
 intro a w ha hw
 simp only [wpListIn,zgc (o:=⟨some d,.call { callee:=.value x,args:=xs.toArray,argTypes:=ats },ty,pos,aft,g⟩) ha hg,if_true]
 refine ⟨fun f _=>WideF.fn f,?_⟩
 have h1:(execOp a.eval ⟨some d,.call { callee:=.value x,args:=xs.toArray,argTypes:=ats },ty,pos,aft,g⟩).run P w=.ok (.enter f vs'.toArray) w:=by
  have e:first++vs.toArray++cap=vs'.toArray:=by rw [← hv]; simp
  simp only [execOp,resolve,List.map_toArray,ha.evL hxs,ha.ev hx,Deferred.ofValue,Sem.run_bind,Sem.run_pure,Result.andThen_ok,invoke,e,hent]
 rw [Oper.semAt_plain F _ _ (by simp),h1]
 refine ⟨(fun h=>by rw [WideF.depth (F:=F)] at h; cases h),?_⟩
 obtain ⟨C,hL,hx0⟩:=hw
 have hRd1:Rd w C RD0:=hRd.ext hx0
 have hRd2:Rd w C RD:=hS.rd (w0:=w0) (K:=K) (C2:=fun _=>False) (fun _ h=>h) (fun _ _ h=>h) hRd1
 refine WideF.calls ((hF w C hL.lt hRd2).mono ?_)
 rintro e w' ⟨b,rfl,hb,hB⟩
 have hxb:Ext C C w w':=zlv hb
 exact h b w' C (hx0.trans hxb) ((hRd1.ext hxb).append hB) _ _ (ha.put hd _) ⟨C,hL.loc hxb.1.size (fun k hk=>hb.block k (hL.lt k hk)),Ext.refl _ _⟩
theorem zsW (hs:Splits L As R) (hE:∀ C w,sepL As C w→B.P C w) (hRd:Rd w0 K RD0) (h:∀ w1 K1,Ext K K1 w0 w1→Rd w1 K1 (RD0++[B])→TO F P w1 K1 N dfs ops Q rest σ R):TO F P w0 K N dfs ops Q rest σ L:=by
 intro a w ha hw
 obtain ⟨C,hL,hx⟩:=hw
 obtain ⟨C1,C2,g1,g2,g3,g4⟩:=hs C w hL
 have hx2:Ext K C2 w0 w:=hx.sub fun k hk=>(g4 k).2 (.inr hk)
 refine h w C2 hx2 ((hRd.ext hx2).append fun X hX => ?_) a w ha ⟨C2,g2,Ext.refl _ _⟩
 rw [List.mem_singleton] at hX
 subst hX
 exact ⟨C1,hE C1 w g1,g3⟩
theorem Rd.up0 {α:Type} {enc:α→List Value} {size m:Nat} {vv:Value} {xs:List α} {i:Nat} (hr:Rd w0 K RD) (hi:RD[i]?=some (ze5 enc size vv 0 xs)):Rd w0 K (RD++[ze5 enc size vv m xs]):=by
 have:=hr.up (m:=m) hi
 rwa [Nat.zero_add] at this
theorem Vw.head {α:Type} {L xs:List α} {size k:Nat} {vv v:Value} (h:Vw vv L size k v xs):∃ hd:Hd,v=hd.v:=by
 obtain ⟨_,_,q,c,rfl,_⟩:=h
 exact ⟨⟨q,xs.length,c⟩,rfl⟩
theorem zuh {α:Type} {enc:α→List Value} {size k:Nat} {e:TypeId} {vv:Value} {L xs:List α} {hd:Hd} (hz:∀ x,(enc x).length=size) (hV:Vw vv L size k hd.v xs):Ent (vec enc e size vv L) (zmC enc size hd xs):=fun C w h=>zts hV (zqn hz h)
def rdX (kd:Nat) (hd:Hd) (xs:List zBA):Asn:=if kd=2 then emp else zmC zgU 1 hd xs
def Rov (kd:Nat) (hd:Hd) (xs:List zBA) (L:FsL):Prop:=(kd=0→hd=Hd.nil∧xs=[])∧(kd=2→(xs,hd)∈L.map Prod.snd)
theorem Rov.own {hd:Hd} {xs:List zBA} {L:FsL}:Rov 1 hd xs L:=⟨fun h=>(nomatch h),fun h=>(nomatch h)⟩
theorem Rov.nil {L:FsL}:Rov 0 Hd.nil [] L:=⟨fun _=>⟨rfl,rfl⟩,fun h=>(nomatch h)⟩
theorem Rov.map {hd:Hd} {xs:List zBA} {L:FsL} (h:(xs,hd)∈L.map Prod.snd):Rov 2 hd xs L:=⟨fun h=>(nomatch h),fun _=>h⟩
theorem zq9 {e:TypeId} {hd:Hd} {xs:List zBA}:Ent (vec zgU e 1 hd.v xs) (rdX 1 hd xs):=fun C w h=>(show (zmC zgU 1 hd xs).P C w from zmB zcq h)
theorem zrb {hd:Hd} {xs:List zBA}:Ent emp (rdX 2 hd xs):=fun C w h=>h
theorem zra (e:TypeId):Ent (vec zgU e 1 (.slice none 0 0) []) (rdX 0 Hd.nil []):=fun C w h=>(show (zmC zgU 1 Hd.nil []).P C w from zmB (hd:=Hd.nil) zcq h)
theorem zu8 {kd:Nat} {hd:Hd} {xs:List zBA} {M:FsL} {i:Nat} (hx:Rov kd hd xs M) (hi:RD[i]?=some (fsO M)):∀ C w,sepL [rdX kd hd xs] C w→(∀ k,C k→¬ K k)→Rd w K RD→Rd w K [zmC zgU 1 hd xs]:=fun C w h hK hR=>by
 by_cases hk:kd=2
 ·obtain ⟨D,hD,hn⟩:=hR _ (List.mem_of_getElem? hi)
  intro B hB
  rw [List.mem_singleton] at hB
  subst hB
  obtain ⟨E,e1,e2⟩:=hD.2 _ (hx.2 hk) _ (List.mem_singleton.2 rfl)
  exact ⟨E,e1,fun k a=>hn k (e2 k a)⟩
 ·have h1:=sepL.one1.1 h
  unfold rdX at h1
  rw [if_neg hk] at h1
  intro B hB
  rw [List.mem_singleton] at hB
  subst hB
  exact ⟨C,h1,hK⟩
theorem zuT {e:TypeId} {hd:Hd} {xs:List zBA}:∀ C w,sepL [vec zgU e 1 hd.v xs] C w→(∀ k,C k→¬ K k)→Rd w K RD→Rd w K [zmC zgU 1 hd xs]:=fun C w h hK hR=>by
 intro B hB
 rw [List.mem_singleton] at hB
 subst hB
 exact ⟨C,zmB zcq (sepL.one1.1 h),hK⟩
theorem zsV [WideF F] {kk:zBA} {M:FsL} {M':List (zBA×List zBA)} {i b:Nat} {mt kt et:TypeId} (hM:fsP M=M') (hs:P.underlying kt=some .string) (ht:P.underlying mt=some (.map kt et)) (hz0:(P.info? et).bind (fun i=>i.zero)=some (.slice none 0 0)) (hg:gd ops σ g=some true) (hd:d<N) (hx:ev σ x=some (.map (some b))) (hy:ev σ y=some (.string kk))
  (hr:Rd w0 K RD) (hi:RD[i]?=some (fsM b M))
  (h:∀ hd:Hd,(∀ xs,zbK kk M'=some xs→(xs,hd)∈M.map Prod.snd)→TO F P w0 K N dfs ops Q rest ((d,.tuple #[hd.v,.bool (zbK kk M').isSome])::σ) L) :
  TO F P w0 K N dfs ops Q (⟨some d,.lookup mt x y true,ty,pos,aft,g⟩::rest) σ L:=by
 subst hM
 have hb:((zbK kk M).getD ([],Hd.nil)).2.v=fsV ((zbK kk M).getD ([],Hd.nil)):=rfl
 refine zfU (k:=i) (M:=M) (z0:=([],Hd.nil)) (ev':=fsV) (zcV hs) ht hz0 hg hd hx hy hr hi ?_
 have h1:=h ((zbK kk M).getD ([],Hd.nil)).2 (fun xs hxs=>by
  rw [zlb] at hxs
  cases hg':zbK kk M with
  | none=>rw [hg'] at hxs; cases hxs
  | some q =>
   rw [hg'] at hxs
   have:q.1=xs:=Option.some.inj hxs
   subst this
   exact zmP kk q M hg')
 rw [zlb,hb] at h1
 cases hq:zbK kk M with
 | none=>rw [hq] at h1; exact h1
 | some q=>rw [hq] at h1; exact h1
end

section
open Go.Shelf
attribute [local go_sem] Oper.semAt_some
theorem zxz:(prog.info? 5).map (fun i=>(i.zero,i.size,i.bytes))=some (some (.int .u8 0),1,1):=by kernel_rfl
theorem zxB:∃ j,prog.info? 74=some j∧j.size≠0:=by
 have h:(prog.info? 74).map (fun j=>decide (j.size≠0))=some true:=by kernel_rfl
 cases hj:prog.info? 74 with
 | none=>rw [hj] at h; simp at h
 | some j=>rw [hj] at h; exact ⟨j,rfl,by simpa using h⟩
theorem zsD (b:Nat) (v:Value) (w:World) (h:w.heap[b]?=some (.cells #[.pointer none,v] 74 (0,0))) :
  Calls prog 57 #[.pointer (some ⟨b,0,none⟩)] w fun e w'=>e=.returned (.tuple #[])∧w'=w.setCell ⟨b,0,none⟩ (.pointer (some ⟨b,0,none⟩)):=by
 have c0:w.cell? ⟨b,0,none⟩=some (.pointer none):=ze7 h rfl
 have f0:=znN h 0
 have hsh:w.shape? b=some (74,2):=by simp [World.shape?,h]
 obtain ⟨j,hj,hjs⟩:=zxB
 clear h
 go_enter func57,ntmps57
 go_wp2
 rw [Lib.run_to_unsafe w ⟨b,0,none⟩ (t:=74) kr kr hj hjs hsh (Nat.zero_lt_succ 1)]
 simp only [Result.andThen]
 rw [Oper.upon_value]
 go_wp2
 rw [run_callFunc_extern func79 kr kr kr (e:=Extern.AbiNoEscape.same) kr]
 rw [Lib.run_noEscape]
 simp only [Result.andThen]
 rw [Oper.upon_value]
 go_wp2
 rw [Lib.run_from_unsafe w ⟨b,0,none⟩ (u:=74) kr kr hj hsh kr]
 simp only [Result.andThen]
 rw [Oper.upon_value]
 go_wp2
 go_end0
 exact ⟨rfl,rfl⟩
theorem zq1 (b:Nat) (v:Value) (w:World) (h:w.heap[b]?=some (.cells #[.pointer (some ⟨b,0,none⟩),v] 74 (0,0))) :
  Calls prog 57 #[.pointer (some ⟨b,0,none⟩)] w fun e w'=>e=.returned (.tuple #[])∧w'=w:=by
 have c0:w.cell? ⟨b,0,none⟩=some (.pointer (some ⟨b,0,none⟩)):=ze7 h rfl
 obtain ⟨j,hj,hjs⟩:=zxB
 clear h
 go_enter func57,ntmps57
 go_wp2
 rw [Lib.run_neq_ptr_same w _ (te:=74) kr hj]
 go_wp2
 go_end0
 exact ⟨rfl,rfl⟩
def Bld (b:Nat) (bs:zBA) (C:Nat→Prop) (w:World):Prop :=
 ∃ p v D,w.heap[b]?=some (.cells #[p,v] 74 (0,0))∧(p=.pointer none∨p=.pointer (some ⟨b,0,none⟩))∧Byt 5 v bs D w∧¬ D b∧C=(fun k=>k=b∨D k)
theorem Bld.local {b:Nat} {bs:zBA} {C:Nat→Prop} {w w':World} (h:Bld b bs C w) (hk:∀ k,C k→w'.heap[k]?=w.heap[k]?):Bld b bs C w':=by
 obtain ⟨p,v,D,h1,h2,h3,h4,rfl⟩:=h
 exact ⟨p,v,D,(hk b (.inl rfl)).trans h1,h2,h3.local (fun k h=>hk k (.inr h)),h4,rfl⟩
theorem Bld.lt {b:Nat} {bs:zBA} {C:Nat→Prop} {w:World} (h:Bld b bs C w):∀ k,C k→k<w.heap.size:=by
 obtain ⟨p,v,D,h1,h2,h3,h4,rfl⟩:=h
 rintro k (rfl | hk)
 ·exact zbC h1
 ·exact h3.lt k hk
theorem zkM (b:Nat) (bs s:zBA) (C:Nat→Prop) (w:World) (h:Bld b bs C w) (hn:bs.size+s.size≤140737488355328) :
  Calls prog 33 #[.pointer (some ⟨b,0,none⟩),.string s] w fun e w'=>(∃ u,e=.returned u)∧∃ C',Bld b (bs++s) C' w'∧Ext C C' w w':=by
 obtain ⟨p,v,D,hbk,hp,hbr,hne,rfl⟩:=h
 obtain ⟨ip,hpi,hpz,hps,hpb⟩:=info_parts zxz
 obtain ⟨w1,hck,hb1,hbr1,hx1⟩:∃ w1,(Calls prog 57 #[.pointer (some ⟨b,0,none⟩)] w fun e w'=>e=.returned (.tuple #[])∧w'=w1) ∧
   w1.heap[b]?=some (.cells #[.pointer (some ⟨b,0,none⟩),v] 74 (0,0))∧Byt 5 v bs D w1∧Ext (fun k=>k=b∨D k) (fun k=>k=b∨D k) w w1:=by
  rcases hp with rfl | rfl
  ·have hx:Ext (fun k=>k=b) (fun k=>k=b) w (w.setCell ⟨b,0,none⟩ (.pointer (some ⟨b,0,none⟩))):=Ext.setCell (C':=fun k=>k=b) (Ext.refl _ _) (p:=⟨b,0,none⟩) rfl _
   refine ⟨_,zsD b v w hbk,?_,hbr.ext hx (by rintro k hk rfl; exact hne hk),Ext.setCell (C':=fun k=>k=b∨D k) (Ext.refl _ _) (p:=⟨b,0,none⟩) (.inl rfl) _⟩
   simp [World.setCell,Array.getElem?_modify,hbk]
  ·exact ⟨w,zq1 b v w hbk,hbk,hbr,Ext.refl _ _⟩
 have c1:w1.cell? ⟨b,1,none⟩=some v:=ze7 hb1 rfl
 have hlt:b<w1.heap.size:=zbC hb1
 have Hbk:=Lib.hid hbk; have Hbr:=Lib.hid hbr; have Hx1:=Lib.hid hx1
 clear hbk hbr hx1
 go_enter func33,ntmps33
 go_wp2_with (first | (go_at_call 57; refine hck.mono ?_; rintro e w' ⟨rfl,rfl⟩) | (refine zjE _ rfl _ _ _ _ rfl 5 _ kr kr hpi hpz hps hpb _ _ _ rfl hbr1 _ rfl hn ?_))
 rintro v' w2 D' hr2 hx2
 have hb2:w2.heap[b]?=some (.cells #[.pointer (some ⟨b,0,none⟩),v] 74 (0,0)):=(hx2.1.keep b hlt hne).trans hb1
 have f1:=znN hb2 1
 have d1:w2.cell? ⟨b,1,none⟩=some v:=ze7 hb2 rfl
 have hne':¬ D' b:=hx2.not hlt hne
 obtain ⟨ao,n',cap',rfl⟩:∃ ao n' cap',v'=.slice ao n' cap':=by
  rcases hr2.shape with ⟨rfl,_⟩ | ⟨g,cap,cur,rfl,_⟩ <;> exact ⟨_,_,_,rfl⟩
 have Hr2:=Lib.hid hr2; have Hx2:=Lib.hid hx2; have Hb2:=Lib.hid hb2
 clear hr2 hx2 hb2
 go_wp2
 go_ret2
 have hx3:Ext (fun k=>k=b∨D' k) (fun k=>k=b∨D' k) w2 (w2.setCell ⟨b,1,none⟩ (.slice ao n' cap')):=Ext.setCell (C':=fun k=>k=b∨D' k) (Ext.refl _ _) (p:=⟨b,1,none⟩) (.inl rfl) _
 have hx3':Ext (fun k=>k=b) (fun k=>k=b) w2 (w2.setCell ⟨b,1,none⟩ (.slice ao n' cap')):=Ext.setCell (C':=fun k=>k=b) (Ext.refl _ _) (p:=⟨b,1,none⟩) rfl _
 refine ⟨⟨_,rfl⟩,fun k=>k=b∨D' k,⟨_,_,D',?_,.inr rfl,Hr2.out.ext hx3' (by rintro k hk rfl; exact hne' hk),hne',rfl⟩,?_⟩
 ·simp [World.setCell,Array.getElem?_modify,Hb2.out]
 ·refine (Hx1.out.trans ?_).trans hx3
  exact ⟨Hx2.out.1.weaken (fun k _ h=>.inr h),fun k hk=>by
   rcases hk with rfl | hk
   ·exact .inl (.inl rfl)
   ·exact (Hx2.out.2 k hk).imp .inr id⟩
theorem zqO {C C':Nat→Prop} {a w:World} (h:Ext C C' a w) {g:Nat} (hg:C' g) (m:Nat):Ext C C' a (w.freeze ⟨g,0,none⟩ m):=by
 unfold World.freeze
 split
 ·exact h
 ·have hs:∀ f:Obj→Obj,({ w with heap:=w.heap.modify g f }:World).heap.size=w.heap.size:=fun f=>by simp
  refine ⟨⟨h.1.os,h.1.tape,h.1.output,by simpa using h.1.size,fun k hk hn => ?_⟩,fun k hk=>by simpa using h.2 k hk⟩
  rw [Array.getElem?_modify]
  rw [if_neg]
  ·exact h.1.keep k hk hn
  ·intro e
   have e':g=k:=e
   subst e'
   rcases h.2 _ hg with h' | h'
   ·exact hn h'
   ·omega
theorem zo8 (b:Nat) (bs:zBA) (C:Nat→Prop) (w:World) (h:Bld b bs C w) :
  Calls prog 34 #[.pointer (some ⟨b,0,none⟩)] w fun e w'=>e=.returned (.string bs)∧Ext C C w w':=by
 obtain ⟨p,v,D,hbk,hp,hbr,hne,rfl⟩:=h
 rcases hbr.shape with ⟨rfl,rfl,rfl⟩ | ⟨g,cap,cur,rfl,hgl,hbc,hcm,rfl,hg⟩
 ·have c1:w.drew.cell? ⟨b,1,none⟩=some (.slice none 0 0):=ze7 (w:=w.drew) hbk rfl
  have hSD:(Builtin.unsafeSliceData_ #[43] 111 #[.slice none 0 0]).run prog w.drew=.ok (.pointer none) w.drew:=rfl
  have hUS:∀ W q,(Builtin.unsafeString_ #[111,3] 9 #[.pointer q,.int .i64 0]).run prog W=.ok (.string .empty) W:=fun W q=>Lib.run_unsafeString_none W _ _ _ q
  clear hbk hbr
  go_enter func34,ntmps34
  go_wp2
  go_region
  all_goals (go_wp2; go_ret; exact ⟨rfl,(Ext.refl _ _).drew⟩)
 ·by_cases h0:bs.size=0
  ·have hbs:bs=⟨#[]⟩:=by apply ByteArray.ext; exact Array.eq_empty_of_size_eq_zero h0
   subst hbs
   have h00:(⟨#[]⟩:zBA).size=0:=rfl
   rw [h00] at hbk hbr
   have hUS:∀ W q,(Builtin.unsafeString_ #[111,3] 9 #[.pointer q,.int .i64 0]).run prog W=.ok (.string .empty) W:=fun W q=>Lib.run_unsafeString_none W _ _ _ q
   have c1:w.drew.cell? ⟨b,1,none⟩=some (.slice (some ⟨g,0,none⟩) 0 cap):=ze7 (w:=w.drew) hbk rfl
   by_cases hc0:cap=0
   ·subst hc0
    have hSD:(Builtin.unsafeSliceData_ #[43] 111 #[.slice (some ⟨g,0,none⟩) 0 0]).run prog w.drew=.ok (.pointer (some ⟨w.drew.heap.size,0,none⟩)) (w.drew.alloc (.view ⟨g,0,none⟩ 5)) :=
     Lib.run_unsafeSliceData_zero w.drew _ _ 5 kr ⟨g,0,none⟩ 0 (5,cur.size) (by have hg':w.drew.heap[g]?=some (.cells cur 5 (0,0)):=hg; simp [World.shape?,hg'])
    have hlt:=zbC hbk
    have c2:(w.drew.alloc (.view ⟨g,0,none⟩ 5)).cell? ⟨b,1,none⟩=some (.slice (some ⟨g,0,none⟩) 0 0):=ze7 (w:=w.drew.alloc _) ((Below.heap_alloc w.drew _ b hlt).trans hbk) rfl
    have c3:(w.alloc (.view ⟨g,0,none⟩ 5)).drew.cell? ⟨b,1,none⟩=some (.slice (some ⟨g,0,none⟩) 0 0):=c2
    have c0:w.cell? ⟨b,1,none⟩=some (.slice (some ⟨g,0,none⟩) 0 0):=c1
    clear hbk hbr hg
    go_enter func34,ntmps34
    go_wp2
    go_region
    all_goals (go_wp2; go_ret; exact ⟨rfl,(Ext.refl _ _).drew.alloc _⟩)
   ·have hSD:(Builtin.unsafeSliceData_ #[43] 111 #[.slice (some ⟨g,0,none⟩) 0 cap]).run prog w.drew=.ok (.pointer (some ⟨g,0,none⟩)) w.drew:=Lib.run_unsafeSliceData_row _ _ _ _ _ _ hc0
    clear hbk hbr hg hc0
    go_enter func34,ntmps34
    go_wp2
    go_region
    all_goals (go_wp2; go_ret; exact ⟨rfl,(Ext.refl _ _).drew⟩)
  ·obtain ⟨l,hl⟩:∃ l,l=bs.data.toList:=⟨_,rfl⟩
   have hll:l.length=bs.size:=by rw [hl,Array.length_toList]; rfl
   have hbs:bs=⟨l.toArray⟩:=by rw [hl]
   have hl0:l≠[]:=by intro e; rw [e] at hll; exact h0 hll.symm
   rw [← hll] at hbk hbc hbr
   have c1:w.drew.cell? ⟨b,1,none⟩=some (.slice (some ⟨g,0,none⟩) l.length cap):=ze7 (w:=w.drew) hbk rfl
   have hSD:(Builtin.unsafeSliceData_ #[43] 111 #[.slice (some ⟨g,0,none⟩) l.length cap]).run prog w.drew=.ok (.pointer (some ⟨g,0,none⟩)) w.drew :=
    Lib.run_unsafeSliceData_row _ _ _ _ _ _ (by omega)
   have hcs:cur.size=cap*1:=by
    rcases hbr.1.2 with ⟨h1,_⟩ | ⟨g',cap',cur',h1,_,h3,_,_,h6,_⟩
    ·cases h1
    ·have e1:g=g':=by injection h1 with q1 q2 q3; injection q1 with q1; injection q1
     have e2:cap=cap':=by injection h1
     subst e1; subst e2
     rw [hg] at h3; injection h3 with h3; injection h3 with h3
     rw [h3]; exact h6
   have hUS:(Builtin.unsafeString_ #[111,3] 9 #[.pointer (some ⟨g,0,none⟩),.int .i64 l.length]).run prog w.drew=.ok (.string ⟨l.toArray⟩) (w.drew.freeze ⟨g,0,none⟩ l.length):=by
    refine Lib.run_unsafeString_row w.drew 111 3 9 5 kr kr g cur.size (by have hg':w.drew.heap[g]?=some (.cells cur 5 (0,0)):=hg; simp [World.shape?,hg']) l hl0 (by omega) (by unfold maxLen at hcm; omega) ?_
    intro j x hx
    refine World.ownsRow.cells hbr.1 (g:=g) rfl j (.int .u8 x.toNat) ?_
    unfold strCells
    rw [List.getElem?_map,← hl,hx]; rfl
   rw [hbs]
   have hx:Ext (fun k=>k=b∨k=g) (fun k=>k=b∨k=g) w (w.drew.freeze ⟨g,0,none⟩ l.length):=zqO ((Ext.refl _ _).drew) (.inr rfl) _
   have Hx:=Lib.hid hx
   clear hbk hbr hg hx hbs hll hcs
   clear hl
   go_enter func34,ntmps34
   go_wp2
   go_region
   all_goals (go_wp2; go_ret; exact ⟨rfl,Hx.out⟩)
end
section
open Go.Shelf
attribute [local go_sem] Oper.semAt_some
def zsH (b:Nat) (bs:zBA):Asn:=⟨fun C w=>Bld b bs C w,fun h=>h.lt,fun h _ hk=>h.local hk⟩
theorem zon (b:Nat) (bs s:zBA) (hn:bs.size+s.size≤140737488355328):Fn prog 33 [.pointer (some ⟨b,0,none⟩),.string s] [zsH b bs] (fun u:Value=>u) (fun _=>[zsH b (bs++s)]):=by
 intro w C hA
 refine (zkM b bs s C w (sepL.one1.1 hA) hn).mono ?_
 rintro e w' ⟨⟨u,rfl⟩,C',h1,h2⟩
 exact ⟨u,rfl,C',sepL.one1.2 h1,h2⟩
theorem zsG (b:Nat) (bs:zBA):Fn prog 34 [.pointer (some ⟨b,0,none⟩)] [zsH b bs] (fun _:Unit=>.string bs) (fun _=>[]):=by
 intro w C hA
 refine (zo8 b bs C w (sepL.one1.1 hA)).mono ?_
 rintro e w' ⟨rfl,h2⟩
 exact ⟨(),rfl,fun _=>False,fun _ h=>h,h2.1,fun k hk=>hk.elim⟩
theorem zmk {b:Nat}:Ent (cells b [.pointer none,.slice none 0 0] 74) (zsH b ⟨#[]⟩):=by
 intro C w h
 have hC:C=fun k=>k=b:=funext fun k=>propext (h.1 k)
 subst hC
 exact ⟨_,_,_,h.2,.inl rfl,Byt.nil,by simp,by funext k; simp⟩
end
end Go.Proofs.YtifpjbgnikjglaaDoor

namespace Go.Proofs
open Go.Shelf
def Tryd.laysNm222_ren:Go.Shelf.Ren:=⟨fun | 22=>67 | 29=>87 | 30=>88 | 36=>96 | 17=>103 | n=>n,fun | 24=>38 | 9=>9 | 3=>3 | 4=>4 | 0=>0 | n=>n,fun | n=>n⟩
theorem ze1:Go.Proofs.Lays2.n22 Tryd.prog Tryd.laysNm222_ren:={
 mixed:=by kernel_rfl
 f17:=Tryd.func103.trans (congrArg some (by kernel_rfl))
 f22:=Tryd.func67.trans (congrArg some (by kernel_rfl))
 f29:=Tryd.func87.trans (congrArg some (by kernel_rfl))
 f30:=Tryd.func88.trans (congrArg some (by kernel_rfl))
 f36:=Tryd.func96.trans (congrArg some (by kernel_rfl))
 t0:=Tryd.underlying0
 a0:=Tryd.isAgg0
 z0:=Tryd.sizeOf0
 v0:=Tryd.zeroValue0
 t3:=Tryd.underlying3
 a3:=Tryd.isAgg3
 z3:=Tryd.sizeOf3
 v3:=Tryd.zeroValue3
 t4:=Tryd.underlying4
 a4:=Tryd.isAgg4
 z4:=Tryd.sizeOf4
 v4:=Tryd.zeroValue4
 t9:=Tryd.underlying9
 a9:=Tryd.isAgg9
 z9:=Tryd.sizeOf9
 v9:=Tryd.zeroValue9
 t24:=Tryd.underlying38
 a24:=Tryd.isAgg38
 z24:=Tryd.sizeOf38
 v24:=Tryd.zeroValue38
 i9:=by kernel_rfl }
end Go.Proofs

namespace Go.Proofs.YtifpjbgnikjglaaDoor
open Go.RowKit Go.Lib
open Tryd
set_option linter.unusedVariables false
set_option linter.unusedSimpArgs false
section
open Go.Shelf
def zia (xs:List zBA) (i:Int) (x:zBA):List zBA:=xs.take i.toNat++x::xs.drop i.toNat
theorem zfX:∀ (vs l:List Value) (j:Nat),j+vs.length≤l.length→zf5 l j vs=l.take j++vs++l.drop (j+vs.length)
 | [],l,j,h=>by simp [zf5]
 | v::vs,l,j,h=>by
  have h:j+(vs.length+1)≤l.length:=h
  have ih:=zfX vs (l.set j v) (j+1) (by rw [List.length_set]; omega)
  show zf5 (l.set j v) (j+1) vs=_
  have h1:(l.set j v).take (j+1)=l.take j++[v]:=by
   rw [List.take_add_one,List.take_set_of_le (Nat.le_refl _)]
   have:(l.set j v)[j]?=some v:=by rw [List.getElem?_set_self (by omega)]
   rw [this]; rfl
  have h2:(l.set j v).drop (j+1+vs.length)=l.drop (j+1+vs.length):=List.drop_set_of_lt (by omega)
  have h3:j+(v::vs).length=j+1+vs.length:=by rw [List.length_cons]; omega
  rw [ih,h1,h2,h3]
  simp
theorem zeF {g:Nat} {e:TypeId}:∀ (vs:List Value) (j:Nat) (l:List Value) (w:World),w.heap[g]?=some (.cells l.toArray e (0,0)) →
  (w.setCells g j vs).heap[g]?=some (.cells (zf5 l j vs).toArray e (0,0))∧Fr (fun k=>k=g) w (w.setCells g j vs)
 | [],j,l,w,h=>⟨h,Fr.refl _ _⟩
 | v::vs,j,l,w,h=>by
  have h1:(w.setCell ⟨g,j,none⟩ v).heap[g]?=some (.cells (l.set j v).toArray e (0,0)):=by
   simp [World.setCell,h,Array.getElem?_modify]
  obtain ⟨h2,h3⟩:=zeF vs (j+1) (l.set j v) _ h1
  exact ⟨h2,((Fr.refl (fun k=>k=g) w).setCell (p:=⟨g,j,none⟩) (.inl rfl) v).trans h3⟩
theorem zld (xs:List zBA):xs.flatMap zgU=xs.map Value.string:=by
 induction xs with
 | nil=>rfl
 | cons x xs ih=>rw [List.flatMap_cons,ih]; rfl
theorem zur {e:TypeId} {w:World} {g cap n:Nat} {cur:List Value} {ys:List zBA} (hg:w.heap[g]?=some (.cells cur.toArray e (0,0))) (hn:n=ys.length) (hc:n≤cap) (hm:cap≤maxLen) (hl:cur.length=cap) (ht:cur.take n=ys.map Value.string) :
  Vec zgU e 1 (.slice (some ⟨g,0,none⟩) n cap) ys (fun k=>k=g) w:=by
 subst hn
 refine ⟨⟨by rw [zld,List.length_map,Nat.mul_one],.inr ⟨g,cap,cur.toArray,rfl,Nat.zero_le _,hg,hc,hm,by simp [hl],?_⟩⟩,?_⟩
 ·rw [zld,Nat.mul_one]; exact ht
 ·funext k; simp [Value.ownBlock]; exact eq_comm
theorem zmL (cs:List Value) (k:Nat) (x:Value) (hk:k≤cs.length) (tl:List Value):(cs.take k++[x]++cs.drop k++tl).take (cs.length+1)=cs.take k++x::cs.drop k:=by
 have h1:(cs.take k++[x]++cs.drop k).length=cs.length+1:=by simp; omega
 rw [← h1,List.take_left]; simp
theorem zkC (xs:List zBA) (k:Nat) (x:zBA):(zia xs (k:Int) x).map Value.string=(xs.map Value.string).take k++Value.string x::(xs.map Value.string).drop k:=by
 simp [zia,List.map_take,List.map_drop]
theorem zr7 {v:Value} {xs:List zBA} {i:Int} {vb:Nat} {x:zBA} (h:0≤i∧i≤(xs.length:Int)∧xs.length≤2147483648) :
  Fn prog 67 [v,.int .i64 i,.slice (some ⟨vb,0,none⟩) 1 1] [vec zgU 9 1 v xs,cells vb [.string x] 9] (fun r:Value=>r) (fun r=>[vec zgU 9 1 r (zia xs i x)]):=by
 intro w C hs
 obtain ⟨C1,C2,h1,h2',hd,hC⟩:=hs
 have h2:(cells vb [.string x] 9).P C2 w:=sepL.one1.1 h2'
 have h1:Vec zgU 9 1 v xs C1 w:=h1
 obtain ⟨k,rfl⟩:∃ k:Nat,i=k:=⟨i.toNat,by omega⟩
 have hk:k≤xs.length:=by omega
 have hb:w.heap[vb]?=some (.cells #[.string x] 9 (0,0)):=h2.2
 have hvs:∀ j u,[Value.string x][j]?=some u→w.cell? ⟨vb,0+j,none⟩=some u:=fun j u hj=>by
  rw [Nat.zero_add]
  exact ze7 hb (by simpa using hj)
 have h1v:∀ u∈[Value.string x],u.oneCell'=true:=fun u hu=>by rw [List.mem_singleton.1 hu]; rfl
 have hsa:w.shape? vb=some (9,1):=by simp [World.shape?,hb]
 have hf0:∀ j,w.frozen? ⟨vb,j,none⟩=false:=fun j=>by simp [World.frozen?,hb]
 have hlt:=Vec.lt h1
 have hxl:(xs.map Value.string).length=xs.length:=List.length_map _
 have fresh:∀ (w':World) (cap:Nat) (cur:List Value),w'.heap[w.heap.size]?=some (.cells cur.toArray 9 (0,0))→Fr (fun k=>w.heap.size≤k) w w'→w.heap.size<w'.heap.size→xs.length+1≤cap→cap≤maxLen→cur.length=cap→cur.take (xs.length+1)=(zia xs (k:Int) x).map Value.string →
   ∃ y:Value,Ending.returned (.slice (some ⟨w.heap.size,0,none⟩) (xs.length+1) cap)=.returned y∧∃ C',sepL [vec zgU 9 1 y (zia xs (k:Int) x)] C' w'∧Ext C C' w w':=fun w' cap cur hg hF hz hn hm hl ht=>by
  have hlen:xs.length+1=(zia xs (k:Int) x).length:=by simp [zia]; omega
  refine ⟨_,rfl,_,sepL.one (A:=vec zgU 9 1 _ (zia xs (k:Int) x)) (zur hg hlen hn hm hl ht),hF.weaken (fun i hi hh=>absurd hi (by omega)),fun j hj=>.inr ⟨by omega,by omega⟩⟩
 rcases h1.shape with ⟨rfl,rfl,_⟩ | ⟨g,cap,rfl,hgl,hcap,hcm,hC1⟩
 ·obtain rfl:k=0:=by simpa using hk
  refine (Any2.slices_Insert_string_end_grow ze1 none 0 0 vb 0 1 1 [] [.string x] w (by omega) (by omega) (by omega) (by omega) rfl rfl (fun _=>rfl) (fun a ha=>by cases ha) hvs h1v).mono ?_
  rintro e w' ⟨rfl,rfl⟩
  generalize hZ:grownCap w (0+1) 0 (Tryd.laysNm222_ren.t 9)=G
  have hG:0+1≤G:=hZ ▸ grownCap_ge _ _ _ _
  have hGm:G≤maxLen:=hZ ▸ grownCap_le_maxLen _ _ _ _ (by decide)
  have h8:∀ n,(Builtin.zeroCells (Value.string ⟨#[]⟩).cells n).size=n*1:=fun n=>size_zeroCells _ _
  have hA0:(([]++[Value.string x]).toArray++Builtin.zeroCells (Value.string ⟨#[]⟩).cells (G - (0+1)))=([Value.string x]++(Builtin.zeroCells (Value.string ⟨#[]⟩).cells (G - (0+1))).toList).toArray:=by simp
  rw [hA0]
  refine fresh _ _ ([.string x]++(Builtin.zeroCells (Value.string ⟨#[]⟩).cells (G - (0+1))).toList) (World.alloc_heap_new w.drew _) (((Fr.refl _ w).drew).alloc _) (by simp) hG hGm ?_ rfl
  simp only [List.length_append,List.length_singleton,Array.length_toList,h8]
  omega
 ·obtain ⟨h11,hCC⟩:=h1
  rcases h11.2 with ⟨hv,_⟩ | ⟨g',cap',cur,hv,_,hg,hnc,hcm',hcs,htk⟩
  ·cases hv
  obtain ⟨rfl,rfl⟩:g=g'∧cap=cap':=by injection hv with a b c; injection a with a; injection a with a; exact ⟨a,c⟩
  rw [Nat.mul_one] at hcs htk
  rw [zld] at htk
  have hg:w.heap[g]?=some (.cells cur.toList.toArray 9 (0,0)):=by rw [hg]
  have hgb:vb≠g:=fun e=>hd g ((hC1 ▸ rfl:C1 g)) ((h2.1 g).2 e.symm)
  have hcl:cur.toList.length=cap:=by simpa using hcs
  have hcell:∀ j u,cur.toList[j]?=some u→w.cell? ⟨g,0+j,none⟩=some u:=fun j u hj=>by
   rw [Nat.zero_add]
   exact ze7 hg (by simpa using hj)
  have hcsv:∀ j u,(xs.map Value.string)[j]?=some u→w.cell? ⟨g,0+j,none⟩=some u:=fun j u hj=>by
   rw [← htk,List.getElem?_take] at hj
   split at hj
   ·exact hcell j u hj
   ·cases hj
  have hfg:∀ j,w.frozen? ⟨g,j,none⟩=false:=fun j=>by simp [World.frozen?,hg]
  have hsp:∀ j,j<cap→(w.cell? ⟨g,0+j,none⟩).isSome=true:=fun j hj=>by
   rw [hcell j (cur.toList[j]'(by omega)) (List.getElem?_eq_getElem (by omega))]; rfl
  have hsb:w.shape? g=some (9,cap):=by simp [World.shape?,hg,hcs]
  have hc63:cap≤9223372036854775807:=by simpa [maxLen] using hcm
  have h1c:∀ u∈xs.map Value.string,u.oneCell'=true:=fun u hu=>by
   obtain ⟨y,_,rfl⟩:=List.mem_map.1 hu
   rfl
  have inrow:∀ (w':World) (cur':List Value),w'.heap[g]?=some (.cells cur'.toArray 9 (0,0))→Fr (fun k=>k=g) w w'→xs.length+1≤cap→cur'.length=cap→cur'.take (xs.length+1)=(zia xs (k:Int) x).map Value.string →
    ∃ y:Value,Ending.returned (.slice (some ⟨g,0,none⟩) (xs.length+1) cap)=.returned y∧∃ C',sepL [vec zgU 9 1 y (zia xs (k:Int) x)] C' w'∧Ext C C' w w':=fun w' cur' hg hF hn hl ht=>by
   have hlen:xs.length+1=(zia xs (k:Int) x).length:=by simp [zia]; omega
   refine ⟨_,rfl,_,sepL.one (A:=vec zgU 9 1 _ (zia xs (k:Int) x)) (zur hg hlen hn hcm hl ht),hF.weaken (fun i hi hh=>(hC i).2 (.inl (hC1 ▸ hh))),fun j hj=>.inl ((hC j).2 (.inl (hC1 ▸ hj)))⟩
  by_cases hroom:xs.length+1≤cap
  ·by_cases hki:k=xs.length
   ·subst hki
    refine (Any2.slices_Insert_string_end_room ze1 g 0 xs.length cap vb 0 1 1 [.string x] w (by omega) hroom hc63 rfl (fun j hj=>by have:=hsp (xs.length+j) (by omega); rwa [← Nat.add_assoc] at this) (fun j hj=>hfg _) hvs h1v).mono ?_
    rintro e w' ⟨rfl,rfl⟩
    obtain ⟨q1,q2⟩:=zeF (g:=g) [.string x] (0+xs.length) cur.toList w hg
    refine inrow _ _ q1 q2 hroom (by rw [zds]; exact hcl) ?_
    rw [zfX _ _ _ (by rw [hcl]; simp; omega),Nat.zero_add,htk,zkC]
    have h7:=zmL (xs.map Value.string) xs.length (.string x) (by rw [hxl]; exact Nat.le_refl _) (cur.toList.drop (xs.length+[Value.string x].length))
    rw [hxl] at h7
    rw [← h7]
    have h6:(xs.map Value.string).take xs.length=xs.map Value.string:=List.take_of_length_le (by rw [hxl]; exact Nat.le_refl _)
    have h5:(xs.map Value.string).drop xs.length=[]:=List.drop_eq_nil_of_le (by rw [hxl]; exact Nat.le_refl _)
    rw [h6,h5,List.append_nil]
   ·refine (Any2.slices_Insert_string_shift ze1 g 0 xs.length cap k vb 0 1 1 (xs.map Value.string) [.string x] w (by omega) (by omega) hroom hc63 hgb hxl rfl hcsv (fun j hj=>hsp j (by omega)) (fun j hj=>hfg _) hvs h1c h1v 9 9 1 cap hsa hsb (by omega) (hf0 0) (hf0 1)).mono ?_
    rintro e w' ⟨rfl,rfl⟩
    have hgd:w.drew.heap[g]?=some (.cells cur.toList.toArray 9 (0,0)):=hg
    obtain ⟨q1,q2⟩:=zeF (g:=g) ((xs.map Value.string).drop k) (0+(k+1)) cur.toList w.drew hgd
    obtain ⟨q3,q4⟩:=zeF (g:=g) [.string x] (0+k) _ _ q1
    refine inrow _ _ q3 (((Fr.refl _ w).drew.trans q2).trans q4) hroom (by rw [zds,zds]; exact hcl) ?_
    have hdl:((xs.map Value.string).drop k).length=xs.length - k:=by rw [List.length_drop,hxl]
    rw [zfX _ _ _ (by rw [zds,hcl]; simp; omega),zfX _ _ _ (by rw [hcl,hdl]; omega),Nat.zero_add,Nat.zero_add,zkC]
    have ha:(cur.toList.take (k+1)).length=k+1:=by rw [List.length_take,hcl]; omega
    have hb1:(cur.toList.take (k+1)++(xs.map Value.string).drop k++cur.toList.drop (k+1+((xs.map Value.string).drop k).length)).take k=(xs.map Value.string).take k:=by
     rw [List.append_assoc,List.take_append_of_le_length (by rw [ha]; omega),List.take_take,Nat.min_eq_left (by omega),← htk,List.take_take,Nat.min_eq_left (by omega)]
    have hb2:(cur.toList.take (k+1)++(xs.map Value.string).drop k++cur.toList.drop (k+1+((xs.map Value.string).drop k).length)).drop (k+[Value.string x].length)=(xs.map Value.string).drop k++cur.toList.drop (k+1+((xs.map Value.string).drop k).length):=by
     rw [List.append_assoc]
     have:k+[Value.string x].length=(cur.toList.take (k+1)).length:=by rw [ha]; rfl
     rw [this,List.drop_left]
    rw [hb1,hb2,← List.append_assoc,← hxl]
    exact zmL _ _ _ (by rw [hxl]; exact hk) _
  ·by_cases hki:k=xs.length
   ·subst hki
    refine (Any2.slices_Insert_string_end_grow ze1 (some ⟨g,0,none⟩) xs.length cap vb 0 1 1 (xs.map Value.string) [.string x] w (by omega) hcap (by omega) (by omega) hxl rfl (fun h=>by cases h) (fun a ha j u hj=>by cases ha; rw [Addr.add_lit]; exact hcsv j u hj) hvs h1v).mono ?_
    rintro e w' ⟨rfl,rfl⟩
    generalize hZ:grownCap w (xs.length+1) cap (Tryd.laysNm222_ren.t 9)=G
    have hG:xs.length+1≤G:=hZ ▸ grownCap_ge _ _ _ _
    have hGm:G≤maxLen:=hZ ▸ grownCap_le_maxLen _ _ _ _ (by simp only [maxLen]; omega)
    have h8:∀ n,(Builtin.zeroCells (Value.string ⟨#[]⟩).cells n).size=n*1:=fun n=>size_zeroCells _ _
    have hA0:((xs.map Value.string++[Value.string x]).toArray++Builtin.zeroCells (Value.string ⟨#[]⟩).cells (G - (xs.length+1)))=(xs.map Value.string++[Value.string x]++(Builtin.zeroCells (Value.string ⟨#[]⟩).cells (G - (xs.length+1))).toList).toArray:=by simp
    rw [hA0]
    refine fresh _ _ (xs.map Value.string++[.string x]++(Builtin.zeroCells (Value.string ⟨#[]⟩).cells (G - (xs.length+1))).toList) (World.alloc_heap_new w.drew _) (((Fr.refl _ w).drew).alloc _) (by simp) hG hGm ?_ ?_
    ·simp only [List.length_append,List.length_singleton,Array.length_toList,h8,hxl]
     omega
    ·have h6:(xs.map Value.string++[Value.string x]).length=xs.length+1:=by simp
     rw [← h6,List.take_left,zkC,← hxl,List.take_length,List.drop_length]
   ·refine (Any2.slices_Insert_string_grow ze1 g 0 xs.length cap k vb 0 1 1 (xs.map Value.string) [.string x] w (by omega) (by omega) hcap (by omega) (by omega) hxl rfl hcsv hvs h1c h1v).mono ?_
    rintro e w' ⟨rfl,rfl⟩
    have h8:∀ n,(Builtin.zeroCells (Value.string ⟨#[]⟩).cells n).size=n*1:=fun n=>size_zeroCells _ _
    generalize hZ:grownCap w (xs.length+1) cap (Tryd.laysNm222_ren.t 9)=G
    have hG:xs.length+1≤G:=hZ ▸ grownCap_ge _ _ _ _
    have hGm:G≤maxLen:=hZ ▸ grownCap_le_maxLen _ _ _ _ (by simp only [maxLen]; omega)
    obtain ⟨A,hA⟩:∃ A:List Value,A=(xs.map Value.string).take k++(Builtin.zeroCells (Value.string ⟨#[]⟩).cells (xs.length+1 - k)).toList++(Builtin.zeroCells (Value.string ⟨#[]⟩).cells (G - (xs.length+1))).toList:=⟨_,rfl⟩
    have hAl:A.length=G:=by
     rw [hA]
     simp only [List.length_append,List.length_take,Array.length_toList,h8,hxl]
     omega
    have hA0:(((xs.map Value.string).take k).toArray++Builtin.zeroCells (Value.string ⟨#[]⟩).cells (xs.length+1 - k)++Builtin.zeroCells (Value.string ⟨#[]⟩).cells (G - (xs.length+1)))=A.toArray:=by rw [hA]; simp
    rw [hA0]
    have q0:(w.alloc (.cells A.toArray 9)).drew.heap[w.heap.size]?=some (.cells A.toArray 9 (0,0)):=World.alloc_heap_new w _
    obtain ⟨q1,q2⟩:=zeF (g:=w.heap.size) [.string x] k A _ q0
    have q1':(((w.alloc (.cells A.toArray 9)).drew.setCells w.heap.size k [.string x]).drew).heap[w.heap.size]?=some (.cells (zf5 A k [.string x]).toArray 9 (0,0)):=q1
    obtain ⟨q3,q4⟩:=zeF (g:=w.heap.size) ((xs.map Value.string).drop k) (k+1) _ _ q1'
    have hF0:Fr (fun k=>w.heap.size≤k) w (w.alloc (.cells A.toArray 9)).drew:=((Fr.refl _ w).alloc _).drew
    have hF1:=(hF0.trans' (q2.weaken (C':=fun k=>w.heap.size≤k) (fun i _ h=>by omega)) (fun i _ h=>h)).drew.trans' (q4.weaken (C':=fun k=>w.heap.size≤k) (fun i _ h=>by omega)) (fun i _ h=>h)
    have hdl:((xs.map Value.string).drop k).length=xs.length - k:=by rw [List.length_drop,hxl]
    refine fresh _ _ _ q3 hF1 (zbC q3) hG hGm (by rw [zds,zds]; exact hAl) ?_
    have htl:((xs.map Value.string).take k).length=k:=by rw [List.length_take,hxl]; omega
    rw [zfX _ _ _ (by rw [zds,hAl,hdl]; omega),zfX _ _ _ (by rw [hAl]; simp; omega),zkC]
    have hb0:A.take k=(xs.map Value.string).take k:=by
     rw [hA,List.append_assoc,List.take_append_of_le_length (by rw [htl]; exact Nat.le_refl _),List.take_take,Nat.min_self]
    have hb1:(A.take k++[Value.string x]++A.drop (k+[Value.string x].length)).take (k+1)=(xs.map Value.string).take k++[Value.string x]:=by
     have:((xs.map Value.string).take k++[Value.string x]).length=k+1:=by rw [List.length_append,htl]; rfl
     rw [hb0,← this,List.take_left]
    rw [hb1,← hxl]
    exact zmL _ _ _ (by rw [hxl]; exact hk) _
end
end Go.Proofs.YtifpjbgnikjglaaDoor
