/-
  Texts laid together: Fr, Iter, Iter2, Row, Sep, Sl, Rl, Tl, Ul, Dl, Vl, Gl, Wl, Yl, Ll, Ml, Nl, Mm, Dg, Utf, Rn, Ap, Cp, Zn, Mp, Ob, Pcs. Nothing is assumed.
-/
import Derived.RangeFuncNested
import Derived.RangeFuncBound
import Derived.RangeFuncCalls
import Derived.RangeFuncLeaves
import Derived.Shelf.Abstract
import Derived.Shelf.RegionOpen
import Derived.WalkKit
import Derived.WalkSpells
import Derived.WalkLawsBesides
import Derived.OwnWalkIn
import Derived.TacticsInMore
import Derived.LoopNIn
import Derived.LoopIn
import Derived.Lib.OthersKept
import Derived.Lib.MapLaws
import Derived.Lib.ValidLaws
import Derived.Lib.TrimUEq
import Derived.Lib.RuneCountTail
import Derived.Lib.Hide
import Derived.Lib.Bytealg
import Derived.Deep.Light
import Derived.Deep.QuietTactic
import Derived.BigQuiet
import Derived.Deep.LoopGhost
import Derived.Lib.QuoteLoop
import Derived.Lib.AppendStr
import Derived.Laws.IdiomStrings
import Derived.Lib.BufferRead
import Derived.OrdersIn
import Derived.Deep.MidRow
import Derived.IntWalk
import Derived.Laws.MakeOwn
import Derived.Laws.StructEq
import Derived.Laws.Cover4
import Derived.Laws.CopyRow
import Derived.Laws.Tables
import Derived.MapKept
import Derived.Test.YtdnalnmahlakkaaGreatDoorProg
set_option maxRecDepth 100000
set_option maxHeartbeats 4000000
namespace Go.Proofs.YtdnalnmahlakkaaGreatDoor
open Go.RowKit Go.Lib
open Tryz
set_option linter.unusedVariables false
set_option linter.unusedSimpArgs false
abbrev zBA:=ByteArray
theorem dc {p:Prop} [Decidable p] (h:decide p=true:=by rfl):p:=of_decide_eq_true h
theorem kr {α:Sort _} {a b:α} (h:a=b:=by as_aux_lemma=>kernel_rfl):a=b:=h
structure Fr (C:Nat→Prop) (w w':World):Prop where
 os:w'.os=w.os
 tape:w'.tape=w.tape
 output:w'.output=w.output
 size:w.heap.size≤w'.heap.size
 keep:∀ k,k<w.heap.size→¬ C k→w'.heap[k]?=w.heap[k]?
theorem Fr.refl (C:Nat→Prop) (w:World):Fr C w w:=⟨rfl,rfl,rfl,Nat.le_refl _,fun _ _ _=>rfl⟩
theorem Fr.trans' {C C':Nat→Prop} {a b c:World} (h:Fr C a b) (k:Fr C' b c) (hc:∀ i,i<a.heap.size→C' i→C i):Fr C a c :=
 ⟨k.os.trans h.os,k.tape.trans h.tape,k.output.trans h.output,Nat.le_trans h.size k.size,
  fun i hi hn=>(k.keep i (Nat.lt_of_lt_of_le hi h.size) (fun h'=>hn (hc i hi h'))).trans (h.keep i hi hn)⟩
theorem Fr.weaken {C C':Nat→Prop} {a b:World} (h:Fr C a b) (hc:∀ i,i<a.heap.size→C i→C' i):Fr C' a b :=
 ⟨h.os,h.tape,h.output,h.size,fun i hi hn=>h.keep i hi (fun h'=>hn (hc i hi h'))⟩
theorem Fr.alloc {C:Nat→Prop} {a w:World} (h:Fr C a w) (o:Obj):Fr C a (w.alloc o) :=
 ⟨h.os,h.tape,h.output,by have:=h.size; simp; omega,fun i hi hn=>(Below.heap_alloc w o i (Nat.lt_of_lt_of_le hi h.size)).trans (h.keep i hi hn)⟩
theorem Fr.drew {C:Nat→Prop} {a w:World} (h:Fr C a w):Fr C a w.drew:=⟨h.os,h.tape,h.output,h.size,h.keep⟩
theorem Fr.setCell {C:Nat→Prop} {a w:World} (h:Fr C a w) {p:Addr} (hp:C p.block∨a.heap.size≤p.block) (u:Value):Fr C a (w.setCell p u) :=
 ⟨h.os,h.tape,h.output,by simpa [World.setCell] using h.size,fun i hi hn =>
  (Below.heap_setCell w p u i (by rintro rfl; rcases hp with hp | hp; exact hn hp; omega)).trans (h.keep i hi hn)⟩
theorem Fr.putObj {C:Nat→Prop} {a w:World} (h:Fr C a w) {r:Nat} (hp:C r∨a.heap.size≤r) (o:Obj):Fr C a (w.putObj r o) :=
 ⟨h.os,h.tape,h.output,by simpa using h.size,fun i hi hn =>
  (World.putObj_heap_other (by rintro rfl; rcases hp with hp | hp; exact hn hp; omega)).trans (h.keep i hi hn)⟩
theorem Fr.iterAt {C:Nat→Prop} {a w:World} (h:Fr C a w) {k:Nat} (hp:C k∨a.heap.size≤k) (s:zBA) (pos:Nat):Fr C a (w.iterAt k s pos) :=
 ⟨h.os,h.tape,h.output,by rw [iterAt_size]; exact h.size,fun i hi hn =>
  (iterAt_other w k i s pos (by rintro rfl; rcases hp with hp | hp; exact hn hp; omega)).trans (h.keep i hi hn)⟩
theorem Fr.grown {C:Nat→Prop} {a w w':World} {row:Option Nat} (h:Fr C a w) (hg:w.grownBy w' row) (hr:∀ r,row=some r→C r∨a.heap.size≤r):Fr C a w' :=
 ⟨hg.os.trans h.os,hg.tape.trans h.tape,hg.output.trans h.output,Nat.le_trans h.size hg.size,fun i hi hn =>
  (hg.block i (Nat.lt_of_lt_of_le hi h.size) (fun e=>by rcases hr i e.symm with h' | h'; exact hn h'; omega)).trans (h.keep i hi hn)⟩
theorem Fr.below {C:Nat→Prop} {a w w':World} (h:Fr C a w) (hb:Below w.heap.size w w'):Fr C a w' :=
 ⟨hb.os.trans h.os,hb.tape.trans h.tape,hb.output.trans h.output,Nat.le_trans h.size hb.size,fun i hi hn =>
  (hb.block i (Nat.lt_of_lt_of_le hi h.size)).trans (h.keep i hi hn)⟩
theorem Fr.toBelow {C:Nat→Prop} {B:Nat} {w w':World} (h:Fr C w w') (hB:B≤w.heap.size) (hC:∀ k,k<B→¬ C k):Below B w w' :=
 ⟨h.os,h.tape,h.output,h.size,fun k hk=>h.keep k (by omega) (hC k hk)⟩
theorem Fr.at {C:Nat→Prop} {w w':World} (h:Fr C w w') {k:Nat} {o:Obj} (hk:w.heap[k]?=some o) (hn:¬ C k):w'.heap[k]?=some o :=
 (h.keep k (Array.getElem?_eq_some_iff.1 hk).1 hn).trans hk
theorem zdn {w:World} {k:Nat} {o:Obj} (hk:w.heap[k]?=some o):k<w.heap.size:=(Array.getElem?_eq_some_iff.1 hk).1
def Ext (C C':Nat→Prop) (W W':World):Prop:=Fr C W W'∧∀ k,C' k→C k∨(W.heap.size≤k∧k<W'.heap.size)
theorem Ext.refl (C:Nat→Prop) (W:World):Ext C C W W:=⟨Fr.refl _ _,fun _ h=>.inl h⟩
theorem Ext.trans {C C1 C2:Nat→Prop} {W W1 W2:World} (h:Ext C C1 W W1) (k:Ext C1 C2 W1 W2):Ext C C2 W W2:=by
 refine ⟨h.1.trans' k.1 (fun i hi hc=>(h.2 i hc).resolve_right (by omega)),fun i hi => ?_⟩
 have h1:=h.1.size; have h2:=k.1.size
 rcases k.2 i hi with h' | h'
 ·rcases h.2 i h' with h'' | h''
  ·exact .inl h''
  ·exact .inr (by omega)
 ·exact .inr (by omega)
theorem zqv {C:Nat→Prop} {W W':World} (h:Fr C W W'):Ext C C W W':=⟨h,fun _ h=>.inl h⟩
theorem Ext.not {C C':Nat→Prop} {W W':World} (h:Ext C C' W W') {k:Nat} (hk:k<W.heap.size) (hn:¬ C k):¬ C' k:=fun h'=>by
 rcases h.2 k h' with h'' | h''
 ·exact hn h''
 ·omega
def zkJ {β:Type} (I:β→(Nat→Prop)→World→Prop):Prop :=
 ∀ s C W W',I s C W→W.heap.size≤W'.heap.size→(∀ k,C k→W'.heap[k]?=W.heap[k]?)→I s C W'
def YAt (P:Program) (l:Nat) (args:Array Value) (W:World) (R:Bool→World→Prop):Prop :=
 ∃ fn tmps assign body,(Instr.yield l args).run P W=.ok (.round l fn tmps assign body) W ∧
  RoundIn Fence.wide 0 P l fn tmps assign body W fun e W'=>∃ b,e=.returned (.bool b)∧R b W'
def zm0 {α:Type} (P:Program) (g:FuncId) (lb:Array Value) (enc:α→Array Value) (xs:List α) (D:Nat→Prop) (W0:World):Prop :=
 ∀ (l:Nat) (I X:List α→(Nat→Prop)→World→Prop) (C0:Nat→Prop) (W:World),
  (∀ k,D k→k<W0.heap.size∧W.heap[k]?=W0.heap[k]?)→W0.heap.size≤W.heap.size→(∀ k,C0 k→k<W.heap.size∧¬ D k) →
  zkJ I→zkJ X →
  (∀ pre x post C W1,xs=pre++x::post→Ext C0 C W W1→I pre C W1 →
   YAt P l (enc x) W1 fun b W2=>∃ C',Ext C C' W1 W2∧((b=true∧I (pre++[x]) C' W2)∨(b=false∧X (pre++[x]) C' W2))) →
  I [] C0 W →
  Calls P g (#[.func (.yield l) #[] #[]]++lb) W fun e W'=>(∃ v,e=.returned v) ∧
   ∃ C',Ext C0 C' W W'∧(I xs C' W'∨∃ pre x post,xs=pre++x::post∧X (pre++[x]) C' W')
def ztS {α:Type} (I:List α→(Nat→Prop)→World→Prop) (X:Code→List α→(Nat→Prop)→World→Prop) (xs:List α) (C:Nat→Prop) (W:World):Exit→Act→World→Prop
 | .normal,_,W'=>∃ C',Ext C C' W W'∧I xs C' W'
 | .ret,_,W'=>∃ C',Ext C C' W W'∧X .ret xs C' W'
 | .exit id,_,W'=>∃ C',Ext C C' W W'∧X (.exit id) xs C' W'
 | .goto t,_,W'=>∃ C',Ext C C' W W'∧X (.goto t) xs C' W'
 | .panic _,_,_=>False
 | .outgrown,_,_=>False
theorem zo9 (f:FuncId):Fence.wide.fn f=True:=rfl
theorem zla (l:Nat) (f:FuncId):(Fence.wide.inRound l).fn f=True:=rfl
theorem zlb:Fence.wide.depth=none:=rfl
section
variable {P:Program}
theorem zlk {α:Type} {gf:FuncId} {lb:Array Value} {enc:α→Array Value} {xs:List α} {D:Nat→Prop} {W0:World} (hY:zm0 P gf lb enc xs D W0)
  {fn:FuncId} {tmps:Array Value} {ps:Array Tmp} {assign body:Code} {dblk:Nat} (hps:∀ x,(enc x).size=ps.size)
  (I:List α→(Nat→Prop)→World→Prop) (X:Code→List α→(Nat→Prop)→World→Prop) (J:List α→α→Act→(Nat→Prop)→World→Prop)
  (hI:zkJ I) (hX:∀ c,zkJ (X c)) (hJ:∀ pre x a,zkJ (fun (_:Unit)=>J pre x a)) (C0:Nat→Prop) (W:World) (l:Nat)
  (hl:W.heap[l]?=some (.loop { state:=.ready,pending:=none,fn,tmps,params:=ps,assign,body,defers:=dblk })) (hlC:¬ C0 l) (hlD:¬ D l)
  (hD:∀ k,D k→k<W0.heap.size∧W.heap[k]?=W0.heap[k]?) (hs:W0.heap.size≤W.heap.size) (hC0:∀ k,C0 k→k<W.heap.size∧¬ D k) (h0:I [] C0 W)
  (hassign:∀ pre x post C W1,xs=pre++x::post→Ext (fun k=>C0 k∨k=l) (fun k=>C k∨k=l) W W1→I pre C W1→¬ C l→(∃ r,W1.heap[l]?=some (.loop r)∧r.defers=dblk) →
   assign.wpIn (Fence.wide.inRound l) 0 P (Exit.then (fun a1 W2=>∃ C1,Ext C C1 W1 W2∧J pre x a1 C1 W2) (fun _ _ _=>False))
    { tmps:=(ps.zip (enc x)).foldl (fun t (p,v)=>t.setIfInBounds p v) tmps,defers:=[] } W1)
  (hbody:∀ pre x post C W1 a1,xs=pre++x::post→Ext (fun k=>C0 k∨k=l) (fun k=>C k∨k=l) W W1→J pre x a1 C W1→¬ C l→(∃ r,W1.heap[l]?=some (.loop r)∧r.defers=dblk) →
   body.wpIn (Fence.wide.inRound l) 0 P (ztS I X (pre++[x]) C W1) a1 W1) :
  Calls P gf (#[.func (.yield l) #[] #[]]++lb) W fun e W'=>(∃ v,e=.returned v) ∧
   ∃ C' st pe,Ext (fun k=>C0 k∨k=l) (fun k=>C' k∨k=l) W W'∧¬ C' l∧W'.heap[l]?=some (.loop { state:=st,pending:=pe,fn,tmps,params:=ps,assign,body,defers:=dblk })∧st≠.busy ∧
    ((pe=none∧I xs C' W')∨∃ c pre x post,pe=some c∧xs=pre++x::post∧X c (pre++[x]) C' W'):=by
 have hlt:l<W.heap.size:=zdn hl
 refine (hY l
  (fun pre Cc W1=>∃ C,Cc=(fun k=>C k∨k=l)∧¬ C l∧I pre C W1∧W1.heap[l]?=some (.loop { state:=.ready,pending:=none,fn,tmps,params:=ps,assign,body,defers:=dblk }))
  (fun pre Cc W1=>∃ C c,Cc=(fun k=>C k∨k=l)∧¬ C l∧X c pre C W1∧W1.heap[l]?=some (.loop { state:=.done,pending:=some c,fn,tmps,params:=ps,assign,body,defers:=dblk }))
  (fun k=>C0 k∨k=l) W hD hs ?_ ?_ ?_ ?_ ?_).mono ?_
 ·rintro k (h | rfl)
  ·exact hC0 k h
  ·exact ⟨hlt,hlD⟩
 ·rintro pre Cc W1 W2 ⟨C,rfl,hn,hi,hr⟩ hsz hk
  exact ⟨C,rfl,hn,hI _ _ _ _ hi hsz (fun k h=>hk k (.inl h)),(hk l (.inr rfl)).trans hr⟩
 ·rintro pre Cc W1 W2 ⟨C,c,rfl,hn,hi,hr⟩ hsz hk
  exact ⟨C,c,rfl,hn,hX c _ _ _ _ hi hsz (fun k h=>hk k (.inl h)),(hk l (.inr rfl)).trans hr⟩
 ·rintro pre x post Cc W1 hxs hext ⟨C,rfl,hn,hi,hr⟩
  have hlt1:l<W1.heap.size:=zdn hr
  have hy:=run_yield (P:=P) (args:=enc x) hr (hps x)
  refine ⟨fn,_,assign,body,hy,roundIn_of_wpIn (F:=Fence.wide) trivial (wpIn_mono (hassign pre x post C W1 hxs hext hi hn ⟨_,hr,rfl⟩) ?_)⟩
  clear hy
  rintro e a1 W2 hp
  cases e with
  | normal =>
   obtain ⟨C1,hx1,hj⟩:=hp
   have hn1:¬ C1 l:=hx1.not hlt1 hn
   have hr2:W2.heap[l]?=_:=hx1.1.at hr hn
   have hlt2:l<W2.heap.size:=zdn hr2
   refine ⟨_,run_beginRound hr2 rfl,?_⟩
   have hr3:=World.putObj_heap_same (w:=W2) (o:=.loop { state:=.busy,pending:=none,fn,tmps,params:=ps,assign,body,defers:=dblk }) hlt2
   have hother:∀ (Cz:Nat→Prop) (Wz:World) (o:Obj),¬ Cz l→∀ k,Cz k→(Wz.putObj l o).heap[k]?=Wz.heap[k]?:=fun Cz Wz o hz k hk=>World.putObj_heap_other (by rintro rfl; exact hz hk)
   have hj3:=hJ pre x a1 () C1 W2 (W2.putObj l (.loop { state:=.busy,pending:=none,fn,tmps,params:=ps,assign,body,defers:=dblk })) hj (by simp) (hother C1 W2 _ hn1)
   have e12:Ext (fun k=>C k∨k=l) (fun k=>C1 k∨k=l) W1 (W2.putObj l (.loop { state:=.busy,pending:=none,fn,tmps,params:=ps,assign,body,defers:=dblk })) :=
    ⟨(hx1.1.weaken (fun _ _ h=>.inl h)).putObj (.inl (.inr rfl)) _,fun k hk=>by
     rcases hk with hk | rfl
     ·rcases hx1.2 k hk with h' | h'
      ·exact .inl (.inl h')
      ·exact .inr (by simpa using h')
     ·exact .inl (.inr rfl)⟩
   refine wpIn_mono (hbody pre x post C1 _ a1 hxs (hext.trans e12) hj3 hn1 ⟨_,hr3,rfl⟩) ?_
   have fin:∀ (jump:Option Code) (C':Nat→Prop) (W4:World),Ext C1 C' (W2.putObj l (.loop { state:=.busy,pending:=none,fn,tmps,params:=ps,assign,body,defers:=dblk })) W4 →
     ¬ C' l∧(Instr.endRound l jump).run P W4=.ok (.bool jump.isNone) (W4.putObj l (.loop { state:=if jump.isNone then .ready else .done,pending:=jump,fn,tmps,params:=ps,assign,body,defers:=dblk })) ∧
     (W4.putObj l (.loop { state:=if jump.isNone then .ready else .done,pending:=jump,fn,tmps,params:=ps,assign,body,defers:=dblk })).heap[l]?=some (.loop { state:=if jump.isNone then .ready else .done,pending:=jump,fn,tmps,params:=ps,assign,body,defers:=dblk }) ∧
     Ext (fun k=>C k∨k=l) (fun k=>C' k∨k=l) W1 (W4.putObj l (.loop { state:=if jump.isNone then .ready else .done,pending:=jump,fn,tmps,params:=ps,assign,body,defers:=dblk })):=by
    intro jump C' W4 hx4
    have hn4:¬ C' l:=hx4.not (by simpa using hlt2) hn1
    have hr4:=hx4.1.at hr3 hn1
    have hlt4:l<W4.heap.size:=zdn hr4
    refine ⟨hn4,run_endRound (P:=P) jump hr4,World.putObj_heap_same hlt4,e12.trans ⟨(hx4.1.weaken (fun _ _ h=>.inl h)).putObj (.inl (.inr rfl)) _,?_⟩⟩
    rintro k (hk | rfl)
    ·rcases hx4.2 k hk with h' | h'
     ·exact .inl (.inl h')
     ·exact .inr (by simpa using h')
    ·exact .inl (.inr rfl)
   rintro e a3 W4 hp4
   cases e with
   | normal =>
    obtain ⟨C',hx4,hi4⟩:=hp4
    obtain ⟨q1,q2,q3,q4⟩:=fin none C' W4 hx4
    exact ⟨_,_,q2,true,rfl,_,q4,.inl ⟨rfl,C',rfl,q1,hI _ _ _ _ hi4 (by simp) (hother C' W4 _ q1),q3⟩⟩
   | ret =>
    obtain ⟨C',hx4,hi4⟩:=hp4
    obtain ⟨q1,q2,q3,q4⟩:=fin (some .ret) C' W4 hx4
    exact ⟨_,_,q2,false,rfl,_,q4,.inr ⟨rfl,C',_,rfl,q1,hX _ _ _ _ _ hi4 (by simp) (hother C' W4 _ q1),q3⟩⟩
   | exit id =>
    obtain ⟨C',hx4,hi4⟩:=hp4
    obtain ⟨q1,q2,q3,q4⟩:=fin (some (.exit id)) C' W4 hx4
    exact ⟨_,_,q2,false,rfl,_,q4,.inr ⟨rfl,C',_,rfl,q1,hX _ _ _ _ _ hi4 (by simp) (hother C' W4 _ q1),q3⟩⟩
   | goto t =>
    obtain ⟨C',hx4,hi4⟩:=hp4
    obtain ⟨q1,q2,q3,q4⟩:=fin (some (.goto t)) C' W4 hx4
    exact ⟨_,_,q2,false,rfl,_,q4,.inr ⟨rfl,C',_,rfl,q1,hX _ _ _ _ _ hi4 (by simp) (hother C' W4 _ q1),q3⟩⟩
   | panic ch=>exact hp4.elim
   | outgrown=>exact hp4.elim
  | ret=>exact hp.elim
  | exit id=>exact hp.elim
  | goto t=>exact hp.elim
  | panic ch=>exact hp.elim
  | outgrown=>exact hp.elim
 ·exact ⟨C0,rfl,hlC,h0,hl⟩
 ·rintro e W' ⟨hv,C',hext,⟨C,rfl,hn,hi,hr⟩ | ⟨pre,x,post,hxs,C,c,rfl,hn,hi,hr⟩⟩
  ·exact ⟨hv,C,_,_,hext,hn,hr,by simp,.inl ⟨rfl,hi⟩⟩
  ·exact ⟨hv,C,_,_,hext,hn,hr,by simp,.inr ⟨c,pre,x,post,rfl,hxs,hi⟩⟩
theorem znR {α:Type} {g:Operand} {ps:Array Tmp} {assign body:Code} {Q:Exit→Act→World→Prop} {a:Act} {w:World}
  {gf:FuncId} {lb:Array Value} (hg:a.eval g=.func (.func gf) #[] lb) (eg:∀ args w,(callFunc gf args).run P w=.ok (.enter gf args) w)
  {enc:α→Array Value} {xs:List α} {D:Nat→Prop} {W0:World} (hY:zm0 P gf lb enc xs D W0)
  (hD:∀ k,D k→k<W0.heap.size∧w.heap[k]?=W0.heap[k]?) (hs:W0.heap.size≤w.heap.size) (hps:∀ x,(enc x).size=ps.size)
  (I:List α→(Nat→Prop)→World→Prop) (X:Code→List α→(Nat→Prop)→World→Prop) (J:List α→α→Act→(Nat→Prop)→World→Prop)
  (hI:zkJ I) (hX:∀ c,zkJ (X c)) (hJ:∀ pre x a,zkJ (fun (_:Unit)=>J pre x a)) (C0:Nat→Prop)
  (hC0:∀ k,C0 k→k<w.heap.size∧¬ D k) (h0:I [] C0 w)
  (hassign:∀ l pre x post C W1,xs=pre++x::post→Ext C0 C w W1→I pre C W1→¬ C l→w.heap.size≤l→(∃ r,W1.heap[l]?=some (.loop r)) →
   assign.wpIn (Fence.wide.inRound l) 0 P (Exit.then (fun a1 W2=>∃ C1,Ext C C1 W1 W2∧J pre x a1 C1 W2) (fun _ _ _=>False))
    { tmps:=(ps.zip (enc x)).foldl (fun t (p,v)=>t.setIfInBounds p v) a.tmps,defers:=[] } W1)
  (hbody:∀ l pre x post C W1 a1,xs=pre++x::post→Ext C0 C w W1→J pre x a1 C W1→¬ C l→w.heap.size≤l→(∃ r,W1.heap[l]?=some (.loop r)) →
   body.wpIn (Fence.wide.inRound l) 0 P (ztS I X (pre++[x]) C W1) a1 W1)
  (hdone:∀ (d:Nat) (C:Nat→Prop) (W:World),Ext C0 C w W→I xs C W→w.heap.size≤d→¬ C d→W.heap[d]?=some (.deferred (some []))→Q .normal { a with defers:={ target:=.collected d,args:=#[] }::a.defers } W)
  (hstop:∀ (d:Nat) (c:Code) (pre:List α) (x:α) (post:List α) (C:Nat→Prop) (W:World),xs=pre++x::post→Ext C0 C w W→X c (pre++[x]) C W→w.heap.size≤d→¬ C d→W.heap[d]?=some (.deferred (some [])) →
   c.wpIn Fence.wide 0 P Q { a with defers:={ target:=.collected d,args:=#[] }::a.defers } W) :
  (Code.rangeFunc g ps assign body).wpIn Fence.wide 0 P Q a w:=by
 refine wpIn_rangeFunc ?_
 intro fn hfn
 obtain ⟨W1,hW1⟩:∃ W1,(w.alloc (.deferred (some []))).alloc (.loop { state:=.ready,pending:=none,fn,tmps:=a.tmps,params:=ps,assign,body,defers:=w.heap.size })=W1:=⟨_,rfl⟩
 have hL1:W1.heap[w.heap.size+1]?=some (.loop { state:=.ready,pending:=none,fn,tmps:=a.tmps,params:=ps,assign,body,defers:=w.heap.size }):=by
  rw [← hW1]; have:=World.alloc_heap_new (w.alloc (.deferred (some []))) (.loop { state:=.ready,pending:=none,fn,tmps:=a.tmps,params:=ps,assign,body,defers:=w.heap.size }); rwa [World.size_alloc] at this
 have hK1:W1.heap[w.heap.size]?=some (.deferred (some [])):=by
  rw [← hW1]; exact (Below.heap_alloc _ _ _ (by simp)).trans (World.alloc_heap_new w _)
 have hF1:Fr C0 w W1:=by rw [← hW1]; exact ((Fr.refl C0 w).alloc _).alloc _
 have hsz:W1.heap.size=w.heap.size+2:=by rw [← hW1]; simp
 have hold:∀ k,k<w.heap.size→W1.heap[k]?=w.heap[k]?:=fun k hk=>by rw [← hW1]; exact (Below.heap_alloc _ _ _ (by simp; omega)).trans (Below.heap_alloc _ _ _ hk)
 have hI1:I [] C0 W1:=hI _ _ _ _ h0 hF1.size (fun k hk=>hold k (hC0 k hk).1)
 have hpull:∀ {C:Nat→Prop} {W2:World},Ext (fun k=>C0 k∨k=w.heap.size+1) (fun k=>C k∨k=w.heap.size+1) W1 W2→¬ C (w.heap.size+1)→Ext C0 C w W2∧¬ C w.heap.size∧W2.heap[w.heap.size]?=some (.deferred (some [])):=by
  intro C W2 h hn
  have hnd:¬ C w.heap.size:=fun hc=>by
   rcases h.2 _ (.inl hc) with (h' | h') | h'
   ·have:=(hC0 _ h').1; omega
   ·omega
   ·omega
  refine ⟨⟨hF1.trans' h.1 (fun i hi hc=>hc.resolve_right (by omega)),fun k hk => ?_⟩,hnd,h.1.at hK1 (fun hc => ?_)⟩
  ·have h2:=h.1.size
   rcases h.2 k (.inl hk) with (h' | h') | h'
   ·exact .inl h'
   ·exact absurd (h' ▸ hk) hn
   ·exact .inr (by omega)
  ·rcases hc with hc | hc
   ·have:=(hC0 _ hc).1; omega
   ·omega
 refine ⟨w.heap.size+1,[{ target:=.collected w.heap.size,args:=#[] }],W1,{ target:=.fn (.func gf) lb,args:=#[.func (.yield (w.heap.size+1)) #[] #[]] },W1,gf,
  #[.func (.yield (w.heap.size+1)) #[] #[]]++lb,W1,?_,?_,?_,?_,fun h=>by simp [Fence.wide] at h,callsIn_wide.2 ?_⟩
 ·rw [← hW1]; exact run_enterLoop_outer _ _ _ _ _
 ·simp only [resolve,hg]
  simp [go_sem]
 ·intro f' hf'; trivial
 ·simp [invoke,go_sem,eg]
 ·refine (zlk hY hps I X J hI hX hJ C0 W1 (w.heap.size+1) hL1 (fun h=>by have:=(hC0 _ h).1; omega) (fun h=>by have:=(hD _ h).1; omega)
   (fun k hk=>⟨(hD k hk).1,(hold k (by have:=(hD k hk).1; omega)).trans (hD k hk).2⟩) (by omega) (fun k hk=>⟨by have:=(hC0 k hk).1; omega,(hC0 k hk).2⟩) hI1 ?_ ?_).mono ?_
  ·rintro pre x post C W2 hxs hext hi hn ⟨r,hr,_⟩
   exact hassign _ pre x post C W2 hxs (hpull hext hn).1 hi hn (by omega) ⟨r,hr⟩
  ·rintro pre x post C W2 a1 hxs hext hj hn ⟨r,hr,_⟩
   exact hbody _ pre x post C W2 a1 hxs (hpull hext hn).1 hj hn (by omega) ⟨r,hr⟩
  ·rintro e W2 ⟨⟨v,rfl⟩,C',st,pe,hext,hn,hr,hst,h⟩
   obtain ⟨q1,q2,q3⟩:=hpull hext hn
   have hlt2:w.heap.size+1<W2.heap.size:=zdn hr
   have e1:∀ o,Ext C0 C' w (W2.putObj (w.heap.size+1) o):=fun o=>⟨q1.1.putObj (.inr (by omega)) _,fun k hk=>by have:=q1.2 k hk; simpa using this⟩
   have hk1:∀ o,∀ k,C' k→(W2.putObj (w.heap.size+1) o).heap[k]?=W2.heap[k]?:=fun o k hk=>World.putObj_heap_other (by rintro rfl; exact hn hk)
   have hd1:∀ o,(W2.putObj (w.heap.size+1) o).heap[w.heap.size]?=some (.deferred (some [])):=fun o=>(World.putObj_heap_other (by omega)).trans q3
   rcases h with ⟨rfl,hi⟩ | ⟨c,pre,x,post,rfl,hxs,hx⟩
   ·exact ⟨none,_,run_endLoop (P:=P) hr hst,hdone _ C' _ (e1 _) (hI _ _ _ _ hi (by simp) (hk1 _)) (Nat.le_refl _) q2 (hd1 _)⟩
   ·exact ⟨some c,_,run_endLoop (P:=P) hr hst,hstop _ c pre x post C' _ hxs (e1 _) (hX _ _ _ _ _ hx (by simp) (hk1 _)) (Nat.le_refl _) q2 (hd1 _)⟩
theorem znd {α:Type} {g:Operand} {ps:Array Tmp} {assign body:Code} {Q:Exit→Act→World→Prop} {a:Act} {w:World} {l₀:Nat}
  (hl₀:∃ r,w.heap[l₀]?=some (.loop r))
  {gf:FuncId} {lb:Array Value} (hg:a.eval g=.func (.func gf) #[] lb) (eg:∀ args w,(callFunc gf args).run P w=.ok (.enter gf args) w)
  {enc:α→Array Value} {xs:List α} {D:Nat→Prop} {W0:World} (hY:zm0 P gf lb enc xs D W0)
  (hD:∀ k,D k→k<W0.heap.size∧w.heap[k]?=W0.heap[k]?) (hs:W0.heap.size≤w.heap.size) (hps:∀ x,(enc x).size=ps.size)
  (I:List α→(Nat→Prop)→World→Prop) (X:Code→List α→(Nat→Prop)→World→Prop) (J:List α→α→Act→(Nat→Prop)→World→Prop)
  (hI:zkJ I) (hX:∀ c,zkJ (X c)) (hJ:∀ pre x a,zkJ (fun (_:Unit)=>J pre x a)) (C0:Nat→Prop)
  (hC0:∀ k,C0 k→k<w.heap.size∧¬ D k) (h0:I [] C0 w)
  (hassign:∀ l pre x post C W1,xs=pre++x::post→Ext C0 C w W1→I pre C W1→¬ C l→w.heap.size≤l→(∃ r,W1.heap[l]?=some (.loop r)) →
   assign.wpIn (Fence.wide.inRound l) 0 P (Exit.then (fun a1 W2=>∃ C1,Ext C C1 W1 W2∧J pre x a1 C1 W2) (fun _ _ _=>False))
    { tmps:=(ps.zip (enc x)).foldl (fun t (p,v)=>t.setIfInBounds p v) a.tmps,defers:=[] } W1)
  (hbody:∀ l pre x post C W1 a1,xs=pre++x::post→Ext C0 C w W1→J pre x a1 C W1→¬ C l→w.heap.size≤l→(∃ r,W1.heap[l]?=some (.loop r)) →
   body.wpIn (Fence.wide.inRound l) 0 P (ztS I X (pre++[x]) C W1) a1 W1)
  (hdone:∀ (C:Nat→Prop) (W:World),Ext C0 C w W→I xs C W→Q .normal a W)
  (hstop:∀ (c:Code) (pre:List α) (x:α) (post:List α) (C:Nat→Prop) (W:World),xs=pre++x::post→Ext C0 C w W→X c (pre++[x]) C W→c.wpIn (Fence.wide.inRound l₀) 0 P Q a W) :
  (Code.rangeFunc g ps assign body).wpIn (Fence.wide.inRound l₀) 0 P Q a w:=by
 obtain ⟨r₀,hl₀⟩:=hl₀
 refine wpIn_rangeFunc ?_
 intro fn hfn
 obtain ⟨W1,hW1⟩:∃ W1,w.alloc (.loop { state:=.ready,pending:=none,fn,tmps:=a.tmps,params:=ps,assign,body,defers:=r₀.defers })=W1:=⟨_,rfl⟩
 have hL1:W1.heap[w.heap.size]?=some (.loop { state:=.ready,pending:=none,fn,tmps:=a.tmps,params:=ps,assign,body,defers:=r₀.defers }):=by
  rw [← hW1]; exact World.alloc_heap_new w _
 have hF1:Fr C0 w W1:=by rw [← hW1]; exact (Fr.refl C0 w).alloc _
 have hsz:W1.heap.size=w.heap.size+1:=by rw [← hW1]; simp
 have hold:∀ k,k<w.heap.size→W1.heap[k]?=w.heap[k]?:=fun k hk=>by rw [← hW1]; exact Below.heap_alloc _ _ _ hk
 have hI1:I [] C0 W1:=hI _ _ _ _ h0 hF1.size (fun k hk=>hold k (hC0 k hk).1)
 have hpull:∀ {C:Nat→Prop} {W2:World},Ext (fun k=>C0 k∨k=w.heap.size) (fun k=>C k∨k=w.heap.size) W1 W2→¬ C w.heap.size→Ext C0 C w W2:=by
  intro C W2 h hn
  refine ⟨hF1.trans' h.1 (fun i hi hc=>hc.resolve_right (by omega)),fun k hk => ?_⟩
  have h2:=h.1.size
  rcases h.2 k (.inl hk) with (h' | h') | h'
  ·exact .inl h'
  ·exact absurd (h' ▸ hk) hn
  ·exact .inr (by omega)
 refine ⟨w.heap.size,[],W1,{ target:=.fn (.func gf) lb,args:=#[.func (.yield w.heap.size) #[] #[]] },W1,gf,
  #[.func (.yield w.heap.size) #[] #[]]++lb,W1,?_,?_,?_,?_,fun h=>by simp [Fence.wide] at h,CallsIn.inRound l₀ (callsIn_wide.2 ?_)⟩
 ·rw [← hW1]; exact run_enterLoop_inner hl₀ _ _ _ _ _
 ·simp only [resolve,hg]
  simp [go_sem]
 ·intro f' hf'; trivial
 ·simp [invoke,go_sem,eg]
 ·refine (zlk hY hps I X J hI hX hJ C0 W1 w.heap.size hL1 (fun h=>by have:=(hC0 _ h).1; omega) (fun h=>by have:=(hD _ h).1; omega)
   (fun k hk=>⟨(hD k hk).1,(hold k (by have:=(hD k hk).1; omega)).trans (hD k hk).2⟩) (by omega) (fun k hk=>⟨by have:=(hC0 k hk).1; omega,(hC0 k hk).2⟩) hI1 ?_ ?_).mono ?_
  ·rintro pre x post C W2 hxs hext hi hn ⟨r,hr,_⟩
   exact hassign _ pre x post C W2 hxs (hpull hext hn) hi hn (by omega) ⟨r,hr⟩
  ·rintro pre x post C W2 a1 hxs hext hj hn ⟨r,hr,_⟩
   exact hbody _ pre x post C W2 a1 hxs (hpull hext hn) hj hn (by omega) ⟨r,hr⟩
  ·rintro e W2 ⟨⟨v,rfl⟩,C',st,pe,hext,hn,hr,hst,h⟩
   have q1:=hpull hext hn
   have e1:∀ o,Ext C0 C' w (W2.putObj w.heap.size o):=fun o=>⟨q1.1.putObj (.inr (by omega)) _,fun k hk=>by have:=q1.2 k hk; simpa using this⟩
   have hk1:∀ o,∀ k,C' k→(W2.putObj w.heap.size o).heap[k]?=W2.heap[k]?:=fun o k hk=>World.putObj_heap_other (by rintro rfl; exact hn hk)
   rcases h with ⟨rfl,hi⟩ | ⟨c,pre,x,post,rfl,hxs,hx⟩
   ·exact ⟨none,_,run_endLoop (P:=P) hr hst,hdone C' _ (e1 _) (hI _ _ _ _ hi (by simp) (hk1 _))⟩
   ·exact ⟨some c,_,run_endLoop (P:=P) hr hst,hstop c pre x post C' _ hxs (e1 _) (hX _ _ _ _ _ hx (by simp) (hk1 _))⟩
def zcK (l:List Nat):List Deferred:=l.map fun d=>{ target:=.collected d,args:=#[] }
theorem zjH {fn:Func} {tmps:Array Value} {R:Ending→World→Prop}:∀ (l:List Nat) (w:World),l.Nodup→(∀ d∈l,w.heap[d]?=some (.deferred (some []))) →
  (∀ w',Fr (fun k=>k∈l) w w'→w'.heap.size=w.heap.size→∃ v,(results fn tmps).run P w'=.ok v w'∧R (.returned v) w') →
  LeavesInM Fence.wide 0 P fn tmps R (zcK l) .returning w
 | [],w,_,_,h=>by
  obtain ⟨v,h1,h2⟩:=h w (Fr.refl _ _) rfl
  exact ⟨v,h1,h2⟩
 | d::l,w,hn,hd,h=>by
  have hnd:=List.nodup_cons.1 hn
  refine ⟨by simp,.inl ⟨d,_,rfl,run_takeDeferred (hd d (by simp)),?_⟩⟩
  refine zjH l _ hnd.2 (fun e he=>(World.putObj_heap_other (by rintro rfl; exact hnd.1 he)).trans (hd e (by simp [he]))) (fun w' hw hs => ?_)
  refine h w' ?_ (by rw [hs]; simp)
  exact ((Fr.refl _ _).putObj (.inl (by simp)) _).trans' hw (fun i _ hi=>by simp [hi])
theorem zge {f:FuncId} {fn:Func} {c:Code} {args:Array Value} {w:World} {R:Ending→World→Prop}
  (hf:P.funcs[f]?=some fn) (hb:fn.body=some c)
  (h:c.wpIn Fence.wide 0 P (bodyPostM Fence.wide 0 P fn R) { tmps:=args++Array.replicate (fn.ntmps - args.size) undef,defers:=[] } w):Calls P f args w R :=
 (callsIn_wide (n:=0)).1 (callsIn_of_wp_marks hf hb trivial h)
end
theorem Ext.sub {C C1 C2:Nat→Prop} {W W':World} (h:Ext C C1 W W') (hs:∀ k,C2 k→C1 k):Ext C C2 W W':=⟨h.1,fun k hk=>h.2 k (hs k hk)⟩
theorem Ext.below {C:Nat→Prop} {W W':World} (h:Below W.heap.size W W'):Ext C C W W':=zqv ((Fr.refl _ _).below h)
theorem zkD {w:World} {b j:Nat} {cs:Array Value} {t:TypeId} {fz:Nat×Nat} {v:Value} (h:w.heap[b]?=some (.cells cs t fz)) (hv:cs[j]?=some v):w.cell? ⟨b,j,none⟩=some v:=by
 simp [World.cell?,h,hv]
section
variable {α:Type} {enc:α→List Value} {size:Nat}
theorem zlS (hz:∀ x,(enc x).length=size) (L:List α):(L.flatMap enc).length=L.length*size:=by
 induction L with
 | nil=>simp
 | cons x L ih=>simp [ih,hz,Nat.add_mul]; omega
theorem zlT (hz:∀ x,(enc x).length=size):∀ (L:List α) (n j:Nat) (x:α),L[n]?=some x→j<size→(L.flatMap enc)[n*size+j]?=(enc x)[j]?
 | [],n,j,x,h,hj=>by simp at h
 | y::L,0,j,x,h,hj=>by
  simp at h; subst h
  simp only [List.flatMap_cons,Nat.zero_mul,Nat.zero_add]
  rw [List.getElem?_append_left (by rw [hz]; exact hj)]
 | y::L,n+1,j,x,h,hj=>by
  simp at h
  simp only [List.flatMap_cons]
  rw [List.getElem?_append_right (by rw [hz,Nat.add_mul]; omega),hz]
  have:(n+1)*size+j - size=n*size+j:=by rw [Nat.add_mul]; omega
  rw [this]
  exact zlT hz L n j x h hj
theorem zoi (hz:∀ x,(enc x).length=size):∀ (L:List α) (n j:Nat) (x y:α) (u:Value),L[n]?=some x→j<size→enc y=(enc x).set j u →
  (L.flatMap enc).set (n*size+j) u=(L.set n y).flatMap enc
 | [],n,j,x,y,u,h,hj,he=>by simp at h
 | z::L,0,j,x,y,u,h,hj,he=>by
  simp at h; subst h
  simp only [List.flatMap_cons,Nat.zero_mul,Nat.zero_add,List.set_cons_zero]
  rw [List.set_append_left _ _ (by rw [hz]; exact hj),he]
 | z::L,n+1,j,x,y,u,h,hj,he=>by
  simp at h
  simp only [List.flatMap_cons,List.set_cons_succ]
  rw [List.set_append_right _ _ (by rw [hz,Nat.add_mul]; omega),hz]
  have:(n+1)*size+j - size=n*size+j:=by rw [Nat.add_mul]; omega
  rw [this,zoi hz L n j x y u h hj he]
def Rw (enc:α→List Value) (w:World) (base:Nat) (e:TypeId) (size:Nat) (v:Value) (L:List α):Prop:=w.ownsRow base e size v L.length (L.flatMap enc)
theorem Rw.nil (w:World) (base:Nat) (e:TypeId):Rw enc w base e size (.slice none 0 0) ([]:List α):=World.ownsRow_nil w base e size
theorem Rw.shape {w:World} {base:Nat} {e:TypeId} {v:Value} {L:List α} (h:Rw enc w base e size v L) :
  (v=.slice none 0 0∧L=[])∨∃ g cap,v=.slice (some ⟨g,0,none⟩) L.length cap∧base≤g∧g<w.heap.size∧L.length≤cap∧cap≤maxLen:=by
 rcases h.2 with ⟨h1,h2⟩ | ⟨g,cap,cur,h1,h2,h3,h4,h5,_⟩
 ·exact .inl ⟨h1,List.eq_nil_of_length_eq_zero h2⟩
 ·exact .inr ⟨g,cap,h1,h2,(Array.getElem?_eq_some_iff.1 h3).1,h4,h5⟩
theorem Rw.cell {w:World} {base:Nat} {e:TypeId} {g cap:Nat} {L:List α} (hz:∀ x,(enc x).length=size) (h:Rw enc w base e size (.slice (some ⟨g,0,none⟩) L.length cap) L)
  {n:Nat} {x:α} (hx:L[n]?=some x) {j:Nat} {u:Value} (hj:j<size) (hu:(enc x)[j]?=some u):w.cell? ⟨g,n*size+j,none⟩=some u:=by
 have hn:n<L.length:=(List.getElem?_eq_some_iff.1 hx).1
 have hlt:n*size+j<L.length*size:=by
  have:(n+1)*size≤L.length*size:=Nat.mul_le_mul_right _ hn
  rw [Nat.add_mul] at this; omega
 rw [World.ownsRow.cellAt h _ hlt,zlT hz L n j x hx hj,hu]
theorem Rw.frozen {w:World} {base:Nat} {e:TypeId} {g n cap:Nat} {L:List α} (h:Rw enc w base e size (.slice (some ⟨g,0,none⟩) n cap) L) (hn:n=L.length) (j:Nat):w.frozen? ⟨g,j,none⟩=false:=by
 subst hn; exact World.ownsRow.frozenAt h j
theorem Rw.stored {w:World} {base:Nat} {e:TypeId} {g cap:Nat} {L:List α} (hz:∀ x,(enc x).length=size) (h:Rw enc w base e size (.slice (some ⟨g,0,none⟩) L.length cap) L)
  {n:Nat} {x:α} (hx:L[n]?=some x) {j:Nat} (hj:j<size) (y:α) {u:Value} (he:enc y=(enc x).set j u) :
  Rw enc (w.setCell ⟨g,n*size+j,none⟩ u) base e size (.slice (some ⟨g,0,none⟩) L.length cap) (L.set n y)∧w.grownBy (w.setCell ⟨g,n*size+j,none⟩ u) (some g):=by
 have:=World.ownsRow.stored h (n*size+j) u
 refine ⟨?_,this.2⟩
 have h1:=this.1
 rw [zoi hz L n j x y u hx hj he] at h1
 unfold Rw
 rw [List.length_set]
 exact h1
end
theorem Ext.drew {C C':Nat→Prop} {a w:World} (h:Ext C C' a w):Ext C C' a w.drew:=⟨h.1.drew,h.2⟩
theorem Ext.setCell {C C':Nat→Prop} {a w:World} (h:Ext C C' a w) {p:Addr} (hp:C' p.block) (u:Value):Ext C C' a (w.setCell p u):=by
 have hs:(w.setCell p u).heap.size=w.heap.size:=by simp [World.setCell]
 refine ⟨h.1.setCell ?_ u,fun k hk=>by rw [hs]; exact h.2 k hk⟩
 rcases h.2 _ hp with h' | h'
 ·exact .inl h'
 ·exact .inr h'.1
theorem Ext.toBelow {C C':Nat→Prop} {B:Nat} {w w':World} (h:Ext C C' w w') (hB:B≤w.heap.size) (hC:∀ k,k<B→¬ C k):Below B w w':=h.1.toBelow hB hC
theorem ziK {C:Nat→Prop} {w w':World} (h:Below w.heap.size w w'):Ext C C w w':=Ext.below h
def Vec {α:Type} (enc:α→List Value) (e:TypeId) (size:Nat) (v:Value) (L:List α) (C:Nat→Prop) (w:World):Prop :=
 Rw enc w 0 e size v L∧C=(fun k=>v.ownBlock=some k)
section
variable {α:Type} {enc:α→List Value} {size:Nat} {e:TypeId} {v:Value} {L:List α} {C:Nat→Prop} {w w':World}
theorem Vec.local (h:Vec enc e size v L C w) (hk:∀ k,C k→w'.heap[k]?=w.heap[k]?):Vec enc e size v L C w':=by
 obtain ⟨h1,rfl⟩:=h
 refine ⟨⟨h1.1,?_⟩,rfl⟩
 rcases h1.2 with hn | ⟨g,cap,cur,rfl,h5,h6,rest⟩
 ·exact .inl hn
 ·exact .inr ⟨g,cap,cur,rfl,h5,(hk g rfl).trans h6,rest⟩
theorem Vec.lt (h:Vec enc e size v L C w):∀ k,C k→k<w.heap.size:=by
 obtain ⟨h1,rfl⟩:=h
 exact fun k hk=>(World.ownsRow.lt h1 k hk).2
theorem Vec.nil:Vec enc e size (.slice none 0 0) ([]:List α) (fun _=>False) w:=⟨Rw.nil _ _ _,by funext k; simp [Value.ownBlock]⟩
theorem Vec.shape (h:Vec enc e size v L C w) :
  (v=.slice none 0 0∧L=[]∧C=fun _=>False)∨∃ g cap,v=.slice (some ⟨g,0,none⟩) L.length cap∧g<w.heap.size∧L.length≤cap∧cap≤maxLen∧C=(fun k=>k=g):=by
 obtain ⟨h1,rfl⟩:=h
 rcases h1.shape with ⟨rfl,h2⟩ | ⟨g,cap,rfl,_,h3,h4,h5⟩
 ·exact .inl ⟨rfl,h2,by funext k; simp [Value.ownBlock]⟩
 ·exact .inr ⟨g,cap,rfl,h3,h4,h5,by funext k; simp [Value.ownBlock]; exact ⟨fun h=>h.symm,fun h=>h.symm⟩⟩
theorem Vec.cell {g cap n:Nat} (hz:∀ x,(enc x).length=size) (h:Vec enc e size (.slice (some ⟨g,0,none⟩) n cap) L C w) (hn:n=L.length) {i:Nat} {x:α} (hx:L[i]?=some x) {j:Nat} {u:Value} (hj:j<size) (hu:(enc x)[j]?=some u) :
  w.cell? ⟨g,i*size+j,none⟩=some u:=by subst hn; exact h.1.cell hz hx hj hu
theorem Vec.frozen {g cap n:Nat} (h:Vec enc e size (.slice (some ⟨g,0,none⟩) n cap) L C w) (hn:n=L.length) (j:Nat):w.frozen? ⟨g,j,none⟩=false:=h.1.frozen hn j
end
theorem zhW {P:Program} (w:World) (base:Nat) (t ty e:TypeId) (i:TypeInfo) (z:Value) (size bytes:Nat) (ht:P.underlying t=some (.slice e)) (hi:P.info? e=some i) (hz:i.zero=some z)
  (hsize:i.size=size) (hby:i.bytes=bytes)
  (v:Value) (n:Nat) (xs:List Value) (hown:w.ownsRow base e size v n xs)
  (a:Addr) (m c:Nat) (news:List Value) (hl:news.length=m*size) (hnews:∀ j u,news[j]?=some u→w.cell? (a.add j)=some u) (h1:∀ u∈news,u.oneCell'=true)
  (h63:n+m≤maxLen) (hbytes:(n+m)*bytes≤140737488355328) {v':Value} {w':World}
  (hr':(Builtin.append_ #[t,t] ty #[v,.slice (some a) m c]).run P w=.ok v' w'):∀ g,v'.ownBlock=some g→v.ownBlock=some g∨(w.heap.size≤g):=by
 subst hsize
 subst hby
 have hsmall:n+m≤9223372036854775807:=by simp only [maxLen] at h63; omega
 rcases hown.2 with ⟨rfl,rfl⟩ | ⟨g,cap,cur,rfl,hbg,hg,hnc,hcm,hcs,htake⟩
 ·by_cases hm:m=0
  ·subst hm
   have hn:news=[]:=List.eq_nil_of_length_eq_zero (by simpa using hl)
   subst hn
   have h:(Builtin.append_ #[t,t] ty #[.slice none 0 0,.slice (some a) 0 c]).run P w=.ok (.slice none 0 0) w:=by
    simp [Builtin.append_,run_underlying ht,sizeOf,typeInfo,hi,Builtin.lenOf,Builtin.firstCells,loadCells,loadCellsFrom]
   rw [h] at hr'
   cases hr'
   simp [Value.ownBlock]
  ·have hr:=run_append_nil (P:=P) w t ty e i z ht hi hz a m c news hl hnews (by omega) (by omega) (by have hb:=hbytes; simp only [Nat.zero_add] at hb; omega)
   rw [hr] at hr'
   cases hr'
   intro g hg
   simp [Value.ownBlock] at hg
   exact .inr (by omega)
 ·by_cases hroom:n+m≤cap
  ·have hfit:n*i.size+news.length≤cur.size:=by rw [hl,hcs,← Nat.add_mul]; exact Nat.mul_le_mul_right _ hroom
   have hr:=run_append_room (P:=P) w t ty e i ht hi g n cap cur hg a m c news hl hnews h1 hroom hfit
   rw [hr] at hr'
   cases hr'
   intro g' hg'
   exact .inl (by simpa [Value.ownBlock] using hg')
  ·have holds:∀ j u,xs[j]?=some u→w.cell? ((⟨g,0,none⟩:Addr).add j)=some u:=hown.cells (g:=g) rfl
   have hr:=run_append_grow (P:=P) w t ty e i z ht hi hz ⟨g,0,none⟩ n cap xs hown.1 holds a m c news hl hnews (by omega) (by omega) (growslice_fits (by omega) hbytes)
   rw [hr] at hr'
   cases hr'
   intro g' hg'
   simp [Value.ownBlock] at hg'
   exact .inr (by omega)
theorem ziH {P:Program} (w:World) (base:Nat) (t u ty e:TypeId) (i:TypeInfo) (ht:P.underlying t=some (.slice e)) (hu:P.underlying u=some .string) (hi:P.info? e=some i) (hz:i.zero=some (.int .u8 0))
  (hsize:i.size=1) (hby:i.bytes=1)
  (v:Value) (n:Nat) (xs:List Value) (hown:w.ownsRow base e 1 v n xs) (s:zBA)
  (h63:n+s.size≤maxLen) (hbytes:n+s.size≤140737488355328) {v':Value} {w':World}
  (hr':(Builtin.append_ #[t,u] ty #[v,.string s]).run P w=.ok v' w'):∀ g,v'.ownBlock=some g→v.ownBlock=some g∨(w.heap.size≤g):=by
 have hsmall:n+s.size≤9223372036854775807:=by simp only [maxLen] at h63; omega
 have hxl:xs.length=n:=by simpa using hown.1
 rcases hown.2 with ⟨rfl,rfl⟩ | ⟨g,cap,cur,rfl,hbg,hg,hnc,hcm,hcs,htake⟩
 ·by_cases hm:s.size=0
  ·have hf:=run_firstCells_string (P:=P) w 1 s
   rw [hm] at hf
   have hn:strCells s=[]:=List.eq_nil_of_length_eq_zero (by rw [strCells_length]; exact hm)
   have h:(Builtin.append_ #[t,u] ty #[.slice none 0 0,.string s]).run P w=.ok (.slice none 0 0) w:=by
    simp [Builtin.append_,run_underlying ht,run_underlying hu,sizeOf,typeInfo,hi,hsize,Builtin.lenOf,hm,hf]
   rw [h] at hr'
   cases hr'
   simp [Value.ownBlock]
  ·have hr:=run_append_nil_string (P:=P) w t u ty e i (.int .u8 0) ht hu hi hz s (by omega) (by omega) (by rw [hby]; omega)
   rw [hr] at hr'
   cases hr'
   intro g hg
   simp [Value.ownBlock] at hg
   exact .inr (by omega)
 ·by_cases hroom:n+s.size≤cap
  ·have hcs':cur.size=cap:=by simpa using hcs
   have hr:=run_append_room_string (P:=P) w t u ty e i ht hu hi hsize g n cap cur hg s hroom (by omega)
   rw [hr] at hr'
   cases hr'
   intro g' hg'
   exact .inl (by simpa [Value.ownBlock] using hg')
  ·have holds:∀ j u,xs[j]?=some u→w.cell? ((⟨g,0,none⟩:Addr).add j)=some u:=hown.cells (g:=g) rfl
   have hr:=run_append_grow_string (P:=P) w t u ty e i (.int .u8 0) ht hu hi hz ⟨g,0,none⟩ n cap xs (by rw [hsize]; omega) holds s (by omega) (by omega) (growslice_fits (by omega) (by rw [hby]; omega))
   rw [hr] at hr'
   cases hr'
   intro g' hg'
   simp [Value.ownBlock] at hg'
   exact .inr (by omega)
theorem zgz {w w':World} {v v':Value} (hg:w.grownBy w' v.ownBlock) (hb:∀ g,v'.ownBlock=some g→v.ownBlock=some g∨w.heap.size≤g) (hlt:∀ g,v'.ownBlock=some g→g<w'.heap.size) :
  Ext (fun k=>v.ownBlock=some k) (fun k=>v'.ownBlock=some k) w w' :=
 ⟨(Fr.refl _ _).grown hg (fun r hr=>.inl hr),fun k hk=>(hb k hk).imp id (fun h=>⟨h,hlt k hk⟩)⟩
section
variable {F:Fence} {n:Nat} {P:Program}
theorem zkV {α:Type} {enc:α→List Value} {size:Nat} (w:World) (t ty e:TypeId) (i:TypeInfo) (z:Value) (bytes:Nat) (ht:P.underlying t=some (.slice e)) (hi:P.info? e=some i) (hz:i.zero=some z)
  (hsize:i.size=size) (hby:i.bytes=bytes) (hzs:z.cells.size=size) (hsz:0<size) (hlen:∀ x,(enc x).length=size) (h1:∀ x,∀ u∈enc x,u.oneCell'=true)
  (v:Value) (L:List α) (C:Nat→Prop) (hown:Vec enc e size v L C w) (ys:List α) (b c:Nat)
  (e':TypeId) (fz:Nat×Nat) (hb:w.heap[b]?=some (.cells (ys.flatMap enc).toArray e' fz)) (hn:L.length+ys.length≤2147483648) (hbytes:bytes≤65536) :
  ∃ v' w',(Builtin.append_ #[t,t] ty #[v,.slice (some ⟨b,0,none⟩) ys.length c]).run P w=.ok v' w'∧∃ C',Vec enc e size v' (L++ys) C' w'∧Ext C C' w w':=by
 obtain ⟨hown,rfl⟩:=hown
 have hl:(ys.flatMap enc).length=ys.length*size:=zlS hlen ys
 have hnews:∀ j u,(ys.flatMap enc)[j]?=some u→w.cell? ((⟨b,0,none⟩:Addr).add j)=some u:=by
  intro j u hu
  have hadd:(⟨b,0,none⟩:Addr).add j=⟨b,j,none⟩:=by unfold Addr.add; split <;> simp_all
  rw [hadd,zkD hb (v:=u) (by simpa using hu)]
 have h1':∀ u∈ys.flatMap enc,u.oneCell'=true:=by
  intro u hu
  obtain ⟨x,hx,hu⟩:=List.mem_flatMap.1 hu
  exact h1 x u hu
 have hbb:(L.length+ys.length)*bytes≤140737488355328:=by
  have:(L.length+ys.length)*bytes≤2147483648*65536:=Nat.mul_le_mul (by omega) hbytes
  omega
 obtain ⟨v',w',hr,r1,r2,_⟩:=run_append_own (P:=P) w 0 t ty e i z size bytes ht hi hz hsize hby hzs hsz v L.length (L.flatMap enc) hown ⟨b,0,none⟩ ys.length c (ys.flatMap enc) hl hnews h1' (by simp [maxLen]; omega) hbb (Nat.zero_le _)
 have hbl:=zhW (P:=P) w 0 t ty e i z size bytes ht hi hz hsize hby v L.length (L.flatMap enc) hown ⟨b,0,none⟩ ys.length c (ys.flatMap enc) hl hnews h1' (by simp [maxLen]; omega) hbb hr
 have hR:Rw enc w' 0 e size v' (L++ys):=by
  unfold Rw; rw [List.length_append,List.flatMap_append]; exact r1
 exact ⟨v',w',hr,_,⟨hR,rfl⟩,zgz r2 hbl (fun g hg=>(World.ownsRow.lt hR g hg).2)⟩
end
theorem zjF (a b:zBA):strCells (a++b)=strCells a++strCells b:=by
 unfold strCells; rw [ByteArray.data_append]; simp
def Byt (e:TypeId) (v:Value) (b:zBA) (C:Nat→Prop) (w:World):Prop:=w.ownsRow 0 e 1 v b.size (strCells b)∧C=(fun k=>v.ownBlock=some k)
section
variable {e:TypeId} {v:Value} {b:zBA} {C:Nat→Prop} {w w':World}
theorem Byt.local (h:Byt e v b C w) (hk:∀ k,C k→w'.heap[k]?=w.heap[k]?):Byt e v b C w':=by
 obtain ⟨h1,rfl⟩:=h
 refine ⟨⟨h1.1,?_⟩,rfl⟩
 rcases h1.2 with hn | ⟨g,cap,cur,rfl,h5,h6,rest⟩
 ·exact .inl hn
 ·exact .inr ⟨g,cap,cur,rfl,h5,(hk g rfl).trans h6,rest⟩
theorem Byt.lt (h:Byt e v b C w):∀ k,C k→k<w.heap.size:=by
 obtain ⟨h1,rfl⟩:=h
 exact fun k hk=>(World.ownsRow.lt h1 k hk).2
theorem Byt.nil:Byt e (.slice none 0 0) ⟨#[]⟩ (fun _=>False) w:=⟨World.ownsRow_nil w 0 e 1,by funext k; simp [Value.ownBlock]⟩
theorem Byt.conv {P:Program} (h:Byt e v b C w) (src dst:TypeId) (hs:P.underlying src=some (.slice e)) (he:P.underlying e=some (.int .u8)) (hd:P.underlying dst=some .string) :
  (convert src dst v).run P w=.ok (.string b) w:=by
 obtain ⟨h,-⟩:=h
 rcases h.2 with ⟨rfl,h2⟩ | ⟨g,cap,cur,rfl,_,_,_⟩
 ·have hb:b=⟨#[]⟩:=by
   apply ByteArray.ext; exact Array.eq_empty_of_size_eq_zero h2
  rw [hb]; exact run_convert_nil_bytes w src dst e 0 hs he hd
 ·have hl:b.data.toList.length=b.size:=by rw [Array.length_toList]; rfl
  have:=run_convert_bytes_back (P:=P) w src dst e ⟨g,0,none⟩ cap b.data.toList hs he hd (fun j hj=>by
   refine World.ownsRow.cells h rfl j _ ?_
   unfold strCells; rw [List.getElem?_map,List.getElem?_eq_getElem hj]; rfl)
  rw [hl] at this
  rw [this]
end
section
variable {F:Fence} {n:Nat} {P:Program}
theorem zkW (w:World) (t u ty e:TypeId) (i:TypeInfo) (ht:P.underlying t=some (.slice e)) (hu:P.underlying u=some .string) (hi:P.info? e=some i) (hz:i.zero=some (.int .u8 0))
  (hsize:i.size=1) (hby:i.bytes=1) (v:Value) (b:zBA) (C:Nat→Prop) (hown:Byt e v b C w) (s:zBA) (hn:b.size+s.size≤140737488355328) :
  ∃ v' w',(Builtin.append_ #[t,u] ty #[v,.string s]).run P w=.ok v' w'∧∃ C',Byt e v' (b++s) C' w'∧Ext C C' w w':=by
 obtain ⟨hown,rfl⟩:=hown
 obtain ⟨v',w',hr,r1,r2,_⟩:=run_append_own_string (P:=P) w 0 t u ty e i ht hu hi hz hsize hby v b.size (strCells b) hown s (by simp [maxLen]; omega) hn (Nat.zero_le _)
 have hbl:=ziH (P:=P) w 0 t u ty e i ht hu hi hz hsize hby v b.size (strCells b) hown s (by simp [maxLen]; omega) hn hr
 have hR:w'.ownsRow 0 e 1 v' (b++s).size (strCells (b++s)):=by rw [zjF,ByteArray.size_append]; exact r1
 exact ⟨v',w',hr,_,⟨hR,rfl⟩,zgz r2 hbl (fun g hg=>(World.ownsRow.lt hR g hg).2)⟩
theorem zki (w:World) (t ty e:TypeId) (i:TypeInfo) (ht:P.underlying t=some (.slice e)) (hi:P.info? e=some i) (hz:i.zero=some (.int .u8 0))
  (hsize:i.size=1) (hby:i.bytes=1) (v:Value) (b:zBA) (C:Nat→Prop) (hown:Byt e v b C w) (ys:zBA) (blk c:Nat) (e':TypeId) (fz:Nat×Nat)
  (hb:w.heap[blk]?=some (.cells (strCells ys).toArray e' fz)) (hn:b.size+ys.size≤140737488355328) :
  ∃ v' w',(Builtin.append_ #[t,t] ty #[v,.slice (some ⟨blk,0,none⟩) ys.size c]).run P w=.ok v' w'∧∃ C',Byt e v' (b++ys) C' w'∧Ext C C' w w':=by
 obtain ⟨hown,rfl⟩:=hown
 have hl:(strCells ys).length=ys.size*1:=by rw [strCells_length]; omega
 have hnews:∀ j u,(strCells ys)[j]?=some u→w.cell? ((⟨blk,0,none⟩:Addr).add j)=some u:=by
  intro j u hu
  have hadd:(⟨blk,0,none⟩:Addr).add j=⟨blk,j,none⟩:=by unfold Addr.add; split <;> simp_all
  rw [hadd,zkD hb (v:=u) (by simpa using hu)]
 obtain ⟨v',w',hr,r1,r2,_⟩:=run_append_own (P:=P) w 0 t ty e i (.int .u8 0) 1 1 ht hi hz hsize hby rfl (by omega) v b.size (strCells b) hown ⟨blk,0,none⟩ ys.size c (strCells ys) hl hnews (strCells_oneCell ys) (by simp [maxLen]; omega) (by omega) (Nat.zero_le _)
 have hbl:=zhW (P:=P) w 0 t ty e i (.int .u8 0) 1 1 ht hi hz hsize hby v b.size (strCells b) hown ⟨blk,0,none⟩ ys.size c (strCells ys) hl hnews (strCells_oneCell ys) (by simp [maxLen]; omega) (by omega) hr
 have hR:w'.ownsRow 0 e 1 v' (b++ys).size (strCells (b++ys)):=by rw [zjF,ByteArray.size_append]; exact r1
 exact ⟨v',w',hr,_,⟨hR,rfl⟩,zgz r2 hbl (fun g hg=>(World.ownsRow.lt hR g hg).2)⟩
def zdA (o:Oper):List Nat:=(o.after.toList.filter (Region.binds .any)).map (·.on)
def RegSteps (F:Fence) (n:Nat) (P:Program) (ops:Array Oper) (Q:Exit→Act→World→Prop) (Inv:(Nat→Prop)→Act→World→Prop):List Oper→Nat→Prop
 | [],_=>True
 | o::rest,i=>(∀ D a w,¬ D i→(∀ j∈zdA o,D j)→Inv D a w→wpListIn F n P ops (Exit.then (Inv (fun j=>D j∨j=i)) Q) [o] a w)∧RegSteps F n P ops Q Inv rest (i+1)
theorem RegSteps.get {ops:Array Oper} {Q:Exit→Act→World→Prop} {Inv:(Nat→Prop)→Act→World→Prop}:∀ {l:List Oper} {k:Nat},RegSteps F n P ops Q Inv l k→∀ i o,l[i]?=some o →
  (∀ D a w,¬ D (k+i)→(∀ j∈zdA o,D j)→Inv D a w→wpListIn F n P ops (Exit.then (Inv (fun j=>D j∨j=k+i)) Q) [o] a w)
 | [],_,_,i,o,ho=>by simp at ho
 | x::l,k,h,0,o,ho=>by simp at ho; subst ho; exact h.1
 | x::l,k,h,i+1,o,ho=>by
  have:=RegSteps.get h.2 i o (by simpa using ho)
  rwa [show k+1+i=k+(i+1) by omega] at this
theorem zck {ops:Array Oper} {Q:Exit→Act→World→Prop} {o:Oper} {K K':Act→World→Prop} {a:Act} {w:World} (h:∀ a w,K a w→K' a w)
  (hh:wpListIn F n P ops (Exit.then K Q) [o] a w):wpListIn F n P ops (Exit.then K' Q) [o] a w:=by
 simp only [wpListIn] at hh ⊢
 split
 ·rename_i hw
  rw [if_pos hw] at hh
  unfold Oper.wpIn at hh ⊢
  refine ⟨hh.1,?_⟩
  have hh:=hh.2
  generalize (o.semAt F.round a.eval).run P w=r at *
  cases r with
  | ok x w' =>
   cases x <;> simp only [Oper.uponIn] at hh ⊢ <;>
    first
     | exact h _ _ hh
     | exact ⟨hh.1,CallsIn.mono hh.2 (fun e w'' he=>by cases e <;> first | exact h _ _ he | exact he)⟩
     | exact ⟨hh.1,RowsIn.mono hh.2 (fun _ _ he=>h _ _ he)⟩
     | exact ⟨hh.1,RoundIn.mono hh.2 (fun e w'' he=>by cases e <;> first | exact h _ _ he | exact he)⟩
     | exact hh
  | halt x w'=>cases x <;> simp only [Oper.uponIn] at hh ⊢ <;> exact hh
 ·rename_i hw
  rw [if_neg hw] at hh
  exact ⟨hh.1,h _ _ hh.2⟩
theorem zlB {ops:Array Oper} {Q:Exit→Act→World→Prop} {i:Nat} {o:Oper} {K:Act→World→Prop} {a:Act} {w:World} (ho:ops[i]?=some o)
  (h:wpListIn F n P ops (Exit.then K Q) [o] a w):wpOpIn F n P ops Q i K a w:=by
 unfold wpOpIn
 rw [ho]
 simp only [wpListIn] at h
 show (if _ then _ else _)
 split
 ·rename_i hw
  rw [if_pos hw] at h
  have hh:=h
  unfold Oper.wpIn at hh ⊢
  refine ⟨hh.1,?_⟩
  have hh:=hh.2
  generalize (o.semAt F.round a.eval).run P w=r at *
  cases r with
  | ok x w' =>
   cases x <;> simp only [Oper.uponIn] at hh ⊢ <;>
    first
     | exact hh
     | exact ⟨hh.1,CallsIn.mono hh.2 (fun e w'' he=>by cases e <;> exact he)⟩
     | exact ⟨hh.1,RowsIn.mono hh.2 (fun _ _ he=>he)⟩
     | exact ⟨hh.1,RoundIn.mono hh.2 (fun e w'' he=>by cases e <;> exact he)⟩
  | halt x w'=>cases x <;> simp only [Oper.uponIn] at hh ⊢ <;> exact hh
 ·rename_i hw
  rw [if_neg hw] at h
  exact h
theorem zk1 (m j:Nat):(Array.replicate m false).getD j false=false:=by
 simp only [Array.getD]; split <;> simp
theorem zlq:∀ (l:List Bool) (i:Nat),l[i]?=some false→((l.set i true).filter id).length=(l.filter id).length+1
 | [],i,h=>by simp at h
 | x::l,0,h=>by simp at h; subst h; simp
 | x::l,i+1,h=>by
  have:=zlq l i (by simpa using h)
  cases x <;> simp [this]
theorem zqa (A:Array Bool) (i:Nat) (hl:i<A.size) (h:A.getInternal i hl=false):((A.setIfInBounds i true).toList.filter id).length=(A.toList.filter id).length+1:=by
 rw [Array.toList_setIfInBounds]
 refine zlq _ _ ?_
 have h4:A[i]=false:=h
 simp [hl,h4]
theorem zne {ops:Array Oper} {Q:Exit→Act→World→Prop} {Inv:(Nat→Prop)→Act→World→Prop}
  (hlt:(ops.toList.zipIdx.all fun (o,i)=>(zdA o).all fun j=>decide (j<i))=true) (hst:RegSteps F n P ops Q Inv ops.toList 0)
  (hend:∀ D a w,(∀ i<ops.size,D i)→Inv D a w→Q .normal a w):∀ (zc9:Nat) (listed:Array Bool) (a:Act) (w:World),
  listed.size=ops.size→(ops.size≤zc9+(listed.toList.filter id).length)→Inv (fun j=>listed.getD j false=true) a w→wpAnyIn F n P .any ops Q zc9 listed a w:=by
 have hnil:∀ (listed:Array Bool),listed.size=ops.size→Region.ready .any ops listed=[]→∀ i<ops.size,listed.getD i false=true:=by
  intro listed hsz hr i
  induction i using Nat.strongRecOn with
  | _ i ih =>
   intro hi
   rcases hb:listed.getD i false with _ | _
   ·exfalso
    have hb':listed.getD i true=false:=by
     have hlt:i<listed.size:=by omega
     simp only [Array.getD,hlt,dif_pos] at hb ⊢
     exact hb
    have:i∈Region.ready .any ops listed:=by
     refine mem_ready.2 ⟨hb',ops[i],Array.getElem?_eq_getElem hi,fun e he hbe => ?_⟩
     have h1:=List.all_eq_true.1 hlt (ops[i],i) (by
      rw [List.mem_zipIdx_iff_getElem?]; simp [Array.getElem?_eq_getElem hi])
     have h2:=List.all_eq_true.1 h1 e.on (by
      unfold zdA
      exact List.mem_map.2 ⟨e,List.mem_filter.2 ⟨by simpa using he,hbe⟩,rfl⟩)
     have h3:e.on<i:=by simpa using h2
     exact ih e.on h3 (by omega)
    rw [hr] at this
    cases this
   ·rfl
 intro zc9
 induction zc9 with
 | zero =>
  intro listed a w hsz hf hi
  have hle:(listed.toList.filter id).length=listed.toList.length:=by
   have:=List.length_filter_le id listed.toList
   simp only [Array.length_toList] at *
   omega
  have hall:∀ b∈listed.toList,id b=true:=List.length_filter_eq_length_iff.1 hle
  have hall':∀ i<ops.size,listed.getD i false=true:=by
   intro i hi
   have hl:i<listed.size:=by omega
   simp only [Array.getD,hl,dif_pos]
   exact hall _ (by simp)
  refine ⟨?_,hend _ a w hall' hi⟩
  refine List.eq_nil_iff_forall_not_mem.2 fun i hm => ?_
  have:=(mem_ready.1 hm).1
  have h2:i<ops.size:=by
   obtain ⟨o,ho,_⟩:=(mem_ready.1 hm).2
   exact (Array.getElem?_eq_some_iff.1 ho).1
  have h3:=hall' i h2
  have hl:i<listed.size:=by omega
  simp only [Array.getD,hl,dif_pos] at this h3
  have h4:listed[i]=false:=this
  have h5:listed[i]=true:=h3
  rw [h4] at h5; cases h5
 | succ zc9 ih =>
  intro listed a w hsz hf hi
  refine ⟨fun hr=>hend _ a w (hnil listed hsz hr) hi,fun i hm => ?_⟩
  obtain ⟨hli,o,ho,hdep⟩:=mem_ready.1 hm
  have hio:i<ops.size:=(Array.getElem?_eq_some_iff.1 ho).1
  have hl:i<listed.size:=by omega
  have hlf:¬ listed.getD i false=true:=by
   simp only [Array.getD,hl,dif_pos] at hli ⊢
   show ¬ listed[i]=true
   have h4:listed[i]=false:=hli
   rw [h4]; simp
  have hstep:=hst.get i o (by simpa using ho) (fun j=>listed.getD j false=true) a w (by simpa using hlf) (fun j hj=>by
   obtain ⟨e,he,rfl⟩:=List.mem_map.1 (show j∈((o.after.toList.filter (Region.binds .any)).map (·.on)) from hj)
   obtain ⟨he1,he2⟩:=List.mem_filter.1 he
   exact hdep e (by simpa using he1) he2) hi
  refine wpOpIn_mono (fun a' w' hinv => ?_) (zlB ho hstep)
  refine ih _ a' w' (by simp [hsz]) ?_ ?_
  ·have h1:=zqa listed i hl (by simpa only [Array.getD,hl,dif_pos] using hli)
   omega
  ·have he:(fun j=>(listed.setIfInBounds i true).getD j false=true)=(fun j=>listed.getD j false=true∨j=0+i):=by
    funext j
    apply propext
    by_cases hji:j=i
    ·subst hji
     simp [Array.getD,hl]
    ·have hij:i≠j:=fun h=>hji h.symm
     simp only [Nat.zero_add,hji,or_false]
     rw [getD_set_ne false hij]
   rw [he]
   exact hinv
theorem zgi {id:Nat} {ops:Array Oper} {Q:Exit→Act→World→Prop} {a:Act} {w:World} (hm:P.follows .mixedOrders=true)
  (hlt:(ops.toList.zipIdx.all fun (o,i)=>(zdA o).all fun j=>decide (j<i))=true)
  (Inv:(Nat→Prop)→Act→World→Prop) (h0:Inv (fun _=>False) a w.drew) (hst:RegSteps F n P ops Q Inv ops.toList 0)
  (hend:∀ D a w,(∀ i<ops.size,D i)→Inv D a w→Q .normal a w):(Code.region id ops true).wpIn F n P Q a w:=by
 refine wpIn_region_any hm (zne hlt hst hend ops.size _ a _ (by simp) (by omega) ?_)
 have he:(fun j=>(Array.replicate ops.size false).getD j false=true)=(fun _=>False):=by
  funext j
  rw [zk1]; simp
 rw [he]
 exact h0
def Clo (ops:Array Oper) (D:Nat→Prop):Prop:=∀ i o,ops[i]?=some o→D i→∀ j∈zdA o,D j
theorem Clo.add {ops:Array Oper} {D:Nat→Prop} {i:Nat} {o:Oper} (h:Clo ops D) (ho:ops[i]?=some o) (hd:∀ j∈zdA o,D j):Clo ops (fun j=>D j∨j=i):=by
 intro k o' ho' hk j hj
 rcases hk with hk | rfl
 ·exact .inl (h k o' ho' hk j hj)
 ·rw [ho] at ho'; cases ho'; exact .inl (hd j hj)
end
structure Asn where
 P:(Nat→Prop)→World→Prop
 lt:∀ {C w},P C w→∀ k,C k→k<w.heap.size
 loc:∀ {C w w'},P C w→w.heap.size≤w'.heap.size→(∀ k,C k→w'.heap[k]?=w.heap[k]?)→P C w'
def emp:Asn:=⟨fun C _=>∀ k,¬ C k,fun h k hk=>absurd hk (h k),fun h _ _=>h⟩
def obj (b:Nat) (o:Obj):Asn :=
 ⟨fun C w=>(∀ k,C k↔k=b)∧w.heap[b]?=some o,fun h k hk=>(h.1 k).1 hk ▸ zdn h.2,fun h _ hk=>⟨h.1,(hk b ((h.1 b).2 rfl)).trans h.2⟩⟩
def cells (b:Nat) (l:List Value) (t:TypeId):Asn:=obj b (.cells l.toArray t (0,0))
def fact (p:Prop):Asn:=⟨fun C _=>(∀ k,¬ C k)∧p,fun h k hk=>absurd hk (h.1 k),fun h _ _=>h⟩
def sepL:List Asn→(Nat→Prop)→World→Prop
 | [],C,_=>∀ k,¬ C k
 | A::L,C,w=>∃ C1 C2,A.P C1 w∧sepL L C2 w∧(∀ k,C1 k→¬ C2 k)∧(∀ k,C k↔C1 k∨C2 k)
theorem sepL.lt:∀ {L:List Asn} {C:Nat→Prop} {w:World},sepL L C w→∀ k,C k→k<w.heap.size
 | [],C,w,h,k,hk=>absurd hk (h k)
 | A::L,C,w,⟨C1,C2,h1,h2,_,h4⟩,k,hk=>by
  rcases (h4 k).1 hk with h | h
  ·exact A.lt h1 k h
  ·exact sepL.lt h2 k h
theorem sepL.loc:∀ {L:List Asn} {C:Nat→Prop} {w w':World},sepL L C w→w.heap.size≤w'.heap.size→(∀ k,C k→w'.heap[k]?=w.heap[k]?)→sepL L C w'
 | [],C,w,w',h,_,_=>h
 | A::L,C,w,w',⟨C1,C2,h1,h2,h3,h4⟩,hs,hk =>
  ⟨C1,C2,A.loc h1 hs (fun k h=>hk k ((h4 k).2 (.inl h))),sepL.loc h2 hs (fun k h=>hk k ((h4 k).2 (.inr h))),h3,h4⟩
theorem sepL.congr {L:List Asn} {C C':Nat→Prop} {w:World} (h:sepL L C w) (hc:∀ k,C' k↔C k):sepL L C' w:=by
 have:C'=C:=funext fun k=>propext (hc k)
 rw [this]; exact h
def zc0 (L:List Asn):Asn:=⟨sepL L,sepL.lt,sepL.loc⟩
def Splits (L As R:List Asn):Prop:=∀ C w,sepL L C w→∃ C1 C2,sepL As C1 w∧sepL R C2 w∧(∀ k,C1 k→¬ C2 k)∧(∀ k,C k↔C1 k∨C2 k)
theorem sepL.take:∀ {L:List Asn} {k:Nat} {A:Asn} {C:Nat→Prop} {w:World},L[k]?=some A→sepL L C w →
  ∃ C1 C2,A.P C1 w∧sepL (L.set k emp) C2 w∧(∀ k,C1 k→¬ C2 k)∧(∀ k,C k↔C1 k∨C2 k)
 | B::L,0,A,C,w,hk,⟨C1,C2,h1,h2,h3,h4⟩=>by
  simp at hk; subst hk
  exact ⟨C1,C2,h1,⟨fun _=>False,C2,fun _ h=>h,h2,fun _ h=>h.elim,fun k=>by simp⟩,h3,h4⟩
 | B::L,k+1,A,C,w,hk,⟨C1,C2,h1,h2,h3,h4⟩=>by
  obtain ⟨D1,D2,g1,g2,g3,g4⟩:=sepL.take (L:=L) (k:=k) (by simpa using hk) h2
  refine ⟨D1,fun j=>C1 j∨D2 j,g1,⟨C1,D2,h1,g2,fun j h h'=>h3 j h ((g4 j).2 (.inr h')),fun j=>Iff.rfl⟩,fun j h h' => ?_,fun j => ?_⟩
  ·rcases h' with h' | h'
   ·exact h3 j h' ((g4 j).2 (.inl h))
   ·exact g3 j h h'
  ·rw [h4,g4]; exact or_left_comm
theorem sepL.put:∀ {L:List Asn} {k:Nat} {A:Asn} {C1 C2 C:Nat→Prop} {w:World},k<L.length→A.P C1 w→sepL (L.set k emp) C2 w→(∀ k,C1 k→¬ C2 k)→(∀ k,C k↔C1 k∨C2 k)→sepL (L.set k A) C w
 | B::L,0,A,C1,C2,C,w,hk,hA,⟨D1,D2,g1,g2,g3,g4⟩,h3,h4=>by
  have e:∀ k,C2 k↔D2 k:=fun k=>by rw [g4]; constructor; exact fun h=>h.resolve_left (g1 k); exact .inr
  exact ⟨C1,C2,hA,g2.congr e,h3,h4⟩
 | B::L,k+1,A,C1,C2,C,w,hk,hA,⟨D1,D2,g1,g2,g3,g4⟩,h3,h4=>by
  refine ⟨D1,fun j=>C1 j∨D2 j,g1,sepL.put (L:=L) (k:=k) (by simpa using hk) hA g2 (fun j h h'=>h3 j h ((g4 j).2 (.inr h'))) (fun j=>Iff.rfl),fun j h h' => ?_,fun j => ?_⟩
  ·rcases h' with h' | h'
   ·exact h3 j h' ((g4 j).2 (.inl h))
   ·exact g3 j h h'
  ·rw [h4,g4]; exact or_left_comm
theorem Splits.nil {L:List Asn}:Splits L [] L:=fun C w h=>⟨fun _=>False,C,fun _ h=>h,h,fun _ h=>h.elim,fun k=>by simp⟩
theorem Splits.cons {L As R:List Asn} {k:Nat} {A:Asn} (hk:L[k]?=some A) (h:Splits (L.set k emp) As R):Splits L (A::As) R:=by
 intro C w hL
 obtain ⟨C1,C2,h1,h2,h3,h4⟩:=sepL.take hk hL
 obtain ⟨D1,D2,g1,g2,g3,g4⟩:=h C2 w h2
 refine ⟨fun j=>C1 j∨D1 j,D2,⟨C1,D1,h1,g1,fun j h h'=>h3 j h ((g4 j).2 (.inl h')),fun j=>Iff.rfl⟩,g2,fun j h h' => ?_,fun j => ?_⟩
 ·rcases h with h | h
  ·exact h3 j h ((g4 j).2 (.inr h'))
  ·exact g3 j h h'
 ·rw [h4,g4,or_assoc]
theorem zm9 {L As Bs R:List Asn} {k:Nat} (hk:L[k]?=some (zc0 As)) (h:Splits (L.set k emp) Bs R):Splits L (As++Bs) R:=by
 intro C w hL
 obtain ⟨C1,C2,h1,h2,h3,h4⟩:=sepL.take hk hL
 obtain ⟨D1,D2,g1,g2,g3,g4⟩:=h C2 w h2
 have cat:∀ {A B:List Asn} {C1 C2:Nat→Prop} {w:World},sepL A C1 w→sepL B C2 w→(∀ k,C1 k→¬ C2 k)→sepL (A++B) (fun k=>C1 k∨C2 k) w:=by
  intro A
  induction A with
  | nil=>intro B C1 C2 w h1 h2 h3; exact h2.congr (fun k=>⟨fun h=>h.resolve_left (h1 k),.inr⟩)
  | cons A L ih =>
   rintro B C1 C2 w ⟨D1,D2,g1,g2,g3,g4⟩ h2 h3
   exact ⟨D1,fun k=>D2 k∨C2 k,g1,ih g2 h2 (fun k h=>h3 k ((g4 k).2 (.inr h))),fun k h h'=>h'.elim (g3 k h) (h3 k ((g4 k).2 (.inl h))),fun k=>by show C1 k∨C2 k↔_; rw [g4,or_assoc]⟩
 refine ⟨fun j=>C1 j∨D1 j,D2,cat h1 g1 (fun j h h'=>h3 j h ((g4 j).2 (.inl h'))),g2,fun j h h' => ?_,fun j => ?_⟩
 ·rcases h with h | h
  ·exact h3 j h ((g4 j).2 (.inr h'))
  ·exact g3 j h h'
 ·rw [h4,g4,or_assoc]
theorem zaT {L As:List Asn} {k:Nat} (hk:L[k]?=some (zc0 As)):Splits L As (L.set k emp):=by
 have:=zm9 hk Splits.nil
 rwa [List.append_nil] at this
def zvi (L:List Asn):List Nat→List Asn
 | []=>L
 | k::ks=>zvi (L.set k emp) ks
def zf5 (L:List Asn):List Nat→Option (List Asn)
 | []=>some []
 | k::ks=>match L[k]?,zf5 L ks with
  | some A,some As=>some (A::As)
  | _,_=>none
def zh4:List Nat→Bool
 | []=>true
 | k::ks=>!ks.contains k&&zh4 ks
theorem ziz {L:List Asn} {k:Nat} {B:Asn}:∀ {ks:List Nat},ks.contains k=false→zf5 (L.set k B) ks=zf5 L ks
 | [],_=>rfl
 | j::ks,h=>by
  simp only [List.contains_cons,Bool.or_eq_false_iff] at h
  have hne:k≠j:=by have:=h.1; simp at this; exact this
  simp only [zf5,ziz (ks:=ks) h.2,List.getElem?_set_ne hne]
theorem zaa {L As:List Asn}:∀ (ks:List Nat),zf5 L ks=some As→zh4 ks=true→Splits L As (zvi L ks):=by
 intro ks
 induction ks generalizing L As with
 | nil=>intro h _; simp only [zf5,Option.some.injEq] at h; subst h; exact Splits.nil
 | cons k ks ih =>
  intro h hd
  simp only [zh4,Bool.and_eq_true,Bool.not_eq_true'] at hd
  simp only [zf5] at h
  split at h
  ·rename_i A As' h1 h2
   cases h
   exact Splits.cons h1 (ih (by rw [ziz hd.1]; exact h2) hd.2)
  ·cases h
theorem sepL.append:∀ {A B:List Asn} {C1 C2:Nat→Prop} {w:World},sepL A C1 w→sepL B C2 w→(∀ k,C1 k→¬ C2 k)→sepL (A++B) (fun k=>C1 k∨C2 k) w
 | [],B,C1,C2,w,h1,h2,h3=>h2.congr (fun k=>⟨fun h=>h.resolve_left (h1 k),.inr⟩)
 | A::L,B,C1,C2,w,⟨D1,D2,g1,g2,g3,g4⟩,h2,h3 =>
  ⟨D1,fun k=>D2 k∨C2 k,g1,sepL.append g2 h2 (fun k h=>h3 k ((g4 k).2 (.inr h))),fun k h h'=>h'.elim (g3 k h) (h3 k ((g4 k).2 (.inl h))),fun k=>by show C1 k∨C2 k↔_; rw [g4,or_assoc]⟩
def Holds (w0:World) (K:Nat→Prop) (L:List Asn) (w:World):Prop:=∃ C,sepL L C w∧Ext K C w0 w
section
variable {w0 w w':World} {K:Nat→Prop} {L As R:List Asn} {A B:Asn} {k:Nat}
theorem Holds.split (h:Holds w0 K L w) (hs:Splits L As R):∃ C1,sepL As C1 w∧∀ Bs C1' w',Ext C1 C1' w w'→sepL Bs C1' w'→Holds w0 K (R++Bs) w':=by
 obtain ⟨C,hL,hx⟩:=h
 obtain ⟨C1,C2,h1,h2,h3,h4⟩:=hs C w hL
 refine ⟨C1,h1,fun Bs C1' w' he hB => ?_⟩
 have hsz:=he.1.size
 have h2':sepL R C2 w':=h2.loc hsz (fun k hk=>he.1.keep k (h2.lt k hk) (fun h=>h3 k h hk))
 have hd:∀ k,C2 k→¬ C1' k:=fun k hk h'=>by
  rcases he.2 k h' with h | h
  ·exact h3 k h hk
  ·have:=h2.lt k hk; omega
 refine ⟨_,h2'.append hB hd,hx.1.trans' he.1 (fun i hi hc => ?_),fun k hk => ?_⟩
 ·rcases hx.2 i ((h4 i).2 (.inl hc)) with h | h
  ·exact h
  ·omega
 ·have:=hx.1.size
  rcases hk with hk | hk
  ·rcases hx.2 k ((h4 k).2 (.inr hk)) with h | h
   ·exact .inl h
   ·exact .inr (by omega)
  ·rcases he.2 k hk with h | h
   ·rcases hx.2 k ((h4 k).2 (.inl h)) with h | h
    ·exact .inl h
    ·exact .inr (by omega)
   ·exact .inr (by omega)
theorem Holds.splitX (h:Holds w0 K L w) (hs:Splits L As R):∃ C1,Ext K C1 w0 w∧sepL As C1 w∧∀ Bs C1' w',Ext C1 C1' w w'→sepL Bs C1' w'→Holds w0 K (R++Bs) w':=by
 obtain ⟨C,hL,hx⟩:=h
 obtain ⟨C1,C2,h1,h2,h3,h4⟩:=hs C w hL
 refine ⟨C1,⟨hx.1,fun k hk=>hx.2 k ((h4 k).2 (.inl hk))⟩,h1,fun Bs C1' w' he hB => ?_⟩
 have hsz:=he.1.size
 have h2':sepL R C2 w':=h2.loc hsz (fun k hk=>he.1.keep k (h2.lt k hk) (fun h=>h3 k h hk))
 have hd:∀ k,C2 k→¬ C1' k:=fun k hk h'=>by
  rcases he.2 k h' with h | h
  ·exact h3 k h hk
  ·have:=h2.lt k hk; omega
 refine ⟨_,h2'.append hB hd,hx.1.trans' he.1 (fun i hi hc => ?_),fun k hk => ?_⟩
 ·rcases hx.2 i ((h4 i).2 (.inl hc)) with h | h
  ·exact h
  ·omega
 ·have:=hx.1.size
  rcases hk with hk | hk
  ·rcases hx.2 k ((h4 k).2 (.inr hk)) with h | h
   ·exact .inl h
   ·exact .inr (by omega)
  ·rcases he.2 k hk with h | h
   ·rcases hx.2 k ((h4 k).2 (.inl h)) with h | h
    ·exact .inl h
    ·exact .inr (by omega)
   ·exact .inr (by omega)
theorem Holds.focus (h:Holds w0 K L w) (hk:L[k]?=some A):∃ C1,A.P C1 w∧∀ B C1' w',Ext C1 C1' w w'→B.P C1' w'→Holds w0 K (L.set k B) w':=by
 obtain ⟨C,hL,hx⟩:=h
 obtain ⟨C1,C2,h1,h2,h3,h4⟩:=sepL.take hk hL
 refine ⟨C1,h1,fun B C1' w' he hB => ?_⟩
 have hlen:k<L.length:=(List.getElem?_eq_some_iff.1 hk).1
 have hsz:=he.1.size
 have h2':sepL (L.set k emp) C2 w':=h2.loc hsz (fun k hk=>he.1.keep k (h2.lt k hk) (fun h=>h3 k h hk))
 have hd:∀ k,C1' k→¬ C2 k:=fun k h' hk=>by
  rcases he.2 k h' with h | h
  ·exact h3 k h hk
  ·have:=h2.lt k hk; omega
 refine ⟨_,sepL.put hlen hB h2' hd (fun k=>Iff.rfl),hx.1.trans' he.1 (fun i hi hc => ?_),fun k hk => ?_⟩
 ·rcases hx.2 i ((h4 i).2 (.inl hc)) with h | h
  ·exact h
  ·omega
 ·have:=hx.1.size
  rcases hk with hk | hk
  ·rcases he.2 k hk with h | h
   ·rcases hx.2 k ((h4 k).2 (.inl h)) with h | h
    ·exact .inl h
    ·exact .inr (by omega)
   ·exact .inr (by omega)
  ·rcases hx.2 k ((h4 k).2 (.inr hk)) with h | h
   ·exact .inl h
   ·exact .inr (by omega)
theorem Holds.obj {b:Nat} {o:Obj} (h:Holds w0 K L w) (hk:L[k]?=some (obj b o)):w.heap[b]?=some o:=by
 obtain ⟨C1,h1,_⟩:=h.focus hk; exact h1.2
theorem Holds.cell {b j:Nat} {l:List Value} {t:TypeId} {v:Value} (h:Holds w0 K L w) (hk:L[k]?=some (cells b l t)) (hj:l[j]?=some v):w.cell? ⟨b,j,none⟩=some v :=
 zkD (h.obj hk) (by simpa using hj)
theorem Holds.drew (h:Holds w0 K L w):Holds w0 K L w.drew:=by
 obtain ⟨C,h1,h2⟩:=h
 exact ⟨C,h1.loc (Nat.le_refl _) (fun _ _=>rfl),h2.drew⟩
theorem Holds.grow {Bs:List Asn} {C':Nat→Prop} (h:Holds w0 K L w) (hx:Ext (fun _=>False) C' w w') (hB:sepL Bs C' w'):Holds w0 K (L++Bs) w':=by
 obtain ⟨C1,h1,h2⟩:=h.split (Splits.nil (L:=L))
 exact h2 Bs C' w' (by
  have:C1=fun _=>False:=funext fun k=>propext ⟨fun h=>absurd h (h1 k),fun h=>h.elim⟩
  rw [this]; exact hx) hB
theorem sepL.one {C:Nat→Prop} (h:A.P C w):sepL [A] C w:=⟨C,fun _=>False,h,fun _ h=>h,fun _ _ h=>h,fun k=>by simp⟩
theorem Holds.alloc (h:Holds w0 K L w) (o:Obj):Holds w0 K (L++[Go.Proofs.YtdnalnmahlakkaaGreatDoor.obj w.heap.size o]) (w.alloc o):=by
 refine h.grow (C':=fun k=>k=w.heap.size) ⟨(Fr.refl _ _).alloc _,fun k hk=>.inr ⟨by omega,by simp; omega⟩⟩ (sepL.one ⟨fun k=>Iff.rfl,World.alloc_heap_new w o⟩)
theorem Holds.setCell {b j:Nat} {l l':List Value} {t:TypeId} {v:Value} (h:Holds w0 K L w) (hk:L[k]?=some (cells b l t)) (hl:l.set j v=l'):Holds w0 K (L.set k (cells b l' t)) (w.setCell ⟨b,j,none⟩ v):=by
 obtain ⟨C1,h1,h2⟩:=h.focus hk
 refine h2 _ C1 _ ((Ext.refl _ _).setCell ((h1.1 b).2 rfl) v) ⟨h1.1,?_⟩
 subst hl
 have:=h1.2
 simp [World.setCell,this,Array.getElem?_modify]
theorem Holds.weaken {L':List Asn} (h:Holds w0 K L w) (hs:Splits L L' R):Holds w0 K L' w:=by
 obtain ⟨C,hL,hx⟩:=h
 obtain ⟨C1,C2,h1,h2,h3,h4⟩:=hs C w hL
 exact ⟨C1,h1,hx.1,fun k hk=>hx.2 k ((h4 k).2 (.inl hk))⟩
def Ent (A B:Asn):Prop:=∀ C w,A.P C w→B.P C w
theorem Holds.ent (h:Holds w0 K L w) (hk:L[k]?=some A) (he:Ent A B):Holds w0 K (L.set k B) w:=by
 obtain ⟨C1,h1,h2⟩:=h.focus hk
 exact h2 B C1 w (Ext.refl _ _) (he _ _ h1)
theorem Holds.rewE {A':Asn} (h:Holds w0 K L w) (hk:L[k]?=some A) (he:A=A'):Holds w0 K (L.set k A') w:=by
 subst he
 obtain ⟨C1,h1,h2⟩:=h.focus hk
 exact h2 A C1 w (Ext.refl _ _) h1
theorem Holds.starCons {j:Nat} {X:List Asn} (h:Holds w0 K L w) (hk:L[k]?=some A) (hj:L[j]?=some (zc0 X)) (hne:k≠j):Holds w0 K ((L.set k emp).set j (zc0 (A::X))) w:=by
 obtain ⟨C,hL,hx⟩:=h
 obtain ⟨C1,C2,h1,h2,h3,h4⟩:=sepL.take hk hL
 have hj':(L.set k emp)[j]?=some (zc0 X):=by rw [List.getElem?_set_ne hne]; exact hj
 obtain ⟨D1,D2,g1,g2,g3,g4⟩:=sepL.take hj' h2
 refine ⟨C,sepL.put (C1:=fun i=>C1 i∨D1 i) (C2:=D2) (List.getElem?_eq_some_iff.1 hj').1 ⟨C1,D1,h1,g1,fun i a b=>h3 i a ((g4 i).2 (.inl b)),fun i=>Iff.rfl⟩ g2 (fun i a b => ?_) (fun i => ?_),hx⟩
 ·rcases a with a | a
  ·exact h3 i a ((g4 i).2 (.inr b))
  ·exact g3 i a b
 ·rw [h4,g4,or_assoc]
theorem Holds.star0 (h:Holds w0 K L w):Holds w0 K (L++[zc0 []]) w:=by
 obtain ⟨C,hL,hx⟩:=h
 exact ⟨_,hL.append (sepL.one (A:=zc0 []) (C:=fun _=>False) (fun _ h=>h)) (fun _ _ h=>h),hx.1,fun k hk=>hx.2 k (hk.resolve_right (fun h=>h))⟩
end
def At (N:Nat) (dfs:List Deferred) (σ:List (Nat×Value)) (a:Act):Prop:=a.tmps.size=N∧a.defers=dfs∧∀ t v,σ.lookup t=some v→a.tmps.getD t undef=v
def ev (σ:List (Nat×Value)):Operand→Option Value
 | .tmp t=>σ.lookup t
 | .const v=>some v
 | .func f=>some (.func (.func f) #[] #[])
 | .global _=>none
theorem At.ev {N:Nat} {dfs:List Deferred} {σ:List (Nat×Value)} {a:Act} (h:At N dfs σ a) {x:Operand} {v:Value} (hx:ev σ x=some v):a.eval x=v:=by
 cases x <;> simp [Go.Proofs.YtdnalnmahlakkaaGreatDoor.ev] at hx
 ·exact h.2.2 _ _ hx
 ·exact hx
 ·exact hx
theorem At.put {N:Nat} {dfs:List Deferred} {σ:List (Nat×Value)} {a:Act} (h:At N dfs σ a) {d:Nat} (hd:d<N) (v:Value):At N dfs ((d,v)::σ) (a.put (some d) v):=by
 refine ⟨by simp [Act.put,h.1],h.2.1,fun t u ht => ?_⟩
 simp only [List.lookup] at ht
 split at ht
 ·rename_i e
  have:t=d:=by simpa using e
  subst this; cases ht
  have h1:=h.1
  simp [Act.put,Array.getD,h1,hd]
 ·rename_i e
  have:t≠d:=by simpa using e
  rw [← h.2.2 t u ht]
  have hne:¬ d=t:=fun h=>this h.symm
  show (a.tmps.setIfInBounds d v).getD t undef=_
  by_cases hl:t<a.tmps.size
  ·have hl':t<(a.tmps.setIfInBounds d v).size:=by simpa using hl
   unfold Array.getD
   rw [dif_pos hl',dif_pos hl]
   show (a.tmps.setIfInBounds d v)[t]=a.tmps[t]
   exact Array.getElem_setIfInBounds_ne hl hne
  ·have hl':¬ t<(a.tmps.setIfInBounds d v).size:=by simpa using hl
   unfold Array.getD
   rw [dif_neg hl',dif_neg hl]
def Sbs (σ σ':List (Nat×Value)):Prop:=∀ a N dfs,At N dfs σ a→At N dfs σ' a
theorem zeQ {σ:List (Nat×Value)}:Sbs σ []:=fun a N dfs h=>⟨h.1,h.2.1,fun t v ht=>by cases ht⟩
theorem zb7 {σ σ':List (Nat×Value)} {t:Nat} {v:Value} (h:σ.lookup t=some v) (hs:Sbs σ σ'):Sbs σ ((t,v)::σ'):=fun a N dfs ha=>by
 refine ⟨ha.1,ha.2.1,fun s u hu => ?_⟩
 simp only [List.lookup] at hu
 split at hu
 ·rename_i e
  have:s=t:=by simpa using e
  subst this; cases hu
  exact ha.2.2 _ _ h
 ·exact (hs a N dfs ha).2.2 s u hu
theorem zos {σ:List (Nat×Value)}:Sbs σ σ:=fun a N dfs h=>h
class WideF (F:Fence):Prop where
 fn:∀ f,F.fn f
 depth:F.depth=none
 calls:∀ {P:Program} {f:FuncId} {args:Array Value} {w:World} {R:Ending→World→Prop},Calls P f args w R→CallsIn F 0 P f args w R
 rounds:∀ {P:Program} {l:Nat} {f:FuncId} {tmps:Array Value} {assign body:Code} {w:World} {R:Ending→World→Prop},RoundIn Fence.wide 0 P l f tmps assign body w R→RoundIn F 0 P l f tmps assign body w R
instance:WideF Fence.wide:=⟨fun _=>trivial,rfl,fun h=>callsIn_wide.2 h,fun h=>h⟩
instance (l:Nat):WideF (Fence.wide.inRound l):=⟨fun _=>trivial,rfl,fun h=>CallsIn.inRound l (callsIn_wide.2 h),fun h=>h⟩
def TO (F:Fence) (P:Program) (w0:World) (K:Nat→Prop) (N:Nat) (dfs:List Deferred) (ops:Array Oper) (Q:Exit→Act→World→Prop) (rest:List Oper) (σ:List (Nat×Value)) (L:List Asn):Prop :=
 ∀ a w,At N dfs σ a→Holds w0 K L w→wpListIn F 0 P ops Q rest a w
def TC (F:Fence) (P:Program) (w0:World) (K:Nat→Prop) (N:Nat) (dfs:List Deferred) (Q:Exit→Act→World→Prop) (c:Code) (σ:List (Nat×Value)) (L:List Asn):Prop :=
 ∀ a w,At N dfs σ a→Holds w0 K L w→c.wpIn F 0 P Q a w
def TX (w0:World) (K:Nat→Prop) (N:Nat) (dfs:List Deferred) (Q:Exit→Act→World→Prop) (e:Exit) (σ:List (Nat×Value)) (L:List Asn):Prop :=
 ∀ a w,At N dfs σ a→Holds w0 K L w→Q e a w
def St (w0:World) (K:Nat→Prop) (N:Nat) (dfs:List Deferred) (σ:List (Nat×Value)) (L:List Asn) (a:Act) (w:World):Prop:=At N dfs σ a∧Holds w0 K L w
def gd (ops:Array Oper) (σ:List (Nat×Value)):Option (Nat×Bool)→Option Bool
 | none=>some true
 | some (j,b)=>match (ops[j]?).bind (·.dst) with
  | some t=>match σ.lookup t with
   | some (.bool c)=>some (c==b)
   | some (.tuple _)=>some false
   | _=>none
  | none=>none
def zcc (P:Program) (t:TypeId):Prop:=∃ d,P.underlying t=some d∧d.isRow=false
def zim (P:Program) (t:TypeId) (n:Nat):Prop:=∃ d,P.underlying t=some d∧d.isRow=true∧(P.info? t).map (·.size)=some n
def SizeOk (P:Program) (t:TypeId) (n:Nat):Prop:=(P.info? t).map (·.size)=some n
def ZeroOk (P:Program) (t:TypeId) (cs:List Value):Prop:=(P.info? t).bind (fun i=>i.zero.map (·.cells.toList))=some cs
def zco (P:Program) (t:TypeId) (f off:Nat):Prop:=∃ fs fd,P.underlying t=some (.struct fs)∧fs[f]?=some fd∧fd.offset=off∧(P.info? fd.type).map (fun i=>i.size != 0)=some true
theorem SizeOk.some {P:Program} {t:TypeId} {n:Nat} (h:SizeOk P t n):∃ i,P.info? t=some i∧i.size=n:=by
 unfold SizeOk at h; cases hi:P.info? t with
 | none=>simp [hi] at h
 | some i=>exact ⟨i,rfl,by simpa [hi] using h⟩
theorem ZeroOk.some {P:Program} {t:TypeId} {cs:List Value} (h:ZeroOk P t cs):∃ i z,P.info? t=some i∧i.zero=some z∧z.cells.toList=cs:=by
 unfold ZeroOk at h; cases hi:P.info? t with
 | none=>simp [hi] at h
 | some i =>
  cases hz:i.zero with
  | none=>simp [hi,hz] at h
  | some z=>exact ⟨i,z,rfl,hz,by simpa [hi,hz] using h⟩
section
variable {F:Fence} {P:Program} {w0:World} {K:Nat→Prop} {N:Nat} {dfs:List Deferred} {ops:Array Oper} {Q:Exit→Act→World→Prop} {rest:List Oper} {σ σ':List (Nat×Value)} {L L' R As Bs:List Asn} {o:Oper} {v:Value}
 {d:Nat} {t:TypeId} {op:Op} {ty:TypeId} {pos:String} {aft:Array Edge} {g:Option (Nat×Bool)} {x y z:Operand} {c c1 c2:Code} {k:Nat} {A B:Asn}
theorem zmI {a:Act} {N:Nat} (hs:a.tmps.size=N) {t:Nat} {b:Bool} (h:a.tmps.getD t undef=.bool b):a.tmps[t]?=some (.bool b):=by
 unfold Array.getD at h
 split at h
 ·rename_i hl
  have h':a.tmps[t]=.bool b:=h
  simp [hl,h']
 ·simp [undef] at h
theorem zgl {a:Act} (ha:At N dfs σ a) (hg:gd ops σ o.guard=some true):Region.wanted o (yielded ops a.tmps)=true:=by
 unfold gd at hg
 unfold Region.wanted
 split at hg
 ·rename_i e; rw [e]
 ·rename_i j b e
  rw [e]
  split at hg
  ·rename_i t ht
   split at hg
   ·rename_i c hc
    simp only [Option.some.injEq] at hg
    have hcb:c=b:=by simpa using hg
    subst hcb
    have h1:=zmI ha.1 (ha.2.2 _ _ hc)
    simp [yielded,ht,h1]
   ·cases hg
   ·cases hg
  ·cases hg
theorem zoR {a:Act} {t:Nat} {vs:Array Value} (h:a.tmps.getD t undef=.tuple vs):∀ b,a.tmps[t]?≠some (.bool b):=by
 intro b hb
 rw [Array.getD_eq_getD_getElem?,hb] at h
 cases h
theorem ztc {a:Act} (ha:At N dfs σ a) (hg:gd ops σ o.guard=some false):Region.wanted o (yielded ops a.tmps)=false:=by
 unfold gd at hg
 unfold Region.wanted
 split at hg
 ·cases hg
 ·rename_i j b e
  rw [e]
  split at hg
  ·rename_i t ht
   split at hg
   ·rename_i c hc
    simp only [Option.some.injEq] at hg
    have h1:=zmI ha.1 (ha.2.2 _ _ hc)
    simp [yielded,ht,h1]
    simpa using hg
   ·rename_i vs hc
    have h1:=zoR (ha.2.2 _ _ hc)
    have h2:yielded ops a.tmps j=none:=by
     unfold yielded
     rw [ht]
     show (match a.tmps[t]? with | some (.bool b)=>some b | _=>none)=none
     split
     ·rename_i b h3; exact absurd h3 (h1 b)
     ·rfl
    simp [h2]
   ·cases hg
  ·cases hg
theorem zfR [WideF F] (hg:gd ops σ o.guard=some true) (hnd:∀ c,o.op≠.defer c)
  (h:∀ a w,At N dfs σ a→Holds w0 K L w→∃ v w',(execOp a.eval o).run P w=.ok (.value v) w'∧wpListIn F 0 P ops Q rest (a.put o.dst v) w'):TO F P w0 K N dfs ops Q (o::rest) σ L:=by
 intro a w ha hw
 obtain ⟨v,w',h1,h2⟩:=h a w ha hw
 simp only [wpListIn,zgl ha hg,if_true]
 refine ⟨fun f _=>WideF.fn f,?_⟩
 rw [Oper.semAt_plain F _ _ hnd,h1]
 exact h2
theorem zha [WideF F] (hg:gd ops σ o.guard=some true) (hnd:∀ c,o.op≠.defer c)
  (h:∀ a w,At N dfs σ a→Holds w0 K L w→∃ w',(execOp a.eval o).run P w=.ok .skip w'∧wpListIn F 0 P ops Q rest (a.put o.dst undef) w'):TO F P w0 K N dfs ops Q (o::rest) σ L:=by
 intro a w ha hw
 obtain ⟨w',h1,h2⟩:=h a w ha hw
 simp only [wpListIn,zgl ha hg,if_true]
 refine ⟨fun f _=>WideF.fn f,?_⟩
 rw [Oper.semAt_plain F _ _ hnd,h1]
 exact h2
theorem zdF [WideF F] (hg:gd ops σ g=some true) (hd:d<N) (hnd:∀ c,op≠.defer c)
  (hr:∀ a w,At N dfs σ a→Holds w0 K L w→(execOp a.eval ⟨some d,op,ty,pos,aft,g⟩).run P w=.ok (.value v) w)
  (h:TO F P w0 K N dfs ops Q rest ((d,v)::σ) L):TO F P w0 K N dfs ops Q (⟨some d,op,ty,pos,aft,g⟩::rest) σ L :=
 zfR hg hnd fun a w ha hw=>⟨v,w,hr a w ha hw,h _ _ (ha.put hd v) hw⟩
theorem zaW [WideF F] (hg:gd ops σ g=some false) (hd:d<N) (h:TO F P w0 K N dfs ops Q rest ((d,undef)::σ) L):TO F P w0 K N dfs ops Q (⟨some d,op,ty,pos,aft,g⟩::rest) σ L:=by
 intro a w ha hw
 simp only [wpListIn,ztc (o:=⟨some d,op,ty,pos,aft,g⟩) ha hg]
 exact ⟨fun f _=>WideF.fn f,h _ _ (ha.put hd undef) hw⟩
theorem zap (h:TX w0 K N dfs Q .normal σ L):TO F P w0 K N dfs ops Q [] σ L:=fun a w ha hw=>h a w ha hw
theorem zsg (hs:Sbs σ σ') (h:TO F P w0 K N dfs ops Q rest σ' L):TO F P w0 K N dfs ops Q rest σ L:=fun a w ha hw=>h a w (hs _ _ _ ha) hw
theorem zu8 (hk:L[k]?=some A) (he:Ent A B) (h:TO F P w0 K N dfs ops Q rest σ (L.set k B)):TO F P w0 K N dfs ops Q rest σ L:=fun a w ha hw=>h a w ha (hw.ent hk he)
theorem zaD [WideF F] (hg:gd ops σ g=some true) (hd:d<N) (hx:ev σ x=some v) (h:TO F P w0 K N dfs ops Q rest ((d,v)::σ) L):TO F P w0 K N dfs ops Q (⟨some d,.move x,ty,pos,aft,g⟩::rest) σ L :=
 zdF hg hd (by simp) (fun a w ha hw=>by simp [execOp,ha.ev hx]) h
theorem zaw [WideF F] (hg:gd ops σ g=some true) (hd:d<N) (hx:ev σ x=some v) (h:TO F P w0 K N dfs ops Q rest ((d,v)::σ) L):TO F P w0 K N dfs ops Q (⟨some d,.assign x,ty,pos,aft,g⟩::rest) σ L :=
 zdF hg hd (by simp) (fun a w ha hw=>by simp [execOp,ha.ev hx]) h
theorem zbx [WideF F] {b:Bool} (hg:gd ops σ g=some true) (hd:d<N) (hc:ev σ x=some (.bool b)) (hv:ev σ (if b then y else z)=some v) (h:TO F P w0 K N dfs ops Q rest ((d,v)::σ) L) :
  TO F P w0 K N dfs ops Q (⟨some d,.pick x y z,ty,pos,aft,g⟩::rest) σ L :=
 zdF hg hd (by simp) (fun a w ha hw=>by
  have h1:=ha.ev hc
  have h2:=ha.ev hv
  cases b <;> simp_all [execOp,asBool]) h
theorem zaX [WideF F] {b:BinOp} {yt:TypeId} {v1 v2:Value} (hg:gd ops σ g=some true) (hd:d<N) (hx:ev σ x=some v1) (hy:ev σ y=some v2)
  (hb:∀ w:World,(do eqGuard b t x y v1 v2; binOp b t v1 v2:Sem Value).run P w=.ok v w) (h:TO F P w0 K N dfs ops Q rest ((d,v)::σ) L) :
  TO F P w0 K N dfs ops Q (⟨some d,.binOp b t x y yt,ty,pos,aft,g⟩::rest) σ L :=
 zdF hg hd (by simp) (fun a w ha hw=>by
  have:=hb w
  simp only [execOp,ha.ev hx,ha.ev hy,Sem.run_bind] at this ⊢
  rw [this]; rfl) h
theorem zdM [WideF F] {b:UnOp} {v1:Value} (hg:gd ops σ g=some true) (hd:d<N) (hx:ev σ x=some v1)
  (hb:∀ w:World,(Op.unary b v1).run P w=.ok v w) (h:TO F P w0 K N dfs ops Q rest ((d,v)::σ) L) :
  TO F P w0 K N dfs ops Q (⟨some d,.unOp b t x,ty,pos,aft,g⟩::rest) σ L :=
 zdF hg hd (by simp) (fun a w ha hw=>by
  simp only [execOp,ha.ev hx,Sem.run_bind,hb w]; rfl) h
theorem zf9 [WideF F] {s:TypeId} {v1:Value} (hg:gd ops σ g=some true) (hd:d<N) (hx:ev σ x=some v1)
  (hb:∀ w:World,(convert s t v1).run P w=.ok v w) (h:TO F P w0 K N dfs ops Q rest ((d,v)::σ) L) :
  TO F P w0 K N dfs ops Q (⟨some d,.convert s t x,ty,pos,aft,g⟩::rest) σ L :=
 zdF hg hd (by simp) (fun a w ha hw=>by
  simp only [execOp,ha.ev hx,Sem.run_bind,hb w]; rfl) h
theorem zac [WideF F] {b off off':Nat} {f fo:Nat} (hf:zco P t f fo) (hg:gd ops σ g=some true) (hd:d<N) (hx:ev σ x=some (.pointer (some ⟨b,off,none⟩))) (ho:off+fo=off')
  (h:TO F P w0 K N dfs ops Q rest ((d,.pointer (some ⟨b,off',none⟩))::σ) L) :
  TO F P w0 K N dfs ops Q (⟨some d,.fieldAddr t x f,ty,pos,aft,g⟩::rest) σ L:=by
 subst ho
 obtain ⟨fs,fd,hu,hf,rfl,hz⟩:=hf
 obtain ⟨i,hi,hz⟩:∃ i,P.info? fd.type=some i∧i.size≠0:=by
  cases hi:P.info? fd.type with
  | none=>simp [hi] at hz
  | some i=>exact ⟨i,rfl,by simpa [hi] using hz⟩
 refine zdF hg hd (by simp) (fun a w ha hw => ?_) h
 simp [execOp,ha.ev hx,Instr.fieldAt,Sem.run_bind,run_underlying hu,hf,Instr.sureAddr,fieldPlace,sizeOf,typeInfo,hi,hz,Addr.add_mid]
theorem zaJ [WideF F] {f:Nat} {vs:Array Value} (hg:gd ops σ g=some true) (hd:d<N) (hx:ev σ x=some (.tuple vs)) (hv:vs[f]?=some v) (h:TO F P w0 K N dfs ops Q rest ((d,v)::σ) L) :
  TO F P w0 K N dfs ops Q (⟨some d,.extract x f,ty,pos,aft,g⟩::rest) σ L :=
 zdF hg hd (by simp) (fun a w ha hw=>by simp [execOp,ha.ev hx,Instr.extract,hv]) h
theorem zmc [WideF F] {v1 v2:Value} (hg:gd ops σ g=some true) (hd:d<N) (hx:ev σ x=some v1) (hy:ev σ y=some v2)
  (hb:∀ w:World,(Instr.index t v1 v2).run P w=.ok v w) (h:TO F P w0 K N dfs ops Q rest ((d,v)::σ) L) :
  TO F P w0 K N dfs ops Q (⟨some d,.index t x y,ty,pos,aft,g⟩::rest) σ L :=
 zdF hg hd (by simp) (fun a w ha hw=>by simp only [execOp,ha.ev hx,ha.ev hy,Sem.run_bind,hb w]; rfl) h
def evO (σ:List (Nat×Value)):Option Operand→Option (Option Value)
 | none=>some none
 | some x=>(ev σ x).map some
theorem At.evO {a:Act} (h:At N dfs σ a) {x:Option Operand} {v:Option Value} (hx:evO σ x=some v):x.map a.eval=v:=by
 cases x with
 | none=>simpa [Go.Proofs.YtdnalnmahlakkaaGreatDoor.evO] using hx
 | some x =>
  simp only [Go.Proofs.YtdnalnmahlakkaaGreatDoor.evO,Option.map_eq_some_iff] at hx
  obtain ⟨u,hu,rfl⟩:=hx
  simp [h.ev hu]
theorem zeG [WideF F] {v1:Value} {lo hi:Option Operand} {lv hv:Option Value} (hg:gd ops σ g=some true) (hd:d<N) (hx:ev σ x=some v1) (hlo:evO σ lo=some lv) (hhi:evO σ hi=some hv)
  (hb:∀ w:World,(Instr.sliceAt t v1 lv hv none).run P w=.ok v w) (h:TO F P w0 K N dfs ops Q rest ((d,v)::σ) L) :
  TO F P w0 K N dfs ops Q (⟨some d,.slice t x lo hi none,ty,pos,aft,g⟩::rest) σ L :=
 zdF hg hd (by simp) (fun a w ha hw=>by simp only [execOp,ha.ev hx,ha.evO hlo,ha.evO hhi,Option.map_none,Sem.run_bind,hb w]; rfl) h
def evP (σ:List (Nat×Value)):List (Nat×Operand)→Option (List (Nat×Value))
 | []=>some []
 | (i,x)::r=>match ev σ x,evP σ r with
  | some v,some l=>some ((i,v)::l)
  | _,_=>none
theorem At.evP {a:Act} (h:At N dfs σ a):∀ {ps:List (Nat×Operand)} {vs:List (Nat×Value)},evP σ ps=some vs→ps.map (fun (i,x)=>(i,a.eval x))=vs
 | [],vs,hx=>by simpa [Go.Proofs.YtdnalnmahlakkaaGreatDoor.evP] using hx
 | (i,x)::r,vs,hx=>by
  simp only [Go.Proofs.YtdnalnmahlakkaaGreatDoor.evP] at hx
  split at hx
  ·rename_i v l h1 h2
   cases hx
   simp [h.ev h1,At.evP h h2]
  ·cases hx
def evL (σ:List (Nat×Value)):List Operand→Option (List Value)
 | []=>some []
 | x::r=>match ev σ x,evL σ r with
  | some v,some l=>some (v::l)
  | _,_=>none
theorem At.evL {a:Act} (h:At N dfs σ a):∀ {ps:List Operand} {vs:List Value},evL σ ps=some vs→ps.map a.eval=vs
 | [],vs,hx=>by simpa [Go.Proofs.YtdnalnmahlakkaaGreatDoor.evL] using hx
 | x::r,vs,hx=>by
  simp only [Go.Proofs.YtdnalnmahlakkaaGreatDoor.evL] at hx
  split at hx
  ·rename_i v l h1 h2
   cases hx
   simp [h.ev h1,At.evL h h2]
  ·cases hx
theorem zbB [WideF F] {ps:List (Nat×Operand)} {vs:List (Nat×Value)} (hg:gd ops σ g=some true) (hd:d<N) (hx:evP σ ps=some vs)
  (hb:∀ w:World,(Instr.build t vs.toArray).run P w=.ok v w) (h:TO F P w0 K N dfs ops Q rest ((d,v)::σ) L) :
  TO F P w0 K N dfs ops Q (⟨some d,.build t ps.toArray,ty,pos,aft,g⟩::rest) σ L :=
 zdF hg hd (by simp) (fun a w ha hw=>by
  have:=hb w
  simp only [execOp,List.map_toArray,ha.evP hx,Sem.run_bind,this]; rfl) h
theorem zdH [WideF F] {fn:Fn} {x1 x2:List Operand} {l1 l2:List Value} (hg:gd ops σ g=some true) (hd:d<N) (h1:evL σ x1=some l1) (h2:evL σ x2=some l2)
  (h:TO F P w0 K N dfs ops Q rest ((d,.func fn l1.toArray l2.toArray)::σ) L) :
  TO F P w0 K N dfs ops Q (⟨some d,.makeFunc fn x1.toArray x2.toArray,ty,pos,aft,g⟩::rest) σ L :=
 zdF hg hd (by simp) (fun a w ha hw=>by simp [execOp,Instr.makeFunc,ha.evL h1,ha.evL h2]) h
theorem zav [WideF F] {a0:Addr} (hg:gd ops σ g=some true) (hd:d<N) (hx:ev σ x=some (.pointer (some a0))) (h:TO F P w0 K N dfs ops Q rest ((d,.pointer (some a0))::σ) L) :
  TO F P w0 K N dfs ops Q (⟨some d,.nilCheck x,ty,pos,aft,g⟩::rest) σ L :=
 zdF hg hd (by simp) (fun a w ha hw=>by simp [execOp,ha.ev hx]) h
theorem zdN [WideF F] (hg:gd ops σ g=some true) (hd:d<N) (hx:ev σ x=some v)
  (h:∀ b,TO F P w0 K N dfs ops Q rest ((d,.pointer (some ⟨b,0,none⟩))::σ) (L++[cells b v.cells.toList t])):TO F P w0 K N dfs ops Q (⟨some d,.box t x,ty,pos,aft,g⟩::rest) σ L :=
 zfR hg (by simp) fun a w ha hw=>⟨.pointer (some ⟨w.heap.size,0,none⟩),w.alloc (.cells v.cells t),by simp [execOp,ha.ev hx,Instr.box,newVar,newRow,Sem.run_bind],h _ _ _ (ha.put hd _) (by simpa [cells] using hw.alloc (.cells v.cells t (0,0)))⟩
theorem za6 [WideF F] {cs:List Value} (hz:ZeroOk P t cs) (hg:gd ops σ g=some true) (hd:d<N)
  (h:∀ b,TO F P w0 K N dfs ops Q rest ((d,.pointer (some ⟨b,0,none⟩))::σ) (L++[cells b cs t])):TO F P w0 K N dfs ops Q (⟨some d,.alloc t,ty,pos,aft,g⟩::rest) σ L:=by
 obtain ⟨i,zv,hi,hz0,rfl⟩:=hz.some
 exact zfR hg (by simp) fun a w ha hw=>⟨.pointer (some ⟨w.heap.size,0,none⟩),w.alloc (.cells zv.cells t),by simp [execOp,Instr.alloc,zeroValue,typeInfo,hi,hz0,newVar,newRow,Sem.run_bind],h _ _ _ (ha.put hd _) (by simpa [cells] using hw.alloc (.cells zv.cells t (0,0)))⟩
theorem zat [WideF F] {b j:Nat} {l:List Value} {e:TypeId} (hT:zcc P t) (hg:gd ops σ g=some true) (hd:d<N) (hx:ev σ x=some (.pointer (some ⟨b,j,none⟩))) (hk:L[k]?=some (cells b l e)) (hj:l[j]?=some v)
  (h:TO F P w0 K N dfs ops Q rest ((d,v)::σ) L):TO F P w0 K N dfs ops Q (⟨some d,.load t x,ty,pos,aft,g⟩::rest) σ L:=by
 obtain ⟨dd,hu,hr⟩:=hT
 exact zdF hg hd (by simp) (fun a w ha hw=>by
  have hc:=hw.cell hk hj
  cases dd <;> simp_all [execOp,ha.ev hx,Instr.loadAt,Instr.sureAddr,loadVar,isAgg,Sem.run_bind,run_underlying hu]) h
theorem zaZ [WideF F] {b j n:Nat} {l cs:List Value} {e:TypeId} (hT:zim P t n) (hg:gd ops σ g=some true) (hd:d<N) (hx:ev σ x=some (.pointer (some ⟨b,j,none⟩))) (hk:L[k]?=some (cells b l e))
  (hcs:(l.drop j).take n=cs) (hn:cs.length=n) (h:TO F P w0 K N dfs ops Q rest ((d,.agg cs.toArray)::σ) L) :
  TO F P w0 K N dfs ops Q (⟨some d,.load t x,ty,pos,aft,g⟩::rest) σ L:=by
 subst hn
 obtain ⟨dd,hu,hr,hi⟩:=hT
 exact zdF hg hd (by simp) (fun a w ha hw=>by
  have hc:w.rangeAt b j cs:=fun i u hu=>by
   refine hw.cell hk ?_
   rw [← hcs] at hu
   rw [List.getElem?_take] at hu
   split at hu
   ·rw [List.getElem?_drop] at hu; exact hu
   ·cases hu
  simp only [execOp,ha.ev hx,Sem.run_bind,run_loadAt_mid w b j t cs dd hc hu hr hi]; rfl) h
theorem zaG [WideF F] {b j:Nat} {l l':List Value} {e:TypeId} {u:Value} (hT:SizeOk P t 1) (hg:gd ops σ g=some true) (hx:ev σ x=some (.pointer (some ⟨b,j,none⟩))) (hy:ev σ y=some v)
  (hk:L[k]?=some (cells b l e)) (hj:l[j]?=some u) (hone:∀ w,Holds w0 K L w→v.oneCell'=true) (hl:l.set j v=l')
  (h:TO F P w0 K N dfs ops Q rest σ (L.set k (cells b l' e))):TO F P w0 K N dfs ops Q (⟨none,.store t x y,ty,pos,aft,g⟩::rest) σ L:=by
 obtain ⟨i,hi,hsz⟩:=hT.some
 exact zha hg (by simp) fun a w ha hw=>⟨_,by
  have h1:=hone w hw
  have hc:=hw.cell hk hj
  have hf:w.frozen? ⟨b,j,none⟩=false:=by simp [World.frozen?,hw.obj hk]
  have hvc:v.cells=#[v]:=by cases v <;> simp_all [Value.cells,Value.oneCell']
  simp [execOp,ha.ev hx,ha.ev hy,Instr.storeAt,Instr.sureAddr,storeVar,sizeOf,typeInfo,hi,hsz,hvc,storeCells,Sem.run_bind,run_store _ _ _ _ _ h1,hc,hf,Addr.add_mid],h _ _ ha (hw.setCell hk hl)⟩
def zlJ (l:List Value) (j:Nat):List Value→List Value
 | []=>l
 | v::vs=>zlJ (l.set j v) (j+1) vs
theorem Holds.setCells {b:Nat} {e:TypeId} (hlen:k<L.length):∀ (vs:List Value) (j:Nat) (l:List Value) (w:World),Holds w0 K (L.set k (cells b l e)) w→Holds w0 K (L.set k (cells b (zlJ l j vs) e)) (w.setCells b j vs)
 | [],j,l,w,h=>h
 | v::vs,j,l,w,h=>by
  have hk:(L.set k (cells b l e))[k]?=some (cells b l e):=by simp [hlen]
  have:=h.setCell (j:=j) (v:=v) hk rfl
  rw [List.set_set] at this
  simp only [World.setCells,zlJ]
  exact Holds.setCells hlen vs (j+1) _ _ this
theorem zlI {α:Type} {L:List α} {k:Nat} {A:α} (hk:L[k]?=some A):L.set k A=L:=by
 apply List.ext_getElem?
 intro i
 rw [List.getElem?_set]
 split
 ·rename_i e
  subst e
  rw [hk]
  simp [(List.getElem?_eq_some_iff.1 hk).1]
 ·rfl
theorem za2 [WideF F] {b j n:Nat} {l l' vs:List Value} {e:TypeId} (hT:SizeOk P t n) (hg:gd ops σ g=some true) (hx:ev σ x=some (.pointer (some ⟨b,j,none⟩))) (hy:ev σ y=some (.agg vs.toArray))
  (hk:L[k]?=some (cells b l e)) (hn:vs.length=n) (hj:j+n≤l.length) (h1:vs.all (·.oneCell')=true) (hl:zlJ l j vs=l')
  (h:TO F P w0 K N dfs ops Q rest σ (L.set k (cells b l' e))):TO F P w0 K N dfs ops Q (⟨none,.store t x y,ty,pos,aft,g⟩::rest) σ L:=by
 subst hl; subst hn
 have hlen:k<L.length:=(List.getElem?_eq_some_iff.1 hk).1
 refine zha hg (by simp) fun a w ha hw=>⟨w.setCells b j vs,?_,h _ _ ha (Holds.setCells hlen vs j l w (by rw [zlI hk]; exact hw))⟩
 have ht:w.there b j vs.toArray.size:=fun i hi=>by
  have hi':i<vs.length:=by simpa using hi
  have hc:=hw.cell hk (List.getElem?_eq_getElem (show j+i<l.length by omega))
  exact ⟨by rw [hc]; rfl,by simp [World.frozen?,hw.obj hk]⟩
 simp only [execOp,ha.ev hx,ha.ev hy,Sem.run_bind,run_storeAt_mid w b j t vs.toArray ht (by simpa [SizeOk] using hT) (by simpa using h1)]; rfl
end
def Ro (w0:World) (K:Nat→Prop) (RO:List (Nat×Obj)):Prop:=∀ p∈RO,w0.heap[p.1]?=some p.2∧¬ K p.1
theorem Ro.nil {w0:World} {K:Nat→Prop}:Ro w0 K []:=fun p hp=>by cases hp
theorem Holds.ro {w0 w:World} {K:Nat→Prop} {L:List Asn} {RO:List (Nat×Obj)} (h:Holds w0 K L w) (hr:Ro w0 K RO) {i b:Nat} {o:Obj} (hi:RO[i]?=some (b,o)):w.heap[b]?=some o:=by
 obtain ⟨C,_,hx⟩:=h
 obtain ⟨h1,h2⟩:=hr _ (List.mem_of_getElem? hi)
 exact hx.1.at h1 h2
def zwK {β:Type} (w0:World) (K:Nat→Prop) (N:Nat) (dfs:List Deferred) (I:β→Prop) (σf:β→List (Nat×Value)) (Lf:β→List Asn) (a:Act) (w:World):Prop:=∃ b,I b∧St w0 K N dfs (σf b) (Lf b) a w
def zrC {β:Type} (w0:World) (K:Nat→Prop) (N:Nat) (I:β→Prop) (df:β→List Deferred) (σf:β→List (Nat×Value)) (Lf:β→List Asn) (μ:β→Nat) (b:β) (a:Act) (w:World):Prop:=∃ b',I b'∧μ b'<μ b∧St w0 K N (df b') (σf b') (Lf b') a w
section
variable {F:Fence} {P:Program} {w0:World} {K:Nat→Prop} {N:Nat} {dfs:List Deferred} {ops:Array Oper} {Q:Exit→Act→World→Prop} {rest:List Oper} {σ σ':List (Nat×Value)} {L L' R As Bs:List Asn} {o:Oper} {v:Value}
 {d:Nat} {t:TypeId} {op:Op} {ty:TypeId} {pos:String} {aft:Array Edge} {g:Option (Nat×Bool)} {x y z:Operand} {c c1 c2:Code} {k:Nat} {A B:Asn} {RO:List (Nat×Obj)}
theorem zad {id:Nat} {l:List Oper} (h:TO F P w0 K N dfs l.toArray Q l σ L):TC F P w0 K N dfs Q (.region id l.toArray false) σ L:=fun a w ha hw=>wpIn_region_lit (h a w ha hw)
theorem zar (h:TC F P w0 K N dfs (Exit.then (c2.wpIn F 0 P Q) Q) c1 σ L):TC F P w0 K N dfs Q (.seq c1 c2) σ L:=fun a w ha hw=>wpIn_seq (h a w ha hw)
theorem zax (h:TX w0 K N dfs Q .normal σ L):TC F P w0 K N dfs Q .skip σ L:=fun a w ha hw=>wpIn_skip (h a w ha hw)
theorem zcy {id:Nat} (h:TX w0 K N dfs Q (.exit id) σ L):TC F P w0 K N dfs Q (.exit id) σ L:=fun a w ha hw=>wpIn_exit (h a w ha hw)
theorem zaE (h:TX w0 K N dfs Q .ret σ L):TC F P w0 K N dfs Q .ret σ L:=fun a w ha hw=>wpIn_ret (h a w ha hw)
theorem ztQ {l:Nat} (h:TX w0 K N dfs Q (.goto l) σ L):TC F P w0 K N dfs Q (.goto l) σ L:=fun a w ha hw=>wpIn_goto (h a w ha hw)
theorem zmd {l:Nat} (h:TX w0 K N dfs Q .normal σ L):TC F P w0 K N dfs Q (.label l) σ L:=fun a w ha hw=>wpIn_label (h a w ha hw)
theorem zaK {id:Nat} (h:TC F P w0 K N dfs (Exit.inBlock id Q) c σ L):TC F P w0 K N dfs Q (.block id c) σ L:=fun a w ha hw=>wpIn_block (h a w ha hw)
theorem zbw (hc:ev σ x=some (.bool true)) (h:TC F P w0 K N dfs Q c1 σ L):TC F P w0 K N dfs Q (.cond x c1 c2) σ L:=fun a w ha hw=>wpIn_cond_true (ha.ev hc) (h a w ha hw)
theorem zaS (hc:ev σ x=some (.bool false)) (h:TC F P w0 K N dfs Q c2 σ L):TC F P w0 K N dfs Q (.cond x c1 c2) σ L:=fun a w ha hw=>wpIn_cond_false (ha.ev hc) (h a w ha hw)
theorem zbb {b:Bool} (hc:ev σ x=some (.bool b)) (ht:b=true→TC F P w0 K N dfs Q c1 σ L) (hf:b=false→TC F P w0 K N dfs Q c2 σ L):TC F P w0 K N dfs Q (.cond x c1 c2) σ L :=
 fun a w ha hw=>wpIn_cond_split (ha.ev hc) (fun h=>ht h a w ha hw) (fun h=>hf h a w ha hw)
theorem zes {s:Nat} {b:Bool} (hs:σ.lookup s=some (.bool b)) (ht:b=true→TO F P w0 K N dfs ops Q rest ((s,.bool true)::σ) L) (hf:b=false→TO F P w0 K N dfs ops Q rest ((s,.bool false)::σ) L) :
  TO F P w0 K N dfs ops Q rest σ L:=by
 cases b with
 | true=>exact zsg (zb7 hs zos) (ht rfl)
 | false=>exact zsg (zb7 hs zos) (hf rfl)
theorem zag (h:TC F P w0 K N dfs Q c σ L):TX w0 K N dfs (Exit.then (c.wpIn F 0 P Q) Q) .normal σ L:=h
theorem zaV {id:Nat} {q:Act→World→Prop} (h:TX w0 K N dfs Q (.exit id) σ L):TX w0 K N dfs (Exit.then q Q) (.exit id) σ L:=h
theorem zao {q:Act→World→Prop} (h:TX w0 K N dfs Q .ret σ L):TX w0 K N dfs (Exit.then q Q) .ret σ L:=h
theorem znK {l:Nat} {q:Act→World→Prop} (h:TX w0 K N dfs Q (.goto l) σ L):TX w0 K N dfs (Exit.then q Q) (.goto l) σ L:=h
theorem zah {id:Nat} (h:TX w0 K N dfs Q .normal σ L):TX w0 K N dfs (Exit.inBlock id Q) .normal σ L:=h
theorem zau {id:Nat} (h:TX w0 K N dfs Q .ret σ L):TX w0 K N dfs (Exit.inBlock id Q) .ret σ L:=h
theorem zm3 {id l:Nat} (h:TX w0 K N dfs Q (.goto l) σ L):TX w0 K N dfs (Exit.inBlock id Q) (.goto l) σ L:=h
theorem zbh {id:Nat} (h:TX w0 K N dfs Q .normal σ L):TX w0 K N dfs (Exit.inBlock id Q) (.exit id) σ L:=fun a w ha hw=>by
 show (if id=id then Q .normal a w else Q (.exit id) a w); rw [if_pos rfl]; exact h a w ha hw
theorem zfP {id id':Nat} (hne:id'≠id) (h:TX w0 K N dfs Q (.exit id') σ L):TX w0 K N dfs (Exit.inBlock id Q) (.exit id') σ L:=fun a w ha hw=>by
 show (if id'=id then Q .normal a w else Q (.exit id') a w); rw [if_neg hne]; exact h a w ha hw
theorem zhy (I:Nat→Act→World→Prop) (m:Nat) {a:Act} {w:World} (h₀:I m a w)
  (round:∀ m a w,I m a w→c.wpIn F 0 P (Exit.then (fun a' w'=>∃ m'<m,I m' a' w') Q) a w):(Code.loop c).wpIn F 0 P Q a w:=by
 refine wpIn_loop (fun a w=>∃ m,I m a w) (fun a w=>leastOf (fun m=>I m a w)) ⟨m,h₀⟩ fun a w hI => ?_
 obtain ⟨h1,h2⟩:=leastOf_spec hI
 refine wpIn_mono (round _ a w h1) fun e a' w' hq => ?_
 cases e with
 | normal =>
  obtain ⟨m',hlt,h3⟩:=hq
  exact ⟨⟨m',h3⟩,Nat.lt_of_le_of_lt ((leastOf_spec ⟨m',h3⟩).2 m' h3) hlt⟩
 | _=>exact hq
theorem zkI {β:Type} (I:β→Prop) (σf:β→List (Nat×Value)) (Lf:β→List Asn) (μ:β→Nat) (b0:β) (hI:I b0) (hσ:Sbs σ (σf b0)) (hL:Splits L (Lf b0) R)
  (round:∀ b,I b→TC F P w0 K N dfs (Exit.then (zrC w0 K N I (fun _=>dfs) σf Lf μ b) Q) c (σf b) (Lf b)):TC F P w0 K N dfs Q (.loop c) σ L:=fun a w ha hw=>by
 refine zhy (fun m a w=>∃ b,I b∧μ b=m∧St w0 K N dfs (σf b) (Lf b) a w) (μ b0) ⟨b0,hI,rfl,hσ _ _ _ ha,hw.weaken hL⟩ ?_
 rintro m a w ⟨b,hb,rfl,h1,h2⟩
 refine wpIn_mono (round b hb a w h1 h2) fun e a' w' hq => ?_
 cases e with
 | normal=>obtain ⟨b',h3,h4,h5⟩:=hq; exact ⟨μ b',h4,b',h3,rfl,h5⟩
 | _=>exact hq
theorem zrA {β:Type} {I:β→Prop} {σf:β→List (Nat×Value)} {Lf:β→List Asn} {μ:β→Nat} {b:β} (b':β) (hI:I b') (hμ:μ b'<μ b) (hσ:Sbs σ (σf b')) (hL:Splits L (Lf b') R) :
  TX w0 K N dfs (Exit.then (zrC w0 K N I (fun _=>dfs) σf Lf μ b) Q) .normal σ L:=fun a w ha hw=>⟨b',hI,hμ,hσ _ _ _ ha,hw.weaken hL⟩
theorem zdy {β:Type} (I:β→Prop) (df:β→List Deferred) (σf:β→List (Nat×Value)) (Lf:β→List Asn) (μ:β→Nat) (b0:β) (hI:I b0) (hd:dfs=df b0) (hσ:Sbs σ (σf b0)) (hL:Splits L (Lf b0) R)
  (round:∀ b,I b→TC F P w0 K N (df b) (Exit.then (zrC w0 K N I df σf Lf μ b) Q) c (σf b) (Lf b)):TC F P w0 K N dfs Q (.loop c) σ L:=fun a w ha hw=>by
 subst hd
 refine zhy (fun m a w=>∃ b,I b∧μ b=m∧St w0 K N (df b) (σf b) (Lf b) a w) (μ b0) ⟨b0,hI,rfl,hσ _ _ _ ha,hw.weaken hL⟩ ?_
 rintro m a w ⟨b,hb,rfl,h1,h2⟩
 refine wpIn_mono (round b hb a w h1 h2) fun e a' w' hq => ?_
 cases e with
 | normal=>obtain ⟨b',h3,h4,h5⟩:=hq; exact ⟨μ b',h4,b',h3,rfl,h5⟩
 | _=>exact hq
theorem zcM {β:Type} {I:β→Prop} {df:β→List Deferred} {σf:β→List (Nat×Value)} {Lf:β→List Asn} {μ:β→Nat} {b:β} (b':β) (hI:I b') (hμ:μ b'<μ b) (hd:dfs=df b') (hσ:Sbs σ (σf b')) (hL:Splits L (Lf b') R) :
  TX w0 K N dfs (Exit.then (zrC w0 K N I df σf Lf μ b) Q) .normal σ L:=fun a w ha hw=>by
 subst hd
 exact ⟨b',hI,hμ,hσ _ _ _ ha,hw.weaken hL⟩
theorem zfA {e:Exit} {A':Asn} (hk:L[k]?=some A) (he:A=A') (h:TX w0 K N dfs Q e σ (L.set k A')):TX w0 K N dfs Q e σ L:=fun a w ha hw=>h a w ha (hw.rewE hk he)
theorem ztP {A':Asn} (hk:L[k]?=some A) (he:A=A') (h:TC F P w0 K N dfs Q c σ (L.set k A')):TC F P w0 K N dfs Q c σ L:=fun a w ha hw=>h a w ha (hw.rewE hk he)
theorem zqo {A':Asn} (hk:L[k]?=some A) (he:A=A') (h:TO F P w0 K N dfs ops Q rest σ (L.set k A')):TO F P w0 K N dfs ops Q rest σ L:=fun a w ha hw=>h a w ha (hw.rewE hk he)
theorem zds {e:Exit} {j:Nat} {X:List Asn} (hk:L[k]?=some A) (hj:L[j]?=some (zc0 X)) (hne:k≠j) (h:TX w0 K N dfs Q e σ ((L.set k emp).set j (zc0 (A::X)))):TX w0 K N dfs Q e σ L:=fun a w ha hw=>h a w ha (hw.starCons hk hj hne)
theorem ze3 (h:TC F P w0 K N dfs Q c σ (L++[zc0 []])):TC F P w0 K N dfs Q c σ L:=fun a w ha hw=>h a w ha hw.star0
theorem zf2 [WideF F] {b j i:Nat} {l:List Value} {e:TypeId} {fz:Nat×Nat} (hr:Ro w0 K RO) (hT:zcc P t) (hg:gd ops σ g=some true) (hd:d<N) (hx:ev σ x=some (.pointer (some ⟨b,j,none⟩)))
  (hi:RO[i]?=some (b,.cells l.toArray e fz)) (hj:l[j]?=some v)
  (h:TO F P w0 K N dfs ops Q rest ((d,v)::σ) L):TO F P w0 K N dfs ops Q (⟨some d,.load t x,ty,pos,aft,g⟩::rest) σ L:=by
 obtain ⟨dd,hu,hrow⟩:=hT
 exact zdF hg hd (by simp) (fun a w ha hw=>by
  have hc:w.cell? ⟨b,j,none⟩=some v:=zkD (hw.ro hr hi) (by simpa using hj)
  cases dd <;> simp_all [execOp,ha.ev hx,Instr.loadAt,Instr.sureAddr,loadVar,isAgg,Sem.run_bind,run_underlying hu]) h
def Fn (P:Program) (f:FuncId) (vs:List Value) (As:List Asn) {β:Type} (V:β→Value) (Bs:β→List Asn):Prop :=
 ∀ w C,sepL As C w→Calls P f vs.toArray w fun e w'=>∃ x:β,e=.returned (V x)∧∃ C',sepL (Bs x) C' w'∧Ext C C' w w'
def FnW (P:Program) (f:FuncId) (vs:List Value) (As:List Asn) {β:Type} (V:β→Value) (Bs:β→List Asn) (w:World) (C:Nat→Prop):Prop :=
 sepL As C w→Calls P f vs.toArray w fun e w'=>∃ x:β,e=.returned (V x)∧∃ C',sepL (Bs x) C' w'∧Ext C C' w w'
def FnP (P:Program) (f:FuncId) (vs:List Value) (v:Value):Prop:=∀ w,Calls P f vs.toArray w fun e w'=>e=.returned v∧Below w.heap.size w w'
theorem zhg {f:FuncId} {vs:List Value} {v:Value} (h:∀ w,Calls P f vs.toArray w fun e w'=>e=.returned v∧w=w'):FnP P f vs v:=fun w=>(h w).mono fun e w' ⟨h1,h2⟩=>⟨h1,h2 ▸ Below.refl _ _⟩
theorem FnP.fn {f:FuncId} {vs:List Value} {v:Value} (h:FnP P f vs v):Fn P f vs [] (fun _:Unit=>v) (fun _=>[]):=fun w C hC =>
 (h w).mono fun e w' ⟨h1,h2⟩=>⟨(),h1,C,hC,ziK h2⟩
theorem Fn.p {f:FuncId} {vs:List Value} {v:Value} (h:Fn P f vs [] (fun _:Unit=>v) (fun _=>[])):FnP P f vs v:=fun w =>
 (h w (fun _=>False) (fun _ h=>h)).mono fun e w' ⟨_,h1,C',h2,h3⟩=>⟨h1,h3.toBelow (Nat.le_refl _) (fun _ _ h=>h)⟩
theorem zkF [WideF F] {xs:List Operand} {ats:Array TypeId} {f:FuncId} {first cap:Array Value} {vs vs':List Value} {β:Type} {V:β→Value} {Bs:β→List Asn} {dst:Option Nat}
  (hg:gd ops σ g=some true) (hx:ev σ x=some (.func (.func f) first cap)) (hxs:evL σ xs=some vs) (hv:first.toList++vs++cap.toList=vs')
  (hent:∀ args w,(callFunc f args).run P w=.ok (.enter f args) w) (hF:∀ w C,Ext K C w0 w→FnW P f vs' As V Bs w C) (hs:Splits L As R)
  (h:∀ b a w a',a'=a.put dst (V b)→At N dfs σ a→Holds w0 K (R++Bs b) w→wpListIn F 0 P ops Q rest a' w) :
  TO F P w0 K N dfs ops Q (⟨dst,.call { callee:=.value x,args:=xs.toArray,argTypes:=ats },ty,pos,aft,g⟩::rest) σ L:=by
 intro a w ha hw
 simp only [wpListIn,zgl (o:=⟨dst,.call { callee:=.value x,args:=xs.toArray,argTypes:=ats },ty,pos,aft,g⟩) ha hg,if_true]
 refine ⟨fun f _=>WideF.fn f,?_⟩
 have h1:(execOp a.eval ⟨dst,.call { callee:=.value x,args:=xs.toArray,argTypes:=ats },ty,pos,aft,g⟩).run P w=.ok (.enter f vs'.toArray) w:=by
  have e:first++vs.toArray++cap=vs'.toArray:=by rw [← hv]; simp
  simp only [execOp,resolve,List.map_toArray,ha.evL hxs,ha.ev hx,Deferred.ofValue,Sem.run_bind,Sem.run_pure,Result.andThen_ok,invoke,e,hent]
 rw [Oper.semAt_plain F _ _ (by simp),h1]
 refine ⟨(fun h=>by rw [WideF.depth (F:=F)] at h; cases h),?_⟩
 obtain ⟨C1,hx0,hA,hstep⟩:=hw.splitX hs
 refine WideF.calls ((hF w C1 hx0 hA).mono ?_)
 rintro e w' ⟨b,rfl,C',hB,hx'⟩
 exact h b a w' _ rfl ha (hstep _ _ _ hx' hB)
theorem zlv [WideF F] {xs:List Operand} {ats:Array TypeId} {f:FuncId} {first cap:Array Value} {vs vs':List Value} {β:Type} {V:β→Value} {Bs:β→List Asn} {dst:Option Nat}
  (hg:gd ops σ g=some true) (hx:ev σ x=some (.func (.func f) first cap)) (hxs:evL σ xs=some vs) (hv:first.toList++vs++cap.toList=vs')
  (hent:∀ args w,(callFunc f args).run P w=.ok (.enter f args) w) (hF:Fn P f vs' As V Bs) (hs:Splits L As R)
  (h:∀ b a w a',a'=a.put dst (V b)→At N dfs σ a→Holds w0 K (R++Bs b) w→wpListIn F 0 P ops Q rest a' w) :
  TO F P w0 K N dfs ops Q (⟨dst,.call { callee:=.value x,args:=xs.toArray,argTypes:=ats },ty,pos,aft,g⟩::rest) σ L :=
 zkF hg hx hxs hv hent (fun w C _=>hF w C) hs h
theorem zor [WideF F] {xs:List Operand} {ats:Array TypeId} {f:FuncId} {first cap:Array Value} {vs vs':List Value} {β:Type} {V:β→Value} {Bs:β→List Asn}
  (hg:gd ops σ g=some true) (hd:d<N) (hx:ev σ x=some (.func (.func f) first cap)) (hxs:evL σ xs=some vs) (hv:first.toList++vs++cap.toList=vs')
  (hent:∀ args w,(callFunc f args).run P w=.ok (.enter f args) w) (hF:∀ w C,Ext K C w0 w→FnW P f vs' As V Bs w C) (hs:Splits L As R)
  (h:∀ b,TO F P w0 K N dfs ops Q rest ((d,V b)::σ) (R++Bs b)) :
  TO F P w0 K N dfs ops Q (⟨some d,.call { callee:=.value x,args:=xs.toArray,argTypes:=ats },ty,pos,aft,g⟩::rest) σ L :=
 zkF hg hx hxs hv hent hF hs fun b a w a' ha' ha hw=>by subst ha'; exact h b _ _ (ha.put hd _) hw
theorem zdE [WideF F] {xs:List Operand} {ats:Array TypeId} {f:FuncId} {first cap:Array Value} {vs vs':List Value} {β:Type} {V:β→Value} {Bs:β→List Asn}
  (hg:gd ops σ g=some true) (hd:d<N) (hx:ev σ x=some (.func (.func f) first cap)) (hxs:evL σ xs=some vs) (hv:first.toList++vs++cap.toList=vs')
  (hent:∀ args w,(callFunc f args).run P w=.ok (.enter f args) w) (hF:Fn P f vs' As V Bs) (hs:Splits L As R)
  (h:∀ b,TO F P w0 K N dfs ops Q rest ((d,V b)::σ) (R++Bs b)) :
  TO F P w0 K N dfs ops Q (⟨some d,.call { callee:=.value x,args:=xs.toArray,argTypes:=ats },ty,pos,aft,g⟩::rest) σ L :=
 zlv hg hx hxs hv hent hF hs fun b a w a' ha' ha hw=>by subst ha'; exact h b _ _ (ha.put hd _) hw
theorem zbv [WideF F] {xs:List Operand} {ats:Array TypeId} {f:FuncId} {first cap:Array Value} {vs vs':List Value}
  (hg:gd ops σ g=some true) (hd:d<N) (hx:ev σ x=some (.func (.func f) first cap)) (hxs:evL σ xs=some vs) (hv:first.toList++vs++cap.toList=vs')
  (hent:∀ args w,(callFunc f args).run P w=.ok (.enter f args) w) (hF:FnP P f vs' v) (h:TO F P w0 K N dfs ops Q rest ((d,v)::σ) L) :
  TO F P w0 K N dfs ops Q (⟨some d,.call { callee:=.value x,args:=xs.toArray,argTypes:=ats },ty,pos,aft,g⟩::rest) σ L :=
 zlv hg hx hxs hv hent hF.fn Splits.nil fun b a w a' ha' ha hw=>by
  subst ha'
  rw [List.append_nil] at hw
  exact h _ _ (ha.put hd _) hw
def YC (P:Program) (l:Nat) {α:Type} (enc:α→List Value) (xs:List α) (I X:List α→Asn) (w0:World) (K:Nat→Prop):Prop :=
 ∀ pre x post C W1,xs=pre++x::post→Ext K C w0 W1→(I pre).P C W1 →
  YAt P l (enc x).toArray W1 fun b W2=>∃ C',Ext C C' W1 W2∧((b=true∧(I (pre++[x])).P C' W2)∨(b=false∧(X (pre++[x])).P C' W2))
theorem YC.later {l:Nat} {α:Type} {enc:α→List Value} {xs:List α} {I X:List α→Asn} {w1:World} {K1:Nat→Prop} (h:YC P l enc xs I X w0 K) (hx:Ext K K1 w0 w1):YC P l enc xs I X w1 K1 :=
 fun pre x post C W1 hxs he hi=>h pre x post C W1 hxs (hx.trans he) hi
theorem Holds.focus' {w:World} (h:Holds w0 K L w) (hk:L[k]?=some A):∃ C1,Ext K C1 w0 w∧A.P C1 w∧∀ B C1' w',Ext C1 C1' w w'→B.P C1' w'→Holds w0 K (L.set k B) w':=by
 obtain ⟨C1,h1,h2⟩:=h.focus hk
 have h':=h
 obtain ⟨C,hL,hx⟩:=h'
 obtain ⟨D1,D2,g1,g2,g3,g4⟩:=sepL.take hk hL
 refine ⟨D1,⟨hx.1,fun j hj=>hx.2 j ((g4 j).2 (.inl hj))⟩,g1,?_⟩
 intro B C1' w' he hB
 have hlen:k<L.length:=(List.getElem?_eq_some_iff.1 hk).1
 have hsz:=he.1.size
 have h2':sepL (L.set k emp) D2 w':=g2.loc hsz (fun k hk=>he.1.keep k (g2.lt k hk) (fun h=>g3 k h hk))
 have hd:∀ k,C1' k→¬ D2 k:=fun k h' hk=>by
  rcases he.2 k h' with h | h
  ·exact g3 k h hk
  ·have:=g2.lt k hk; omega
 refine ⟨_,sepL.put hlen hB h2' hd (fun k=>Iff.rfl),hx.1.trans' he.1 (fun i hi hc => ?_),fun k hk => ?_⟩
 ·rcases hx.2 i ((g4 i).2 (.inl hc)) with h | h
  ·exact h
  ·omega
 ·have:=hx.1.size
  rcases hk with hk | hk
  ·rcases he.2 k hk with h | h
   ·rcases hx.2 k ((g4 k).2 (.inl h)) with h | h
    ·exact .inl h
    ·exact .inr (by omega)
   ·exact .inr (by omega)
  ·rcases hx.2 k ((g4 k).2 (.inr hk)) with h | h
   ·exact .inl h
   ·exact .inr (by omega)
theorem znL [WideF F] {xs:List Operand} {ats:Array TypeId} {l:Nat} {α:Type} {enc:α→List Value} {zs:List α} {I X:List α→Asn} {dst:Option Nat} (hy:YC P l enc zs I X w0 K)
  (hg:gd ops σ g=some true) (hx:ev σ x=some (.func (.yield l) #[] #[])) {pre:List α} {e:α} {post:List α} (hz:zs=pre++e::post) (hxs:evL σ xs=some (enc e))
  (hk:L[k]?=some (I pre))
  (ht:∀ a w a',a'=a.put dst (.bool true)→At N dfs σ a→Holds w0 K (L.set k (I (pre++[e]))) w→wpListIn F 0 P ops Q rest a' w)
  (hf:∀ a w a',a'=a.put dst (.bool false)→At N dfs σ a→Holds w0 K (L.set k (X (pre++[e]))) w→wpListIn F 0 P ops Q rest a' w) :
  TO F P w0 K N dfs ops Q (⟨dst,.call { callee:=.value x,args:=xs.toArray,argTypes:=ats },ty,pos,aft,g⟩::rest) σ L:=by
 intro a w ha hw
 simp only [wpListIn,zgl (o:=⟨dst,.call { callee:=.value x,args:=xs.toArray,argTypes:=ats },ty,pos,aft,g⟩) ha hg,if_true]
 refine ⟨fun f _=>WideF.fn f,?_⟩
 obtain ⟨C1,hext,hi,hstep⟩:=hw.focus' hk
 obtain ⟨fn,tmps,assign,body,hrun,hround⟩:=hy pre e post C1 w hz hext hi
 have h1:(execOp a.eval ⟨dst,.call { callee:=.value x,args:=xs.toArray,argTypes:=ats },ty,pos,aft,g⟩).run P w=.ok (.round l fn tmps assign body) w:=by
  simp only [execOp,resolve,List.map_toArray,ha.evL hxs,ha.ev hx,Deferred.ofValue,Sem.run_bind,Sem.run_pure,Result.andThen_ok,invoke,Array.empty_append,hrun]
 rw [Oper.semAt_plain F _ _ (by simp),h1]
 refine ⟨(fun h=>by rw [WideF.depth (F:=F)] at h; cases h),?_⟩
 have hr:RoundIn F 0 P l fn tmps assign body w _:=WideF.rounds hround
 refine hr.mono ?_
 rintro e' w' ⟨b,rfl,C',hx',h | h⟩
 ·obtain ⟨rfl,h⟩:=h
  exact ht a w' _ rfl ha (hstep _ _ _ hx' h)
 ·obtain ⟨rfl,h⟩:=h
  exact hf a w' _ rfl ha (hstep _ _ _ hx' h)
theorem zcX [WideF F] {xs:List Operand} {ats:Array TypeId} {l:Nat} {α:Type} {enc:α→List Value} {zs:List α} {I X:List α→Asn} (hy:YC P l enc zs I X w0 K)
  (hg:gd ops σ g=some true) (hd:d<N) (hx:ev σ x=some (.func (.yield l) #[] #[])) {pre:List α} {e:α} {post:List α} (hz:zs=pre++e::post) (hxs:evL σ xs=some (enc e))
  (hk:L[k]?=some (I pre)) (ht:TO F P w0 K N dfs ops Q rest ((d,.bool true)::σ) (L.set k (I (pre++[e])))) (hf:TO F P w0 K N dfs ops Q rest ((d,.bool false)::σ) (L.set k (X (pre++[e])))) :
  TO F P w0 K N dfs ops Q (⟨some d,.call { callee:=.value x,args:=xs.toArray,argTypes:=ats },ty,pos,aft,g⟩::rest) σ L :=
 znL hy hg hx hz hxs hk (fun a w a' ha' ha hw=>by subst ha'; exact ht _ _ (ha.put hd _) hw) (fun a w a' ha' ha hw=>by subst ha'; exact hf _ _ (ha.put hd _) hw)
end
def zg8 (vs:List Value):List (Nat×Value):=vs.zipIdx.map fun p=>(p.2,p.1)
theorem zi1:∀ (vs:List Value) (k t:Nat) (v:Value),((vs.zipIdx k).map fun p=>(p.2,p.1)).lookup t=some v→k≤t∧vs[t - k]?=some v
 | [],k,t,v,h=>by simp at h
 | u::vs,k,t,v,h=>by
  simp only [List.zipIdx_cons,List.map_cons,List.lookup] at h
  split at h
  ·rename_i e
   have:t=k:=by simpa using e
   subst this; cases h
   simp
  ·rename_i e
   have hne:t≠k:=by simpa using e
   obtain ⟨h1,h2⟩:=zi1 vs (k+1) t v h
   refine ⟨by omega,?_⟩
   rw [show t - k=(t - (k+1))+1 by omega]
   simpa using h2
theorem zj6 {N:Nat} (vs:List Value) (hN:vs.length≤N):At N [] (zg8 vs) { tmps:=vs.toArray++Array.replicate (N - vs.toArray.size) undef,defers:=[] }:=by
 refine ⟨by simp; omega,rfl,fun t v h => ?_⟩
 obtain ⟨_,h2⟩:=zi1 vs 0 t v h
 have h3:vs[t]?=some v:=by simpa using h2
 have hl:t<vs.length:=(List.getElem?_eq_some_iff.1 h3).1
 have h4:(vs.toArray++Array.replicate (N - vs.toArray.size) undef)[t]?=some v:=by
  rw [Array.getElem?_append_left (by simpa using hl)]; simpa using h3
 rw [Array.getD_eq_getD_getElem?,h4]; rfl
def FR (P:Program) {β:Type} (V:β→Value) (Bs:β→List Asn) (w0:World) (K:Nat→Prop) (e:Ending) (w:World):Prop:=∃ x:β,e=.returned (V x)∧Holds w0 K (Bs x) w
section
variable {F:Fence} {P:Program} {w0:World} {K:Nat→Prop} {N:Nat} {dfs:List Deferred} {ops:Array Oper} {Q:Exit→Act→World→Prop} {rest:List Oper} {σ σ':List (Nat×Value)} {L L' R As Bs:List Asn} {o:Oper} {v:Value}
 {d:Nat} {t:TypeId} {op:Op} {ty:TypeId} {pos:String} {aft:Array Edge} {g:Option (Nat×Bool)} {x y z:Operand} {c c1 c2:Code} {k:Nat} {A B:Asn} {RO:List (Nat×Obj)}
theorem Fn.intro {f:FuncId} {fn:Func} {vs:List Value} {β:Type} {V:β→Value} {Bs:β→List Asn} (hf:P.funcs[f]?=some fn) (hb:fn.body=some c) (hn:fn.ntmps=N) (hN:vs.length≤N)
  (h:∀ w0 K,TC Fence.wide P w0 K N [] (bodyPostM Fence.wide 0 P fn (FR P V Bs w0 K)) c (zg8 vs) As):Fn P f vs As V Bs:=by
 subst hn
 intro w C hA
 refine (zge hf hb (h w C _ w (zj6 vs hN) ⟨C,hA,Ext.refl _ _⟩)).mono ?_
 rintro e w' ⟨x,rfl,C',hB,hx⟩
 exact ⟨x,rfl,C',hB,hx⟩
theorem FnW.intro {f:FuncId} {fn:Func} {vs:List Value} {β:Type} {V:β→Value} {Bs:β→List Asn} {w:World} {C:Nat→Prop} (hf:P.funcs[f]?=some fn) (hb:fn.body=some c) (hn:fn.ntmps=N) (hN:vs.length≤N)
  (h:TC Fence.wide P w C N [] (bodyPostM Fence.wide 0 P fn (FR P V Bs w C)) c (zg8 vs) As):FnW P f vs As V Bs w C:=by
 subst hn
 intro hA
 refine (zge hf hb (h _ w (zj6 vs hN) ⟨C,hA,Ext.refl _ _⟩)).mono ?_
 rintro e w' ⟨x,rfl,C',hB,hx⟩
 exact ⟨x,rfl,C',hB,hx⟩
theorem FnP.intro {f:FuncId} {fn:Func} {vs:List Value} (hf:P.funcs[f]?=some fn) (hb:fn.body=some c) (hn:fn.ntmps=N) (hN:vs.length≤N)
  (h:∀ w0 K,TC Fence.wide P w0 K N [] (bodyPostM Fence.wide 0 P fn (FR P (fun _:Unit=>v) (fun _=>[]) w0 K)) c (zg8 vs) []):FnP P f vs v:=Fn.p (Fn.intro hf hb hn hN h)
inductive ResOk (P:Program) (σ:List (Nat×Value)) (L:List Asn):ResultVar→Value→Prop
 | tmp {t:Nat} {v:Value} (h:σ.lookup t=some v):ResOk P σ L (.tmp t) v
 | cell {s b:Nat} {t:TypeId} {k:Nat} {v:Value} {e:TypeId} (hT:zcc P t) (hs:σ.lookup s=some (.pointer (some ⟨b,0,none⟩))) (hk:L[k]?=some (cells b [v] e)):ResOk P σ L (.cell s t) v
 | cells {s b n:Nat} {t:TypeId} {k:Nat} {cs:List Value} {e:TypeId} (hT:zim P t n) (hs:σ.lookup s=some (.pointer (some ⟨b,0,none⟩))) (hk:L[k]?=some (Go.Proofs.YtdnalnmahlakkaaGreatDoor.cells b cs e)) (hn:cs.length=n):ResOk P σ L (.cell s t) (.agg cs.toArray)
inductive ResOks (P:Program) (σ:List (Nat×Value)) (L:List Asn):List ResultVar→List Value→Prop
 | nil:ResOks P σ L [] []
 | cons {r:ResultVar} {rs:List ResultVar} {v:Value} {vs:List Value} (h:ResOk P σ L r v) (hs:ResOks P σ L rs vs):ResOks P σ L (r::rs) (v::vs)
def zhJ:List Value→Value
 | [v]=>v
 | vs=>.tuple vs.toArray
def zkk (tmps:Array Value):ResultVar→Sem Value
 | .tmp t=>pure (tmps.getD t undef)
 | .cell a t=>do loadVar t (← asAddr (tmps.getD a undef))
theorem ResOk.run {r:ResultVar} (h:ResOk P σ L r v) {a:Act} {w:World} (ha:At N dfs σ a) (hw:Holds w0 K L w):(zkk a.tmps r).run P w=.ok v w:=by
 cases h with
 | tmp h=>simp [zkk,ha.2.2 _ _ h]
 | @cell s b t k v e hT hs hk =>
  obtain ⟨dd,hu,hr⟩:=hT
  have hc:=hw.cell hk (j:=0) (v:=v) rfl
  have:=ha.2.2 _ _ hs
  cases dd <;> simp_all [zkk,asAddr,loadVar,isAgg,Sem.run_bind,run_underlying hu]
 | @cells s b n t k cs e hT hs hk hn =>
  subst hn
  obtain ⟨dd,hu,hr,hi⟩:=hT
  have hc:w.rangeAt b 0 cs:=fun i u hu=>hw.cell hk (by simpa using hu)
  have:=ha.2.2 _ _ hs
  simp [zkk,asAddr,Sem.run_bind,this,run_loadVar_mid w b 0 t cs dd hc hu hr hi]
theorem ResOks.run {rs:List ResultVar} {vs:List Value} (h:ResOks P σ L rs vs) {a:Act} {w:World} (ha:At N dfs σ a) (hw:Holds w0 K L w):(rs.mapM (zkk a.tmps)).run P w=.ok vs w:=by
 induction h with
 | nil=>simp
 | cons h hs ih=>simp [List.mapM_cons,Sem.run_bind,h.run ha hw,ih]
theorem zgj {fn:Func} {rs:List ResultVar} {vs:List Value} (hrs:fn.results=rs.toArray) (h:ResOks P σ L rs vs) {a:Act} {w:World} (ha:At N dfs σ a) (hw:Holds w0 K L w):(results fn a.tmps).run P w=.ok (zhJ vs) w:=by
 have h1:=h.run ha hw
 have h2:(fn.results.mapM (zkk a.tmps)).run P w=.ok vs.toArray w:=by
  rw [hrs,List.mapM_toArray,map_eq_pure_bind,Sem.run_bind,h1]; rfl
 have h3:results fn a.tmps=(do let vs ← fn.results.mapM (zkk a.tmps); pure (if h:vs.size=1 then vs[0] else .tuple vs)):=rfl
 rw [h3,Sem.run_bind,h2]
 rcases vs with _ | ⟨v,_ | ⟨u,vs⟩⟩
 ·rfl
 ·rfl
 ·simp [zhJ]
theorem zbA {fn:Func} {rs:List ResultVar} {vs:List Value} {β:Type} {V:β→Value} {Bs:β→List Asn} {e:Exit} (b:β) (he:e=.ret∨e=.normal) (hrs:fn.results=rs.toArray) (hres:ResOks P σ L rs vs) (hv:zhJ vs=V b) (hs:Splits L (Bs b) R) :
  TX w0 K N [] (bodyPostM F 0 P fn (FR P V Bs w0 K)) e σ L:=by
 intro a w ha hw
 have h1:=zgj hrs hres ha hw
 have h2:LeavesInM F 0 P fn a.tmps (FR P V Bs w0 K) a.defers .returning w:=by
  rw [ha.2.1]
  exact ⟨zhJ vs,h1,b,by rw [hv],hw.weaken hs⟩
 rcases he with rfl | rfl <;> exact h2
def zcu (d:Nat):Asn:=obj d (.deferred (some []))
theorem zli {w:World}:∀ {ds:List Nat} {C:Nat→Prop},sepL (ds.map zcu) C w→ds.Nodup∧(∀ d∈ds,w.heap[d]?=some (.deferred (some [])))∧∀ k,C k↔k∈ds
 | [],C,h=>⟨List.nodup_nil,by simp,fun k=>by simp; exact h k⟩
 | d::ds,C,⟨C1,C2,h1,h2,h3,h4⟩=>by
  obtain ⟨g1,g2,g3⟩:=zli h2
  have hd:∀ k,C1 k↔k=d:=h1.1
  refine ⟨List.nodup_cons.2 ⟨fun hm=>h3 d ((hd d).2 rfl) ((g3 d).2 hm),g1⟩,?_,fun k=>by rw [h4,hd,g3]; simp⟩
  intro e he
  rcases List.mem_cons.1 he with rfl | he
  ·exact h1.2
  ·exact g2 e he
theorem znr {fn:Func} {tmps:Array Value} {Rr:Ending→World→Prop} (ds:List Nat) {w:World} (hm:Splits L (ds.map zcu) L') (hw:Holds w0 K L w)
  (h:∀ w',Holds w0 K L' w'→∃ v,(results fn tmps).run P w'=.ok v w'∧Rr (.returned v) w'):LeavesInM Fence.wide 0 P fn tmps Rr (zcK ds) .returning w:=by
 obtain ⟨C,hL,hx⟩:=hw
 obtain ⟨C1,C2,h1,h2,h3,h4⟩:=hm C w hL
 obtain ⟨g1,g2,g3⟩:=zli h1
 refine zjH ds w g1 g2 fun w' hf hsz=>h w' ?_
 refine ⟨C2,h2.loc (by omega) (fun j hj=>hf.keep j (h2.lt j hj) (fun hmem=>h3 j ((g3 j).2 hmem) hj)),hx.1.trans' hf (fun i hi hmem => ?_),fun j hj => ?_⟩
 ·rcases hx.2 i ((h4 i).2 (.inl ((g3 i).2 hmem))) with h | h
  ·exact h
  ·omega
 ·rcases hx.2 j ((h4 j).2 (.inr hj)) with h | h
  ·exact .inl h
  ·exact .inr (by omega)
theorem zcE {fn:Func} {rs:List ResultVar} {vs:List Value} {β:Type} {V:β→Value} {Bs:β→List Asn} {e:Exit} (ds:List Nat) (b:β) (he:e=.ret∨e=.normal) (hm:Splits L (ds.map zcu) L') (hrs:fn.results=rs.toArray)
  (hres:ResOks P σ L' rs vs) (hv:zhJ vs=V b) (hs:Splits L' (Bs b) R):TX w0 K N (zcK ds) (bodyPostM Fence.wide 0 P fn (FR P V Bs w0 K)) e σ L:=by
 intro a w ha hw
 have h2:LeavesInM Fence.wide 0 P fn a.tmps (FR P V Bs w0 K) a.defers .returning w:=by
  rw [ha.2.1]
  exact znr ds hm hw fun w' hw'=>⟨zhJ vs,zgj hrs hres ha hw',b,by rw [hv],hw'.weaken hs⟩
 rcases he with rfl | rfl <;> exact h2
def Itr (P:Program) (gf:FuncId) (caps:List Value) {α:Type} (enc:α→List Value) (xs:List α) (RO:List (Nat×Obj)):Prop :=
 ∀ w,(∀ p∈RO,w.heap[p.1]?=some p.2)→zm0 P gf caps.toArray (fun x=>(enc x).toArray) xs (fun k=>∃ p∈RO,p.1=k) w
def zvg (I:(Nat→Prop)→World→Prop) (hI:∀ C W W',I C W→W.heap.size≤W'.heap.size→(∀ k,C k→W'.heap[k]?=W.heap[k]?)→I C W'):Asn :=
 ⟨fun C w=>I C w∧∀ k,C k→k<w.heap.size,fun h=>h.2,fun h hs hk=>⟨hI _ _ _ h.1 hs hk,fun k hC=>Nat.lt_of_lt_of_le (h.2 k hC) hs⟩⟩
def FY {α:Type} (xs:List α) (I X:List α→Asn) (w0:World) (K:Nat→Prop) (e:Ending) (w:World):Prop :=
 (∃ v,e=.returned v)∧(Holds w0 K [I xs] w∨∃ pre x post,xs=pre++x::post∧Holds w0 K [X (pre++[x])] w)
theorem Itr.intro {gf:FuncId} {fn:Func} {caps:List Value} {α:Type} {enc:α→List Value} {xs:List α} (hf:P.funcs[gf]?=some fn) (hb:fn.body=some c) (hn:fn.ntmps=N) (hN:caps.length+1≤N)
  (h:∀ l w0 K (I X:List α→Asn),Ro w0 K RO→YC P l enc xs I X w0 K →
   TC Fence.wide P w0 K N [] (bodyPostM Fence.wide 0 P fn (FY xs I X w0 K)) c (zg8 (.func (.yield l) #[] #[]::caps)) [I []]):Itr P gf caps enc xs RO:=by
 subst hn
 intro w hRO l I X C0 W hD hsz hC0 hIl hXl hy h0
 have hRo:Ro W C0 RO:=fun p hp=>⟨(hD p.1 ⟨p,hp,rfl⟩).2.trans (hRO p hp),fun hc=>(hC0 _ hc).2 ⟨p,hp,rfl⟩⟩
 have:=h l W C0 (fun pre=>zvg (I pre) (fun C W W'=>hIl pre C W W')) (fun pre=>zvg (X pre) (fun C W W'=>hXl pre C W W')) hRo (fun pre x post C W1 hxs he hi=>by
  obtain ⟨f1,t1,a1,b1,hr1,hr2⟩:=hy pre x post C W1 hxs he hi.1
  refine ⟨f1,t1,a1,b1,hr1,hr2.mono ?_⟩
  rintro e w2 ⟨b,rfl,C',hx,hc⟩
  have hlt:∀ k,C' k→k<w2.heap.size:=fun k hk=>by
   have:=hx.1.size
   rcases hx.2 k hk with h | h
   ·have:=hi.2 k h; omega
   ·exact h.2
  exact ⟨b,rfl,C',hx,hc.imp (fun h=>⟨h.1,h.2,hlt⟩) (fun h=>⟨h.1,h.2,hlt⟩)⟩)
 have hs:(Value.func (.yield l) #[] #[]::caps).toArray=#[.func (.yield l) #[] #[]]++caps.toArray:=by simp
 rw [← hs]
 refine (zge hf hb (this _ W (zj6 _ (by simpa using hN)) ⟨C0,sepL.one ⟨h0,fun k hk=>(hC0 k hk).1⟩,Ext.refl _ _⟩)).mono ?_
 rintro e w' ⟨he,hh⟩
 refine ⟨he,?_⟩
 rcases hh with ⟨C',hh,hx⟩ | ⟨pre,x,post,hxs,C',hh,hx⟩
 ·obtain ⟨C1,C2,g1,g2,_,g4⟩:=hh
  have:C'=C1:=funext fun k=>propext (by rw [g4]; exact ⟨fun h=>h.resolve_right (g2 k),.inl⟩)
  subst this
  exact ⟨C',hx,.inl g1.1⟩
 ·obtain ⟨C1,C2,g1,g2,_,g4⟩:=hh
  have:C'=C1:=funext fun k=>propext (by rw [g4]; exact ⟨fun h=>h.resolve_right (g2 k),.inl⟩)
  subst this
  exact ⟨C',hx,.inr ⟨pre,x,post,hxs,g1.1⟩⟩
theorem zfD {fn:Func} {α:Type} {xs:List α} {I X:List α→Asn} {e:Exit} (ds:List Nat) (he:e=.ret∨e=.normal) (hm:Splits L (ds.map zcu) L') (hrs:fn.results=#[]) (hA:I xs=A) (hs:Splits L' [A] R) :
  TX w0 K N (zcK ds) (bodyPostM Fence.wide 0 P fn (FY xs I X w0 K)) e σ L:=by
 subst hA
 intro a w ha hw
 have h2:LeavesInM Fence.wide 0 P fn a.tmps (FY xs I X w0 K) a.defers .returning w:=by
  rw [ha.2.1]
  exact znr ds hm hw fun w' hw'=>⟨_,zgj (rs:=[]) hrs .nil ha hw',⟨_,rfl⟩,.inl (hw'.weaken hs)⟩
 rcases he with rfl | rfl <;> exact h2
theorem zfi {fn:Func} {α:Type} {xs:List α} {I X:List α→Asn} {e:Exit} (ds:List Nat) (pre:List α) (x:α) (post:List α) (hxs:xs=pre++x::post) (he:e=.ret∨e=.normal) (hm:Splits L (ds.map zcu) L') (hrs:fn.results=#[]) (hs:Splits L' [X (pre++[x])] R) :
  TX w0 K N (zcK ds) (bodyPostM Fence.wide 0 P fn (FY xs I X w0 K)) e σ L:=by
 intro a w ha hw
 have h2:LeavesInM Fence.wide 0 P fn a.tmps (FY xs I X w0 K) a.defers .returning w:=by
  rw [ha.2.1]
  exact znr ds hm hw fun w' hw'=>⟨_,zgj (rs:=[]) hrs .nil ha hw',⟨_,rfl⟩,.inr ⟨pre,x,post,hxs,hw'.weaken hs⟩⟩
 rcases he with rfl | rfl <;> exact h2
def RQ {α β γ:Type} (Inv:List α→β→Prop) (LI:List α→β→List Asn) (X:Code→List α→γ→Prop) (LX:Code→List α→γ→List Asn) (pre:List α) (w1:World) (K1:Nat→Prop):Exit→Act→World→Prop
 | .normal,_,w=>∃ b,Inv pre b∧Holds w1 K1 (LI pre b) w
 | .ret,_,w=>∃ b,X .ret pre b∧Holds w1 K1 (LX .ret pre b) w
 | .exit id,_,w=>∃ b,X (.exit id) pre b∧Holds w1 K1 (LX (.exit id) pre b) w
 | .goto l,_,w=>∃ b,X (.goto l) pre b∧Holds w1 K1 (LX (.goto l) pre b) w
 | .panic _,_,_=>False
 | .outgrown,_,_=>False
section
variable {α β γ:Type} {Inv:List α→β→Prop} {LI:List α→β→List Asn} {X:Code→List α→γ→Prop} {LX:Code→List α→γ→List Asn} {pre:List α}
theorem zcj (b:β) (h:Inv pre b) (hs:Splits L (LI pre b) R):TX w0 K N dfs (RQ Inv LI X LX pre w0 K) .normal σ L:=fun a w ha hw=>⟨b,h,hw.weaken hs⟩
theorem zcv (b:γ) (h:X .ret pre b) (hs:Splits L (LX .ret pre b) R):TX w0 K N dfs (RQ Inv LI X LX pre w0 K) .ret σ L:=fun a w ha hw=>⟨b,h,hw.weaken hs⟩
theorem zjL {id:Nat} (b:γ) (h:X (.exit id) pre b) (hs:Splits L (LX (.exit id) pre b) R):TX w0 K N dfs (RQ Inv LI X LX pre w0 K) (.exit id) σ L:=fun a w ha hw=>⟨b,h,hw.weaken hs⟩
end
def ziM (ps:List Nat) (vs:List Value) (σ:List (Nat×Value)):List (Nat×Value):=(ps.zip vs).foldl (fun σ p=>p::σ) σ
theorem At.zip {a:Act} (h:At N dfs σ a) (ps:List Nat) (vs:List Value) (hp:∀ p∈ps,p<N):At N [] (ziM ps vs σ) { tmps:=(ps.toArray.zip vs.toArray).foldl (fun t p=>t.setIfInBounds p.1 p.2) a.tmps,defers:=[] }:=by
 have key:∀ (l:List (Nat×Value)) (σ:List (Nat×Value)) (tm:Array Value),(∀ p∈l,p.1<N)→At N [] σ { tmps:=tm,defers:=[] } →
   At N [] (l.foldl (fun σ p=>p::σ) σ) { tmps:=l.foldl (fun t p=>t.setIfInBounds p.1 p.2) tm,defers:=[] }:=by
  intro l
  induction l with
  | nil=>intro σ tm _ h; exact h
  | cons p l ih =>
   intro σ tm hp h
   simp only [List.foldl_cons]
   exact ih _ _ (fun q hq=>hp q (List.mem_cons_of_mem _ hq)) (h.put (hp p (List.mem_cons_self ..)) p.2)
 have:=key (ps.zip vs) σ a.tmps (fun p hp'=>hp _ (List.of_mem_zip hp').1) ⟨h.1,rfl,h.2.2⟩
 simpa [ziM] using this
theorem Holds.split2 {w:World} (h:Holds w0 K L w) (hs:Splits L As R):∃ C1 C2,sepL As C1 w∧sepL R C2 w∧(∀ k,C1 k→¬ C2 k)∧Ext K C1 w0 w∧∀ Bs C1' w',Ext C1 C1' w w'→sepL Bs C1' w'→Holds w0 K (R++Bs) w':=by
 have h0:=h
 obtain ⟨C,hL,hx⟩:=h
 obtain ⟨C1,C2,h1,h2,h3,h4⟩:=hs C w hL
 refine ⟨C1,C2,h1,h2,h3,⟨hx.1,fun k hk=>hx.2 k ((h4 k).2 (.inl hk))⟩,fun Bs C1' w' he hB => ?_⟩
 have hsz:=he.1.size
 have h2':sepL R C2 w':=h2.loc hsz (fun k hk=>he.1.keep k (h2.lt k hk) (fun h=>h3 k h hk))
 have hd:∀ k,C2 k→¬ C1' k:=fun k hk h'=>by
  rcases he.2 k h' with h | h
  ·exact h3 k h hk
  ·have:=h2.lt k hk; omega
 refine ⟨_,h2'.append hB hd,hx.1.trans' he.1 (fun i hi hc => ?_),fun k hk => ?_⟩
 ·rcases hx.2 i ((h4 i).2 (.inl hc)) with h | h
  ·exact h
  ·omega
 ·have:=hx.1.size
  rcases hk with hk | hk
  ·rcases hx.2 k ((h4 k).2 (.inr hk)) with h | h
   ·exact .inl h
   ·exact .inr (by omega)
  ·rcases he.2 k hk with h | h
   ·rcases hx.2 k ((h4 k).2 (.inl h)) with h | h
    ·exact .inl h
    ·exact .inr (by omega)
   ·exact .inr (by omega)
def Reads (R:List Asn) (RO:List (Nat×Obj)):List (Nat×Obj)→Prop
 | []=>True
 | p::ps=>((∃ k:Nat,R[k]?=some (obj p.1 p.2))∨∃ k:Nat,RO[k]?=some p)∧Reads R RO ps
theorem Reads.mem {R:List Asn} {RO:List (Nat×Obj)}:∀ {D:List (Nat×Obj)},Reads R RO D→∀ p∈D,((∃ k:Nat,R[k]?=some (obj p.1 p.2))∨∃ k:Nat,RO[k]?=some p)
 | [],_,p,hp=>by cases hp
 | q::D,h,p,hp=>by
  rcases List.mem_cons.1 hp with rfl | hp
  ·exact h.1
  ·exact Reads.mem h.2 p hp
theorem sepL.mem {b:Nat} {o:Obj}:∀ {R:List Asn} {C:Nat→Prop} {w:World} {k:Nat},R[k]?=some (obj b o)→sepL R C w→w.heap[b]?=some o∧C b:=by
 intro R C w k hk h
 obtain ⟨C1,C2,h1,_,_,h4⟩:=sepL.take hk h
 exact ⟨h1.2,(h4 b).2 (.inl ((h1.1 b).2 rfl))⟩
theorem Ro.snoc {RO:List (Nat×Obj)} {b:Nat} {o:Obj} (h:Ro w0 K RO) (hb:w0.heap[b]?=some o) (hn:¬ K b):Ro w0 K (RO++[(b,o)]):=fun p hp=>by
 rcases List.mem_append.1 hp with hp | hp
 ·exact h p hp
 ·rw [List.mem_singleton.1 hp]; exact ⟨hb,hn⟩
section
variable {α β γ δ:Type}
theorem zfF {gf:FuncId} {caps:List Value} {enc:α→List Value} {xs:List α} {D:List (Nat×Obj)} {ps:List Nat} {assign body:Code} (hRo:Ro w0 K RO)
  (hg:ev σ x=some (.func (.func gf) #[] caps.toArray)) (hent:∀ args w,(callFunc gf args).run P w=.ok (.enter gf args) w) (hY:Itr P gf caps enc xs D)
  (Inv:List α→β→Prop) (LI:List α→β→List Asn) (X:Code→List α→γ→Prop) (LX:Code→List α→γ→List Asn) (σJ:List α→α→β→δ→List (Nat×Value)) (LJ:List α→α→β→δ→List Asn) (b0:β)
  (h0:Inv [] b0) (hs:Splits L (LI [] b0) R) (hD:Reads R RO D) (hps:∀ x,(enc x).length=ps.length) (hpN:∀ p∈ps,p<N)
  (hassign:∀ l r pre e post b w1 K1,xs=pre++e::post→Ext K K1 w0 w1→Ro w1 K1 (RO++[(l,.loop r)])→Inv pre b →
   TC (Fence.wide.inRound l) P w1 K1 N [] (Exit.then (fun a w=>∃ j,St w1 K1 N [] (σJ pre e b j) (LJ pre e b j) a w) (fun _ _ _=>False)) assign (ziM ps (enc e) σ) (LI pre b))
  (hbody:∀ l r pre e post b j w1 K1,xs=pre++e::post→Ext K K1 w0 w1→Ro w1 K1 (RO++[(l,.loop r)])→Inv pre b→TC (Fence.wide.inRound l) P w1 K1 N [] (RQ Inv LI X LX (pre++[e]) w1 K1) body (σJ pre e b j) (LJ pre e b j))
  (hdone:∀ d b,Inv xs b→TX w0 K N ({ target:=.collected d,args:=#[] }::dfs) Q .normal σ (R++(LI xs b++[zcu d])))
  (hstop:∀ d c pre e post b,xs=pre++e::post→X c (pre++[e]) b→TC Fence.wide P w0 K N ({ target:=.collected d,args:=#[] }::dfs) Q c σ (R++(LX c (pre++[e]) b++[zcu d]))) :
  TC Fence.wide P w0 K N dfs Q (.rangeFunc x ps.toArray assign body) σ L:=by
 intro a w ha hw
 obtain ⟨C1,C2,g1,g2,g3,gx,hstep⟩:=hw.split2 hs
 have hDh:∀ p∈D,w.heap[p.1]?=some p.2∧¬ C1 p.1:=fun p hp=>by
  rcases hD.mem p hp with ⟨k,hk⟩ | ⟨k,hk⟩
  ·obtain ⟨h1,h2⟩:=sepL.mem hk g2
   exact ⟨h1,fun h=>g3 _ h h2⟩
  ·refine ⟨hw.ro hRo hk,fun h => ?_⟩
   obtain ⟨h1,h2⟩:=hRo _ (List.mem_of_getElem? hk)
   rcases gx.2 _ h with h | h
   ·exact h2 h
   ·have:=zdn h1; omega
 have hlt1:=g1.lt
 have hro1:∀ {C:Nat→Prop} {W:World},Ext K C w0 W→Ro W C RO:=fun {C W} hx p hp=>by
  obtain ⟨h1,h2⟩:=hRo p hp
  refine ⟨hx.1.at h1 h2,fun h => ?_⟩
  rcases hx.2 _ h with h | h
  ·exact h2 h
  ·have:=zdn h1; omega
 refine znR (gf:=gf) (lb:=caps.toArray) (ha.ev hg) hent (hY w (fun p hp=>(hDh p hp).1)) (fun k ⟨p,hp,hk⟩=>⟨hk ▸ zdn (hDh p hp).1,rfl⟩) (Nat.le_refl _) (fun e=>by simp [hps])
  (fun pre C W=>∃ b,Inv pre b∧sepL (LI pre b) C W) (fun c pre C W=>∃ b,X c pre b∧sepL (LX c pre b) C W)
  (fun pre e a1 C W=>∃ b j,Inv pre b∧At N [] (σJ pre e b j) a1∧sepL (LJ pre e b j) C W) ?_ ?_ ?_ C1 (fun k hk=>⟨hlt1 k hk,fun ⟨p,hp,e⟩=>(hDh p hp).2 (e ▸ hk)⟩) ⟨b0,h0,g1⟩ ?_ ?_ ?_ ?_
 ·rintro pre C W W' ⟨b,h1,h2⟩ hs hk; exact ⟨b,h1,h2.loc hs hk⟩
 ·rintro c pre C W W' ⟨b,h1,h2⟩ hs hk; exact ⟨b,h1,h2.loc hs hk⟩
 ·rintro pre e a1 _ C W W' ⟨b,j,h1,h2,h3⟩ hs hk; exact ⟨b,j,h1,h2,h3.loc hs hk⟩
 ·rintro l pre e post C W1 hxs hext ⟨b,hb,hi⟩ hn hl ⟨r,hr⟩
  have hx1:Ext K C w0 W1:=gx.trans hext
  refine wpIn_mono (hassign l r pre e post b W1 C hxs hx1 ((hro1 hx1).snoc hr hn) hb _ W1 (ha.zip ps (enc e) hpN) ⟨C,hi,Ext.refl _ _⟩) ?_
  rintro ex a' w' hq
  cases ex with
  | normal =>
   obtain ⟨j,hj,C',hL',hx'⟩:=hq
   exact ⟨C',hx',b,j,hb,hj,hL'⟩
  | _=>exact hq
 ·rintro l pre e post C W1 a1 hxs hext ⟨b,j,hb,hat,hi⟩ hn hl ⟨r,hr⟩
  have hx1:Ext K C w0 W1:=gx.trans hext
  refine wpIn_mono (hbody l r pre e post b j W1 C hxs hx1 ((hro1 hx1).snoc hr hn) hb a1 W1 hat ⟨C,hi,Ext.refl _ _⟩) ?_
  rintro ex a' w' hq
  cases ex with
  | normal=>obtain ⟨b',h1,C',h2,h3⟩:=hq; exact ⟨C',h3,b',h1,h2⟩
  | ret=>obtain ⟨b',h1,C',h2,h3⟩:=hq; exact ⟨C',h3,b',h1,h2⟩
  | exit id=>obtain ⟨b',h1,C',h2,h3⟩:=hq; exact ⟨C',h3,b',h1,h2⟩
  | goto id=>obtain ⟨b',h1,C',h2,h3⟩:=hq; exact ⟨C',h3,b',h1,h2⟩
  | panic _=>exact hq
  | outgrown=>exact hq
 ·rintro d C W hext ⟨b,hb,hi⟩ hd hCd hdef
  refine hdone d b hb _ W ⟨ha.1,by rw [← ha.2.1],ha.2.2⟩ (hstep _ (fun k=>C k∨k=d) W ⟨hext.1,fun k hk => ?_⟩ ?_)
  ·rcases hk with hk | rfl
   ·exact hext.2 k hk
   ·exact .inr ⟨hd,zdn hdef⟩
  ·exact hi.append (sepL.one ⟨fun k=>Iff.rfl,hdef⟩) (fun k hk e=>hCd (e ▸ hk))
 ·rintro d c pre e post C W hxs hext ⟨b,hb,hi⟩ hd hCd hdef
  refine hstop d c pre e post b hxs hb _ W ⟨ha.1,by rw [← ha.2.1],ha.2.2⟩ (hstep _ (fun k=>C k∨k=d) W ⟨hext.1,fun k hk => ?_⟩ ?_)
  ·rcases hk with hk | rfl
   ·exact hext.2 k hk
   ·exact .inr ⟨hd,zdn hdef⟩
  ·exact hi.append (sepL.one ⟨fun k=>Iff.rfl,hdef⟩) (fun k hk e=>hCd (e ▸ hk))
end
end
def zdl:List Nat→Bool
 | []=>true
 | x::l=>!l.contains x&&zdl l
theorem zgf:∀ {l:List Nat},zdl l=true→l.Nodup
 | [],_=>List.nodup_nil
 | x::l,h=>by
  simp only [zdl,Bool.and_eq_true,Bool.not_eq_true'] at h
  exact List.nodup_cons.2 ⟨by have:=h.1; simpa using this,zgf h.2⟩
open Classical in
noncomputable def dl (D:Nat→Prop):List (Nat×Nat×Value)→List (Nat×Value)
 | []=>[]
 | (i,t,v)::r=>if D i then (t,v)::dl D r else dl D r
theorem zjx {D:Nat→Prop} {σ:List (Nat×Value)}:∀ {vals:List (Nat×Nat×Value)} {m i t:Nat} {v:Value},(vals.map (fun p=>p.2.1)).Nodup→vals[m]?=some (i,t,v)→D i→(dl D vals++σ).lookup t=some v
 | [],m,i,t,v,_,hm,_=>by simp at hm
 | (i',t',v')::r,0,i,t,v,hu,hm,hd=>by
  simp at hm
  obtain ⟨rfl,rfl,rfl⟩:=hm
  simp [dl,hd]
 | (i',t',v')::r,m+1,i,t,v,hu,hm,hd=>by
  simp only [List.map_cons,List.nodup_cons] at hu
  have hm':r[m]?=some (i,t,v):=by simpa using hm
  have ih:=zjx (σ:=σ) hu.2 hm' hd
  have hne:(t==t')=false:=by
   have:t∈r.map (fun p=>p.2.1):=List.mem_map.2 ⟨_,List.mem_of_getElem? hm',rfl⟩
   simp; rintro rfl; exact hu.1 this
  simp only [dl]
  split
  ·simp only [List.cons_append,List.lookup,hne]; exact ih
  ·exact ih
theorem zaU {D:Nat→Prop} {σ:List (Nat×Value)} {vals:List (Nat×Nat×Value)} {m i t:Nat} {v:Value} (hu:zdl (vals.map (fun p=>p.2.1))=true) (hm:vals[m]?=some (i,t,v)) (hd:D i):(dl D vals++σ).lookup t=some v:=zjx (zgf hu) hm hd
theorem za3 {D:Nat→Prop} {σ:List (Nat×Value)} {t:Nat} {v:Value}:∀ {vals:List (Nat×Nat×Value)},(vals.map (fun p=>p.2.1)).contains t=false→σ.lookup t=some v→(dl D vals++σ).lookup t=some v
 | [],_,h=>h
 | (i',t',v')::r,hc,h=>by
  simp only [List.map_cons,List.contains_cons,Bool.or_eq_false_iff] at hc
  have ih:=za3 (D:=D) hc.2 h
  simp only [dl]
  split
  ·simp only [List.cons_append,List.lookup,hc.1]; exact ih
  ·exact ih
theorem zp6 {D:Nat→Prop} {σ:List (Nat×Value)} {t:Nat}:∀ {vals:List (Nat×Nat×Value)},(vals.map (fun p=>p.2.1)).contains t=false→(dl D vals++σ).lookup t=σ.lookup t
 | [],_=>rfl
 | (i',t',v')::r,hc=>by
  simp only [List.map_cons,List.contains_cons,Bool.or_eq_false_iff] at hc
  have ih:=zp6 (D:=D) (σ:=σ) hc.2
  simp only [dl]
  split
  ·simp only [List.cons_append,List.lookup,hc.1]; exact ih
  ·exact ih
theorem zsh {D:Nat→Prop} {σ:List (Nat×Value)} {vals:List (Nat×Nat×Value)} {m i t:Nat} {v:Value} (hu:(vals.map (fun p=>p.2.1)).Nodup) (hi:(vals.map (fun p=>p.1)).Nodup) (hm:vals[m]?=some (i,t,v)) :
  Sbs ((t,v)::(dl D vals++σ)) (dl (fun j=>D j∨j=i) vals++σ):=by
 have key:∀ (l:List (Nat×Nat×Value)) (s:Nat) (u:Value),(∀ p∈l,p.1=i→p.2.1=t∧p.2.2=v)→(∀ p∈l,p.2.1=t→p.1=i)→(Go.Proofs.YtdnalnmahlakkaaGreatDoor.dl (fun j=>D j∨j=i) l++σ).lookup s=some u→s≠t→(Go.Proofs.YtdnalnmahlakkaaGreatDoor.dl D l++σ).lookup s=some u:=by
  intro l
  induction l with
  | nil=>intro s u _ _ h _; exact h
  | cons p l ih =>
   obtain ⟨i',t',v'⟩:=p
   intro s u h1 h2 h hne
   have ih:=fun h=>ih s u (fun p hp=>h1 p (List.mem_cons_of_mem _ hp)) (fun p hp=>h2 p (List.mem_cons_of_mem _ hp)) h hne
   simp only [Go.Proofs.YtdnalnmahlakkaaGreatDoor.dl] at h ⊢
   by_cases hd:D i'
   ·rw [if_pos (.inl hd)] at h
    rw [if_pos hd]
    simp only [List.cons_append,List.lookup] at h ⊢
    split at h
    ·exact h
    ·exact ih h
   ·rw [if_neg hd]
    by_cases hi':i'=i
    ·rw [if_pos (.inr hi')] at h
     obtain ⟨h3,_⟩:=h1 _ (List.mem_cons_self ..) hi'
     have h4:t'=t:=h3
     simp only [List.cons_append,List.lookup] at h
     split at h
     ·rename_i e
      exact absurd ((by simpa using e:s=t').trans h4) hne
     ·exact ih h
    ·rw [if_neg (by rintro (h | h); exact hd h; exact hi' h)] at h
     exact ih h
 have h1:∀ p∈vals,p.1=i→p.2.1=t∧p.2.2=v:=by
  intro p hp e
  obtain ⟨n,hn⟩:=List.mem_iff_getElem?.1 hp
  have e1:(vals.map (fun p=>p.1))[n]?=some i:=by simp [hn,e]
  have e2:(vals.map (fun p=>p.1))[m]?=some i:=by simp [hm]
  have hl:n<(vals.map (fun p=>p.1)).length:=(List.getElem?_eq_some_iff.1 e1).1
  have:=(List.getElem?_inj hl hi).1 (e1.trans e2.symm)
  subst this
  rw [hn] at hm; cases hm; exact ⟨rfl,rfl⟩
 have h2:∀ p∈vals,p.2.1=t→p.1=i:=by
  intro p hp e
  obtain ⟨n,hn⟩:=List.mem_iff_getElem?.1 hp
  have e1:(vals.map (fun p=>p.2.1))[n]?=some t:=by simp [hn,e]
  have e2:(vals.map (fun p=>p.2.1))[m]?=some t:=by simp [hm]
  have hl:n<(vals.map (fun p=>p.2.1)).length:=(List.getElem?_eq_some_iff.1 e1).1
  have:=(List.getElem?_inj hl hu).1 (e1.trans e2.symm)
  subst this
  rw [hn] at hm; cases hm; rfl
 intro a N dfs ha
 refine ⟨ha.1,ha.2.1,fun s u hs => ?_⟩
 by_cases hst:s=t
 ·subst hst
  have:=zjx (σ:=σ) (D:=fun j=>D j∨j=i) hu hm (.inr rfl)
  rw [this] at hs; cases hs
  exact ha.2.2 _ _ (by simp [List.lookup])
 ·refine ha.2.2 s u ?_
  have hne:(s==t)=false:=by simpa using hst
  simp only [List.lookup,hne]
  exact key vals s u h1 h2 hs hst
theorem zp5 {D:Nat→Prop} {i:Nat}:∀ {vals:List (Nat×Nat×Value)},(vals.map (fun p=>p.1)).contains i=false→dl (fun j=>D j∨j=i) vals=dl D vals
 | [],_=>rfl
 | (i',t',v')::r,hc=>by
  simp only [List.map_cons,List.contains_cons,Bool.or_eq_false_iff] at hc
  have ih:=zp5 (D:=D) hc.2
  have hne:¬ i'=i:=by have:=hc.1; simp at this; exact fun h=>this h.symm
  simp only [dl,ih]
  by_cases hd:D i'
  ·rw [if_pos (.inl hd),if_pos hd]
  ·rw [if_neg hd,if_neg (by rintro (h | h); exact hd h; exact hne h)]
theorem zlp:∀ {D:Nat→Prop} {vals:List (Nat×Nat×Value)},(∀ p∈vals,D p.1)→dl D vals=vals.map (fun p=>p.2)
 | D,[],_=>rfl
 | D,(i',t',v')::r,h=>by
  simp only [dl,List.map_cons]
  rw [if_pos (h _ (List.mem_cons_self ..)),zlp (fun p hp=>h p (List.mem_cons_of_mem _ hp))]
theorem zj4:∀ {vals:List (Nat×Nat×Value)},dl (fun _=>False) vals=[]
 | []=>rfl
 | (i',t',v')::r=>by simp [dl,zj4]
def zjy (acc:List (List Nat)) (o:Oper):List (List Nat):=acc++[(zdA o++(zdA o).flatMap (fun j=>acc.getD j [])).eraseDups]
def zqz (l:List Oper):List (List Nat):=l.foldl zjy []
def zlf (l:List Oper) (n:Nat):Bool:=((zqz l).zipIdx.drop n).all fun p=>(List.range p.2).all fun j=>p.1.contains j
def zsi (full:List Oper) (acc:List (List Nat)):Prop :=
 ∀ i o,i<acc.length→full[i]?=some o→∀ j∈acc.getD i [],∀ (D:Nat→Prop),(∀ k o',full[k]?=some o'→D k→∀ j∈zdA o',D j)→(∀ j∈zdA o,D j)→D j
theorem zma:∀ (l done:List Oper) (acc:List (List Nat)),acc.length=done.length→zsi (done++l) acc→(l.foldl zjy acc).length=(done++l).length∧zsi (done++l) (l.foldl zjy acc)
 | [],done,acc,hl,hB=>⟨by simpa using hl,hB⟩
 | o::l,done,acc,hl,hB=>by
  have:=zma l (done++[o]) (zjy acc o) (by simp [zjy,hl]) (by
   rw [List.append_assoc]
   intro i o' hi ho j hj D hD hd
   unfold zjy at hi hj
   by_cases hlt:i<acc.length
   ·rw [List.getD_eq_getElem?_getD,List.getElem?_append_left hlt] at hj
    exact hB i o' hlt ho j (by rw [List.getD_eq_getElem?_getD]; exact hj) D hD hd
   ·have hil:i=acc.length:=by simp at hi; omega
    subst hil
    have ho':o=o':=by rw [hl] at ho; simpa using ho
    subst ho'
    rw [List.getD_eq_getElem?_getD] at hj
    simp only [List.getElem?_concat_length,Option.getD_some,List.mem_eraseDups,List.mem_append,List.mem_flatMap] at hj
    rcases hj with hj | ⟨k,hk,hj⟩
    ·exact hd j hj
    ·have hkD:=hd k hk
     by_cases hkl:k<acc.length
     ·obtain ⟨ok,hok⟩:∃ ok,(done++o::l)[k]?=some ok:=⟨_,List.getElem?_eq_getElem (by simp; omega)⟩
      exact hB k ok hkl hok j hj D hD (hD k ok hok hkD)
     ·rw [List.getD_eq_getElem?_getD,List.getElem?_eq_none (by omega)] at hj
      simp at hj)
  rwa [List.append_assoc] at this
theorem zl9 (l:List Oper):(zqz l).length=l.length:=(zma l [] [] rfl (fun i o h=>by simp at h)).1
theorem zqk (l:List Oper) (i:Nat) (o:Oper) (ho:l[i]?=some o):∀ j∈(zqz l).getD i [],∀ (D:Nat→Prop),(∀ k o',l[k]?=some o'→D k→∀ j∈zdA o',D j)→(∀ j∈zdA o,D j)→D j :=
 (zma l [] [] rfl (fun i o h=>by simp at h)).2 i o (by have:=zl9 l; unfold zqz at this; rw [this]; exact (List.getElem?_eq_some_iff.1 ho).1) ho
section
variable {F:Fence} {P:Program} {w0:World} {K:Nat→Prop} {N:Nat} {dfs:List Deferred} {Q:Exit→Act→World→Prop} {σ:List (Nat×Value)} {L:List Asn}
def DrawPre (F:Fence) (P:Program) (w0:World) (K:Nat→Prop) (N:Nat) (dfs:List Deferred) (Q:Exit→Act→World→Prop) (ops:Array Oper) (σ:List (Nat×Value)) (L:List Asn) (vals:List (Nat×Nat×Value)):List Oper→Nat→Prop
 | [],_=>True
 | o::rest,i=>(∀ D:Nat→Prop,¬ D i→(∀ j∈zdA o,D j)→Clo ops D→zdl (vals.map (fun p=>p.2.1))=true→zdl (vals.map (fun p=>p.1))=true →
   TO F P w0 K N dfs ops (Exit.then (fun a w=>At N dfs (dl (fun j=>D j∨j=i) vals++σ) a∧Holds w0 K L w) Q) [o] (dl D vals++σ) L)∧DrawPre F P w0 K N dfs Q ops σ L vals rest (i+1)
theorem DrawPre.nil {ops:Array Oper} {vals:List (Nat×Nat×Value)} {i:Nat}:DrawPre F P w0 K N dfs Q ops σ L vals [] i:=trivial
theorem zae {ops:Array Oper} {vals:List (Nat×Nat×Value)} {o:Oper} {rest:List Oper} {i:Nat} (h:∀ D:Nat→Prop,¬ D i→(∀ j∈zdA o,D j)→Clo ops D→zdl (vals.map (fun p=>p.2.1))=true→zdl (vals.map (fun p=>p.1))=true →
   TO F P w0 K N dfs ops (Exit.then (fun a w=>At N dfs (dl (fun j=>D j∨j=i) vals++σ) a∧Holds w0 K L w) Q) [o] (dl D vals++σ) L) (hs:DrawPre F P w0 K N dfs Q ops σ L vals rest (i+1)) :
  DrawPre F P w0 K N dfs Q ops σ L vals (o::rest) i:=⟨h,hs⟩
theorem DrawPre.get {ops:Array Oper} {vals:List (Nat×Nat×Value)}:∀ {l:List Oper} {k:Nat},DrawPre F P w0 K N dfs Q ops σ L vals l k→∀ i o,l[i]?=some o→∀ D:Nat→Prop,¬ D (k+i)→(∀ j∈zdA o,D j)→Clo ops D→zdl (vals.map (fun p=>p.2.1))=true→zdl (vals.map (fun p=>p.1))=true →
   TO F P w0 K N dfs ops (Exit.then (fun a w=>At N dfs (dl (fun j=>D j∨j=k+i) vals++σ) a∧Holds w0 K L w) Q) [o] (dl D vals++σ) L
 | [],k,_,i,o,h=>by simp at h
 | x::l,k,h,0,o,ho=>by simp at ho; subst ho; exact h.1
 | x::l,k,h,i+1,o,ho=>by
  have:=DrawPre.get h.2 i o (by simpa using ho)
  rwa [show k+1+i=k+(i+1) by omega] at this
theorem zbf {ops:Array Oper} {vals:List (Nat×Nat×Value)} {D:Nat→Prop} (m:Nat) {i t:Nat} {v:Value} (hu:zdl (vals.map (fun p=>p.2.1))=true) (hi:zdl (vals.map (fun p=>p.1))=true) (hm:vals[m]?=some (i,t,v)) :
  TO F P w0 K N dfs ops (Exit.then (fun a w=>At N dfs (Go.Proofs.YtdnalnmahlakkaaGreatDoor.dl (fun j=>D j∨j=i) vals++σ) a∧Holds w0 K L w) Q) [] ((t,v)::(Go.Proofs.YtdnalnmahlakkaaGreatDoor.dl D vals++σ)) L:=fun a w ha hw=>⟨zsh (zgf hu) (zgf hi) hm _ _ _ ha,hw⟩
theorem zeY {ops:Array Oper} {S:List (Nat×Value)} {j t:Nat} {b:Bool} (hj:(ops[j]?).bind (·.dst)=some t) (h:S.lookup t=some (.bool b)):gd ops S (some (j,b))=some true:=by
 simp [gd,hj,h]
theorem zxg {ops:Array Oper} {S:List (Nat×Value)} {j t:Nat} {b:Bool} (hj:(ops[j]?).bind (·.dst)=some t) (h:S.lookup t=some (.bool (!b))):gd ops S (some (j,b))=some false:=by
 simp [gd,hj,h]
theorem zxf {ops:Array Oper} {S:List (Nat×Value)} {j t:Nat} {b:Bool} (hj:(ops[j]?).bind (·.dst)=some t) (h:S.lookup t=some undef):gd ops S (some (j,b))=some false:=by
 simp [gd,hj,h,undef]
theorem ztR {id:Nat} {pre tail:List Oper} (vals:List (Nat×Nat×Value)) (hm:P.follows .mixedOrders=true)
  (hlt:((pre++tail).zipIdx.all fun (o,i)=>(zdA o).all fun j=>decide (j<i))=true) (hT:zlf (pre++tail) pre.length=true)
  (hval:vals.all (fun p=>decide (p.1<pre.length))=true) (hu:zdl (vals.map (fun p=>p.2.1))=true) (hi:zdl (vals.map (fun p=>p.1))=true)
  (hpre:DrawPre F P w0 K N dfs Q (pre++tail).toArray σ L vals pre 0)
  (htail:TO F P w0 K N dfs (pre++tail).toArray Q tail (vals.map (fun p=>p.2)++σ) L):TC F P w0 K N dfs Q (.region id (pre++tail).toArray true) σ L:=by
 intro a w ha hw
 have hT':∀ (D:Nat→Prop),Clo (pre++tail).toArray D→∀ i o,pre.length≤i→(pre++tail)[i]?=some o→(∀ j∈zdA o,D j)→∀ j<i,D j:=by
  intro D hcl i o hi ho hd j hj
  have hlen:=zl9 (pre++tail)
  have hil:i<(zqz (pre++tail)).length:=by rw [hlen]; exact (List.getElem?_eq_some_iff.1 ho).1
  have h1:=List.all_eq_true.1 hT ((zqz (pre++tail))[i],i) (by
   rw [List.mem_iff_getElem?]
   refine ⟨i - pre.length,?_⟩
   rw [List.getElem?_drop,show pre.length+(i - pre.length)=i by omega,List.getElem?_zipIdx,List.getElem?_eq_getElem hil]; simp)
  have h2:=List.all_eq_true.1 h1 j (by simpa using hj)
  have h3:j∈(zqz (pre++tail)).getD i []:=by
   rw [List.getD_eq_getElem?_getD,List.getElem?_eq_getElem hil]; simpa using h2
  exact zqk _ i o ho j h3 D (fun k o' hk=>hcl k o' (by simpa using hk)) hd
 obtain ⟨J,hJ⟩:∃ J:(Nat→Prop)→Act→World→Prop,J=(fun D a w=>Clo (pre++tail).toArray D∧((∃ k,0<k∧(∀ j,D j↔j<pre.length+k)∧wpListIn F 0 P (pre++tail).toArray Q (tail.drop k) a w)∨((∀ j,D j→j<pre.length)∧At N dfs (dl D vals++σ) a∧Holds w0 K L w))):=⟨_,rfl⟩
 refine zgi hm (by simpa using hlt) J (by subst hJ; exact
  ⟨fun i o _ h=>h.elim,.inr ⟨fun _ h=>h.elim,by rw [zj4]; exact ha,hw.drew⟩⟩) ?_ ?_
 ·have all:∀ (l:List Oper) (k:Nat),(∀ i o,l[i]?=some o→(pre++tail)[k+i]?=some o)→RegSteps F 0 P (pre++tail).toArray Q J l k:=by
   intro l
   induction l with
   | nil=>intro k _; trivial
   | cons o l ih =>
    intro k hl
    refine ⟨?_,ih (k+1) (fun i o' ho'=>by have:=hl (i+1) o' (by simpa using ho'); rwa [show k+1+i=k+(i+1) by omega])⟩
    have ho:(pre++tail)[k]?=some o:=hl 0 o rfl
    subst hJ
    rintro D a w hn hd ⟨hcl,hI⟩
    have hcl':Clo (pre++tail).toArray (fun j=>D j∨j=k):=hcl.add (by simpa using ho) hd
    have tl:∀ (m:Nat),(∀ j,D j↔j<pre.length+m)→wpListIn F 0 P (pre++tail).toArray Q (tail.drop m) a w→pre.length≤k →
      wpListIn F 0 P (pre++tail).toArray (Exit.then (fun a w=>Clo (pre++tail).toArray (fun j=>D j∨j=k)∧((∃ k',0<k'∧(∀ j,(D j∨j=k)↔j<pre.length+k')∧wpListIn F 0 P (pre++tail).toArray Q (tail.drop k') a w)∨((∀ j,(D j∨j=k)→j<pre.length)∧At N dfs (dl (fun j=>D j∨j=k) vals++σ) a∧Holds w0 K L w))) Q) [o] a w:=by
     intro m hD hwp hk
     have hkm:k=pre.length+m:=by
      have h1:¬ k<pre.length+m:=fun h=>hn ((hD k).2 h)
      have h2:=hT' D hcl k o hk ho hd
      by_cases h3:pre.length+m<k
      ·have:=(hD _).1 (h2 _ h3); omega
      ·omega
     have htl:tail.drop m=o::tail.drop (m+1):=by
      rw [List.getElem?_append_right hk,show k - pre.length=m by omega] at ho
      obtain ⟨h1,h2⟩:=List.getElem?_eq_some_iff.1 ho
      rw [← h2]; exact List.drop_eq_getElem_cons h1
     rw [htl] at hwp
     have hnext:∀ a' w',wpListIn F 0 P (pre++tail).toArray Q (tail.drop (m+1)) a' w'→(Clo (pre++tail).toArray (fun j=>D j∨j=k)∧((∃ k',0<k'∧(∀ j,(D j∨j=k)↔j<pre.length+k')∧wpListIn F 0 P (pre++tail).toArray Q (tail.drop k') a' w')∨((∀ j,(D j∨j=k)→j<pre.length)∧At N dfs (dl (fun j=>D j∨j=k) vals++σ) a'∧Holds w0 K L w'))) :=
      fun a' w' h=>⟨hcl',.inl ⟨m+1,by omega,fun j=>by rw [hD]; omega,h⟩⟩
     have hcat:wpListIn F 0 P (pre++tail).toArray (Exit.then (wpListIn F 0 P (pre++tail).toArray Q (tail.drop (m+1))) Q) [o] a w:=by
      simp only [wpListIn] at hwp ⊢
      split
      ·rename_i hw'
       rw [if_pos hw'] at hwp
       unfold Oper.wpIn at hwp ⊢
       refine ⟨hwp.1,?_⟩
       have hh:=hwp.2
       generalize (o.semAt F.round a.eval).run P w=r at *
       cases r with
       | ok x w' =>
        cases x <;> simp only [Oper.uponIn] at hh ⊢ <;>
         first
          | exact hh
          | exact ⟨hh.1,CallsIn.mono hh.2 (fun e w'' he=>by cases e <;> exact he)⟩
          | exact ⟨hh.1,RowsIn.mono hh.2 (fun _ _ he=>he)⟩
          | exact ⟨hh.1,RoundIn.mono hh.2 (fun e w'' he=>by cases e <;> exact he)⟩
       | halt x w'=>cases x <;> simp only [Oper.uponIn] at hh ⊢ <;> exact hh
      ·rename_i hw'
       rw [if_neg hw'] at hwp
       exact hwp
     exact zck hnext hcat
    rcases hI with ⟨m,hm0,hD,hwp⟩ | ⟨hD,hat,hho⟩
    ·refine tl m hD hwp ?_
     have:¬ k<pre.length+m:=fun h=>hn ((hD k).2 h)
     omega
    ·by_cases hk:k<pre.length
     ·have hop:pre[k]?=some o:=by rw [List.getElem?_append_left hk] at ho; exact ho
      have:=hpre.get k o hop D (by rwa [Nat.zero_add]) hd hcl hu hi a w hat hho
      rw [Nat.zero_add] at this
      refine zck (fun a' w' h=>⟨hcl',.inr ⟨fun j hj => ?_,h.1,h.2⟩⟩) this
      rcases hj with hj | rfl
      ·exact hD j hj
      ·exact hk
     ·have hall:=hT' D hcl k o (by omega) ho hd
      have hk':k=pre.length:=by
       by_cases h:pre.length<k
       ·have:=hD _ (hall _ h); omega
       ·omega
      have hDD:∀ j,D j↔j<pre.length+0:=fun j=>⟨fun h=>by have:=hD j h; omega,fun h=>hall j (by omega)⟩
      refine tl 0 hDD ?_ (by omega)
      rw [List.drop_zero]
      refine htail a w ?_ hho
      rw [zlp (fun p hp=>hall _ (by have:=List.all_eq_true.1 hval p hp; simp at this; omega))] at hat
      exact hat
  exact all _ 0 (fun i o ho=>by simpa using ho)
 ·subst hJ
  rintro D a w hD ⟨hcl,hI⟩
  have hsz:(pre++tail).toArray.size=pre.length+tail.length:=by simp
  rcases hI with ⟨m,hm0,hDm,hwp⟩ | ⟨hDp,hat,hho⟩
  ·have:tail.length≤m:=by
    by_cases h:m<tail.length
    ·have:=(hDm (pre.length+m)).1 (hD _ (by rw [hsz]; omega)); omega
    ·omega
   rw [List.drop_eq_nil_of_le this] at hwp
   exact hwp
  ·have htl:tail=[]:=by
    rcases tail with _ | ⟨o,tail⟩
    ·rfl
    ·have:=hDp pre.length (hD _ (by rw [hsz]; simp)); omega
   subst htl
   rw [zlp (fun p hp=>hD _ (by have:=List.all_eq_true.1 hval p hp; simp at this; rw [hsz]; omega))] at hat
   exact htail a w hat hho
theorem znP {D:Nat→Prop} {t:Nat} {v:Value}:∀ {vals:List (Nat×Nat×Value)},(vals.map (fun p=>p.2.1)).contains t=false→Sbs ((t,v)::(Go.Proofs.YtdnalnmahlakkaaGreatDoor.dl D vals++σ)) (Go.Proofs.YtdnalnmahlakkaaGreatDoor.dl D vals++((t,v)::σ)):=by
 intro vals hc a N dfs ha
 refine ⟨ha.1,ha.2.1,fun s u hs=>ha.2.2 s u ?_⟩
 by_cases hst:s=t
 ·subst hst
  rw [zp6 hc] at hs
  simpa [List.lookup] using hs
 ·have hne:(s==t)=false:=by simpa using hst
  have:∀ (vs:List (Nat×Nat×Value)),(Go.Proofs.YtdnalnmahlakkaaGreatDoor.dl D vs++((t,v)::σ)).lookup s=(Go.Proofs.YtdnalnmahlakkaaGreatDoor.dl D vs++σ).lookup s:=by
   intro vs
   induction vs with
   | nil=>simp [Go.Proofs.YtdnalnmahlakkaaGreatDoor.dl,List.lookup,hne]
   | cons p vs ih =>
    obtain ⟨i,t',v'⟩:=p
    simp only [Go.Proofs.YtdnalnmahlakkaaGreatDoor.dl]
    split
    ·simp only [List.cons_append,List.lookup,ih]
    ·exact ih
  rw [this] at hs
  simp only [List.lookup,hne]; exact hs
theorem zgY {ops:Array Oper} {Q:Exit→Act→World→Prop} {o:Oper} {r:List Oper} {a:Act} {w:World} (hwp:wpListIn F 0 P ops Q (o::r) a w):wpListIn F 0 P ops (Exit.then (wpListIn F 0 P ops Q r) Q) [o] a w:=by
 simp only [wpListIn] at hwp ⊢
 split
 ·rename_i hw'
  rw [if_pos hw'] at hwp
  unfold Oper.wpIn at hwp ⊢
  refine ⟨hwp.1,?_⟩
  have hh:=hwp.2
  generalize (o.semAt F.round a.eval).run P w=r at *
  cases r with
  | ok x w' =>
   cases x <;> simp only [Oper.uponIn] at hh ⊢ <;>
    first
     | exact hh
     | exact ⟨hh.1,CallsIn.mono hh.2 (fun e w'' he=>by cases e <;> exact he)⟩
     | exact ⟨hh.1,RowsIn.mono hh.2 (fun _ _ he=>he)⟩
     | exact ⟨hh.1,RoundIn.mono hh.2 (fun e w'' he=>by cases e <;> exact he)⟩
  | halt x w'=>cases x <;> simp only [Oper.uponIn] at hh ⊢ <;> exact hh
 ·rename_i hw'
  rw [if_neg hw'] at hwp
  exact hwp
theorem zle {l:List Oper} {n:Nat} (hT:zlf l n=true):∀ (D:Nat→Prop),Clo l.toArray D→∀ i o,n≤i→l[i]?=some o→(∀ j∈zdA o,D j)→∀ j<i,D j:=by
 intro D hcl i o hi ho hd j hj
 have hlen:=zl9 l
 have hil:i<(zqz l).length:=by rw [hlen]; exact (List.getElem?_eq_some_iff.1 ho).1
 have h1:=List.all_eq_true.1 hT ((zqz l)[i],i) (by
  rw [List.mem_iff_getElem?]
  refine ⟨i - n,?_⟩
  rw [List.getElem?_drop,show n+(i - n)=i by omega,List.getElem?_zipIdx,List.getElem?_eq_getElem hil]; simp)
 have h2:=List.all_eq_true.1 h1 j (by simpa using hj)
 have h3:j∈(zqz l).getD i []:=by
  rw [List.getD_eq_getElem?_getD,List.getElem?_eq_getElem hil]; simpa using h2
 exact zqk _ i o ho j h3 D (fun k o' hk=>hcl k o' (by simpa using hk)) hd
def DrawPreX (F:Fence) (P:Program) (w0:World) (K:Nat→Prop) (N:Nat) (dfs:List Deferred) (Q:Exit→Act→World→Prop) (ops:Array Oper) (σ:List (Nat×Value)) (L:List Asn) (vals:List (Nat×Nat×Value)) (e:Nat):List Oper→Nat→Prop
 | [],_=>True
 | o::rest,i=>(i≠e→∀ D:Nat→Prop,¬ D i→(∀ j∈zdA o,D j)→Clo ops D→zdl (vals.map (fun p=>p.2.1))=true→zdl (vals.map (fun p=>p.1))=true →
   TO F P w0 K N dfs ops (Exit.then (fun a w=>At N dfs (dl (fun j=>D j∨j=i) vals++σ) a∧Holds w0 K L w) Q) [o] (dl D vals++σ) L)∧DrawPreX F P w0 K N dfs Q ops σ L vals e rest (i+1)
theorem DrawPreX.nil {ops:Array Oper} {vals:List (Nat×Nat×Value)} {e i:Nat}:DrawPreX F P w0 K N dfs Q ops σ L vals e [] i:=trivial
theorem zas {ops:Array Oper} {vals:List (Nat×Nat×Value)} {o:Oper} {rest:List Oper} {e i:Nat} (h:∀ D:Nat→Prop,¬ D i→(∀ j∈zdA o,D j)→Clo ops D→zdl (vals.map (fun p=>p.2.1))=true→zdl (vals.map (fun p=>p.1))=true →
   TO F P w0 K N dfs ops (Exit.then (fun a w=>At N dfs (dl (fun j=>D j∨j=i) vals++σ) a∧Holds w0 K L w) Q) [o] (dl D vals++σ) L) (hs:DrawPreX F P w0 K N dfs Q ops σ L vals e rest (i+1)) :
  DrawPreX F P w0 K N dfs Q ops σ L vals e (o::rest) i:=⟨fun _=>h,hs⟩
theorem zbO {ops:Array Oper} {vals:List (Nat×Nat×Value)} {o:Oper} {rest:List Oper} {e:Nat} (hs:DrawPreX F P w0 K N dfs Q ops σ L vals e rest (e+1)) :
  DrawPreX F P w0 K N dfs Q ops σ L vals e (o::rest) e:=⟨fun h=>absurd rfl h,hs⟩
theorem DrawPreX.get {ops:Array Oper} {vals:List (Nat×Nat×Value)} {e:Nat}:∀ {l:List Oper} {k:Nat},DrawPreX F P w0 K N dfs Q ops σ L vals e l k→∀ i o,l[i]?=some o→k+i≠e→∀ D:Nat→Prop,¬ D (k+i)→(∀ j∈zdA o,D j)→Clo ops D→zdl (vals.map (fun p=>p.2.1))=true→zdl (vals.map (fun p=>p.1))=true →
   TO F P w0 K N dfs ops (Exit.then (fun a w=>At N dfs (dl (fun j=>D j∨j=k+i) vals++σ) a∧Holds w0 K L w) Q) [o] (dl D vals++σ) L
 | [],k,_,i,o,h=>by simp at h
 | x::l,k,h,0,o,ho=>by simp at ho; subst ho; exact h.1
 | x::l,k,h,i+1,o,ho=>by
  have:=DrawPreX.get h.2 i o (by simpa using ho)
  rwa [show k+1+i=k+(i+1) by omega] at this
theorem zfU {id:Nat} {l:List Oper} {β:Type} (n e:Nat) (o:Oper) (vals:List (Nat×Nat×Value)) (s1:β→List (Nat×Value)) (L1:β→List Asn) (hm:P.follows .mixedOrders=true)
  (hlt:(l.zipIdx.all fun (o,i)=>(zdA o).all fun j=>decide (j<i))=true) (hT:zlf l n=true) (ho:l[e]?=some o) (hen:e<n) (hnl:n≤l.length)
  (hval:vals.all (fun p=>decide (p.1<n)&&p.1 != e)=true) (hu:zdl (vals.map (fun p=>p.2.1))=true) (hi:zdl (vals.map (fun p=>p.1))=true)
  (hpre:DrawPreX F P w0 K N dfs Q l.toArray σ L vals e (l.take n) 0) (hpre1:∀ b,DrawPreX F P w0 K N dfs Q l.toArray (s1 b++σ) (L1 b) vals e (l.take n) 0)
  (hadd:∀ D:Nat→Prop,¬ D e→(∀ j∈zdA o,D j)→Clo l.toArray D→TO F P w0 K N dfs l.toArray (Exit.then (fun a w=>∃ b,At N dfs (dl D vals++(s1 b++σ)) a∧Holds w0 K (L1 b) w) Q) [o] (dl D vals++σ) L)
  (htail:∀ b,TO F P w0 K N dfs l.toArray Q (l.drop n) (vals.map (fun p=>p.2)++(s1 b++σ)) (L1 b)):TC F P w0 K N dfs Q (.region id l.toArray true) σ L:=by
 intro a w ha hw
 have hT':=zle hT
 have hel:e<l.length:=(List.getElem?_eq_some_iff.1 ho).1
 obtain ⟨J,hJ⟩:∃ J:(Nat→Prop)→Act→World→Prop,J=(fun D a w=>Clo l.toArray D∧((∃ k,n<k∧(∀ j,D j↔j<k)∧wpListIn F 0 P l.toArray Q (l.drop k) a w) ∨
  ((∀ j,D j→j<n)∧((¬ D e∧At N dfs (dl D vals++σ) a∧Holds w0 K L w)∨(D e∧∃ b,At N dfs (dl D vals++(s1 b++σ)) a∧Holds w0 K (L1 b) w))))):=⟨_,rfl⟩
 have hdl:∀ (D:Nat→Prop),dl (fun j=>D j∨j=e) vals=dl D vals:=fun D=>by
  have:∀ (vs:List (Nat×Nat×Value)),vs.all (fun p=>decide (p.1<n)&&p.1 != e)=true→dl (fun j=>D j∨j=e) vs=dl D vs:=by
   intro vs
   induction vs with
   | nil=>intro _; rfl
   | cons p vs ih =>
    obtain ⟨i,t,v⟩:=p
    intro h
    simp only [List.all_cons,Bool.and_eq_true,decide_eq_true_eq,bne_iff_ne,ne_eq] at h
    simp only [dl,ih h.2]
    by_cases hd:D i
    ·rw [if_pos (.inl hd),if_pos hd]
    ·rw [if_neg hd,if_neg (by rintro (h' | h'); exact hd h'; exact h.1.2 h')]
  exact this vals hval
 have hv1:∀ p∈vals,p.1<n:=fun p hp=>by
  have:=List.all_eq_true.1 hval p hp; simp only [Bool.and_eq_true,decide_eq_true_eq] at this; exact this.1
 refine zgi hm (by simpa using hlt) J (by subst hJ; exact ⟨fun i o _ h=>h.elim,.inr ⟨fun _ h=>h.elim,.inl ⟨fun h=>h,by rw [zj4]; exact ha,hw.drew⟩⟩⟩) ?_ ?_
 ·have all:∀ (m:List Oper) (k:Nat),(∀ i o,m[i]?=some o→l[k+i]?=some o)→RegSteps F 0 P l.toArray Q J m k:=by
   intro m
   induction m with
   | nil=>intro k _; trivial
   | cons q m ih =>
    intro k hl
    refine ⟨?_,ih (k+1) (fun i o' ho'=>by have:=hl (i+1) o' (by simpa using ho'); rwa [show k+1+i=k+(i+1) by omega])⟩
    have hq:l[k]?=some q:=hl 0 q rfl
    subst hJ
    rintro D a w hn hd ⟨hcl,hI⟩
    have hcl':Clo l.toArray (fun j=>D j∨j=k):=hcl.add (by simpa using hq) hd
    have hkl:k<l.length:=(List.getElem?_eq_some_iff.1 hq).1
    have hdrop:l.drop k=q::l.drop (k+1):=by
     obtain ⟨h1,h2⟩:=List.getElem?_eq_some_iff.1 hq
     rw [← h2]; exact List.drop_eq_getElem_cons h1
    rcases hI with ⟨m,hm0,hD,hwp⟩ | ⟨hD,hI⟩
    ·have hkm:k=m:=by
      have h1:¬ k<m:=fun h=>hn ((hD k).2 h)
      have h2:=hT' D hcl k q (by omega) hq hd
      by_cases h3:m<k
      ·have:=(hD _).1 (h2 _ h3); omega
      ·omega
     subst hkm
     rw [hdrop] at hwp
     refine zck (fun a' w' h=>⟨hcl',.inl ⟨k+1,by omega,fun j => ?_,h⟩⟩) (zgY hwp)
     show D j∨j=k↔_
     rw [hD]; omega
    ·by_cases hk:k<n
     ·by_cases hke:k=e
      ·subst hke
       have hqo:q=o:=by rw [ho] at hq; exact (Option.some.inj hq).symm
       subst hqo
       rcases hI with ⟨hDn,hat,hho⟩ | ⟨hDn,_⟩
       ·refine zck (fun a' w' h=>⟨hcl',.inr ⟨fun j hj => ?_,.inr ⟨.inr rfl,?_⟩⟩⟩) (hadd D hDn hd hcl a w hat hho)
        ·rcases hj with hj | rfl
         ·exact hD j hj
         ·exact hk
        ·rw [hdl]; exact h
       ·exact absurd hDn hn
      ·have hop:(l.take n)[k]?=some q:=by rw [List.getElem?_take_of_lt hk]; exact hq
       rcases hI with ⟨hDn,hat,hho⟩ | ⟨hDn,b,hat,hho⟩
       ·have:=hpre.get k q hop (by omega) D (by rwa [Nat.zero_add]) hd hcl hu hi a w hat hho
        rw [Nat.zero_add] at this
        refine zck (fun a' w' h=>⟨hcl',.inr ⟨fun j hj => ?_,.inl ⟨?_,h.1,h.2⟩⟩⟩) this
        ·rcases hj with hj | rfl
         ·exact hD j hj
         ·exact hk
        ·rintro (h | h)
         ·exact hDn h
         ·exact hke h.symm
       ·have:=(hpre1 b).get k q hop (by omega) D (by rwa [Nat.zero_add]) hd hcl hu hi a w hat hho
        rw [Nat.zero_add] at this
        refine zck (fun a' w' h=>⟨hcl',.inr ⟨fun j hj => ?_,.inr ⟨.inl hDn,b,h.1,h.2⟩⟩⟩) this
        rcases hj with hj | rfl
        ·exact hD j hj
        ·exact hk
     ·have hall:=hT' D hcl k q (by omega) hq hd
      have hk':k=n:=by
       by_cases h:n<k
       ·have:=hD _ (hall _ h); omega
       ·omega
      subst hk'
      rcases hI with ⟨hDn,_⟩ | ⟨hDn,b,hat,hho⟩
      ·exact absurd (hall e (by omega)) hDn
      ·have hwp:wpListIn F 0 P l.toArray Q (l.drop k) a w:=by
        refine htail b a w ?_ hho
        rw [zlp (fun p hp=>hall _ (hv1 p hp))] at hat
        exact hat
       rw [hdrop] at hwp
       refine zck (fun a' w' h=>⟨hcl',.inl ⟨k+1,by omega,fun j => ?_,h⟩⟩) (zgY hwp)
       refine ⟨fun hj => ?_,fun hj => ?_⟩
       ·rcases hj with hj | rfl
        ·have:=hD j hj; omega
        ·omega
       ·by_cases h:j=k
        ·exact .inr h
        ·exact .inl (hall j (by omega))
  exact all _ 0 (fun i o ho=>by simpa using ho)
 ·subst hJ
  rintro D a w hD ⟨hcl,hI⟩
  have hsz:l.toArray.size=l.length:=by simp
  rcases hI with ⟨m,hm0,hDm,hwp⟩ | ⟨hDp,hI⟩
  ·have:l.length≤m:=by
    by_cases h:m<l.length
    ·have:=(hDm m).1 (hD _ (by rw [hsz]; omega)); omega
    ·omega
   rw [List.drop_eq_nil_of_le this] at hwp
   exact hwp
  ·have hnn:l.length≤n:=by
    by_cases h:n<l.length
    ·have:=hDp n (hD _ (by rw [hsz]; omega)); omega
    ·omega
   rcases hI with ⟨hDn,_⟩ | ⟨hDn,b,hat,hho⟩
   ·exact absurd (hD e (by rw [hsz]; omega)) hDn
   ·have hvl:∀ p∈vals,p.1<l.length:=fun p hp=>Nat.lt_of_lt_of_le (hv1 p hp) hnl
    have:=htail b a w (by
     rw [zlp (fun p hp=>hD _ (by rw [hsz]; exact hvl p hp))] at hat
     exact hat) hho
    rw [List.drop_eq_nil_of_le (by omega)] at this
    exact this
theorem zbW {id:Nat} {l:List Oper} (n:Nat) (vals:List (Nat×Nat×Value)) (hm:P.follows .mixedOrders=true)
  (hlt:(l.zipIdx.all fun (o,i)=>(zdA o).all fun j=>decide (j<i))=true) (hT:zlf l n=true) (hn:n≤l.length)
  (hval:vals.all (fun p=>decide (p.1<n))=true) (hu:zdl (vals.map (fun p=>p.2.1))=true) (hi:zdl (vals.map (fun p=>p.1))=true)
  (hpre:DrawPre F P w0 K N dfs Q l.toArray σ L vals (l.take n) 0)
  (htail:TO F P w0 K N dfs l.toArray Q (l.drop n) (vals.map (fun p=>p.2)++σ) L):TC F P w0 K N dfs Q (.region id l.toArray true) σ L:=by
 have hl:l.take n++l.drop n=l:=List.take_append_drop n l
 have hn':(l.take n).length=n:=by rw [List.length_take]; omega
 have:=ztR (id:=id) (pre:=l.take n) (tail:=l.drop n) (F:=F) (P:=P) (w0:=w0) (K:=K) (N:=N) (dfs:=dfs) (Q:=Q) (σ:=σ) (L:=L) vals hm (by rw [hl]; exact hlt) (by rw [hl,hn']; exact hT) (by rw [hn']; exact hval) hu hi (by rw [hl]; exact hpre) (by rw [hl]; exact htail)
 rwa [hl] at this
theorem evL.nil {σ:List (Nat×Value)}:evL σ []=some []:=rfl
theorem evL.cons {σ:List (Nat×Value)} {x:Operand} {v:Value} {r:List Operand} {l:List Value} (h1:ev σ x=some v) (h2:evL σ r=some l):evL σ (x::r)=some (v::l):=by simp [evL,h1,h2]
theorem evP.nil {σ:List (Nat×Value)}:evP σ []=some []:=rfl
theorem evP.cons {σ:List (Nat×Value)} {i:Nat} {x:Operand} {v:Value} {r:List (Nat×Operand)} {l:List (Nat×Value)} (h1:ev σ x=some v) (h2:evP σ r=some l):evP σ ((i,x)::r)=some ((i,v)::l):=by simp [evP,h1,h2]
theorem evO.none {σ:List (Nat×Value)}:evO σ none=some none:=rfl
theorem evO.some {σ:List (Nat×Value)} {x:Operand} {v:Value} (h:ev σ x=some v):evO σ (some x)=some (some v):=by simp [evO,h]
end
section
variable {P:Program} {t:TypeId} {x y:Operand} {k:IntKind} {m n r:Int} {w:World} {a b:zBA}
theorem zbU {u v:Value} {m:Sem Value} (h:u=v) (hb:∀ w:World,m.run P w=.ok u w) (w:World):m.run P w=.ok v w:=h ▸ hb w
theorem zbs (h:k.wrap (m+n)=r) (w:World):(do eqGuard .add t x y (.int k m) (.int k n); binOp .add t (.int k m) (.int k n):Sem Value).run P w=.ok (.int k r) w:=by
 subst h; simp [eqGuard,binOp,Op.intArith,Sem.run_bind]
theorem zfO (h:k.wrap (m - n)=r) (w:World):(do eqGuard .sub t x y (.int k m) (.int k n); binOp .sub t (.int k m) (.int k n):Sem Value).run P w=.ok (.int k r) w:=by
 subst h; simp [eqGuard,binOp,Op.intArith,Sem.run_bind]
theorem znI (h:k.wrap (m*n)=r) (w:World):(do eqGuard .mul t x y (.int k m) (.int k n); binOp .mul t (.int k m) (.int k n):Sem Value).run P w=.ok (.int k r) w:=by
 subst h; simp [eqGuard,binOp,Op.intArith,Sem.run_bind]
theorem zb4 (w:World):(do eqGuard .lss t x y (.int k m) (.int k n); binOp .lss t (.int k m) (.int k n):Sem Value).run P w=.ok (.bool (decide (m<n))) w:=by
 simp [eqGuard,binOp,Op.intCmp,Sem.run_bind]
theorem zcr (w:World):(do eqGuard .leq t x y (.int k m) (.int k n); binOp .leq t (.int k m) (.int k n):Sem Value).run P w=.ok (.bool (decide (m≤n))) w:=by
 simp [eqGuard,binOp,Op.intCmp,Sem.run_bind]
theorem zeP (w:World):(do eqGuard .gtr t x y (.int k m) (.int k n); binOp .gtr t (.int k m) (.int k n):Sem Value).run P w=.ok (.bool (decide (n<m))) w:=by
 simp [eqGuard,binOp,Op.intCmp,Sem.run_bind]
theorem zbV (w:World):(do eqGuard .geq t x y (.int k m) (.int k n); binOp .geq t (.int k m) (.int k n):Sem Value).run P w=.ok (.bool (decide (n≤m))) w:=by
 simp [eqGuard,binOp,Op.intCmp,Sem.run_bind]
theorem zaP (w:World):(do eqGuard .eql t x y (.int k m) (.int k n); binOp .eql t (.int k m) (.int k n):Sem Value).run P w=.ok (.bool (m==n)) w:=by
 simp [eqGuard,binOp,Op.intCmp,Sem.run_bind]
theorem zdZ (w:World):(do eqGuard .neq t x y (.int k m) (.int k n); binOp .neq t (.int k m) (.int k n):Sem Value).run P w=.ok (.bool (m != n)) w:=by
 simp [eqGuard,binOp,Op.intCmp,Sem.run_bind]
theorem zlt (a b:zBA):(a.toList==b.toList)=decide (a=b):=by
 by_cases h:a=b
 ·subst h; simp
 ·have:¬ a.toList=b.toList:=fun e=>h (by
   have:a.data.toList=b.data.toList:=by rw [← Go.ByteArray.toList_eq,← Go.ByteArray.toList_eq]; exact e
   exact ByteArray.ext (Array.toList_inj.1 this))
  simp [h,this]
theorem zgC (h:a.size+b.size≤9223372036854775807) (w:World):(do eqGuard .add t x y (.string a) (.string b); binOp .add t (.string a) (.string b):Sem Value).run P w=.ok (.string (a++b)) w:=by
 have:¬ (((a.size+b.size:Nat):Int) > IntKind.i64.max):=by
  show ¬ (((a.size+b.size:Nat):Int) > 9223372036854775807); omega
 simp only [eqGuard,binOp,Op.stringOp,Sem.run_bind,Sem.run_pure,Result.andThen_ok]
 rw [if_neg this]; rfl
theorem zh6 (w:World):(do eqGuard .eql t x y (.string a) (.string b); binOp .eql t (.string a) (.string b):Sem Value).run P w=.ok (.bool (decide (a=b))) w:=by
 rw [← zlt]; simp [eqGuard,binOp,Op.stringOp,Sem.run_bind]
theorem zh5 (w:World):(do eqGuard .neq t x y (.string a) (.string b); binOp .neq t (.string a) (.string b):Sem Value).run P w=.ok (.bool (!decide (a=b))) w:=by
 rw [← zlt]; simp [eqGuard,binOp,Op.stringOp,Sem.run_bind]
theorem zcA {b:Bool} (w:World):(Op.unary .not (.bool b)).run P w=.ok (.bool (!b)) w:=rfl
theorem zua (h:k.wrap (-n)=r) (w:World):(Op.unary .neg (.int k n)).run P w=.ok (.int k r) w:=by
 subst h; simp [Op.unary,Op.intArith]
theorem zrp {s d:TypeId} {u:TypeDesc} {k':IntKind} (hs:P.underlying s=some u) (hd:P.underlying d=some (.int k')) (h:k'.wrap n=r) (w:World):(convert s d (.int k n)).run P w=.ok (.int k' r) w:=by
 subst h
 cases u <;> simp [convert,run_underlying hs,run_underlying hd,Sem.run_bind,Conv.intToInt]
theorem zfa {s d:TypeId} {k0:IntKind} (hs:P.underlying s=some (.int k0)) (hd:P.underlying d=some .string) (w:World):(convert s d (.int k n)).run P w=.ok (.string (Utf8.encode n)) w:=by
 simp [convert,run_underlying hs,run_underlying hd,Sem.run_bind,Conv.intToString]
theorem zmH {i:Nat} (ht:P.underlying t=some .string) (hi:i<a.size) (w:World):(Instr.index t (.string a) (.int .i64 i)).run P w=.ok (.int .u8 (a[i]'hi).toNat) w:=by
 have h1:a[i]?=some a[i]:=by simp [hi]
 simp [Instr.index,asIntOf,run_underlying ht,Sem.run_bind,h1]
theorem zeL {lo hi:Option Value} {i j:Nat} (ht:P.underlying t=some .string) (hlo:lo=none∧i=0∨lo=some (.int .i64 i)) (hhi:hi=none∧j=a.size∨hi=some (.int .i64 j)) (h1:i≤j) (h2:j≤a.size) (w:World) :
  (Instr.sliceAt t (.string a) lo hi none).run P w=.ok (.string (a.extract i j)) w:=by
 rcases hlo with ⟨rfl,rfl⟩ | rfl <;> rcases hhi with ⟨rfl,rfl⟩ | rfl <;>
  simp [Instr.sliceAt,Instr.slice,Instr.sliceBounds,Instr.sliceBound,asIntOf,run_underlying ht,Sem.run_bind,h1,h2]
end
def vec {α:Type} (enc:α→List Value) (e:TypeId) (size:Nat) (v:Value) (xs:List α):Asn :=
 ⟨fun C w=>Vec enc e size v xs C w,fun h k hk=>h.lt k hk,fun h _ hk=>h.local hk⟩
def byt (e:TypeId) (v:Value) (b:zBA):Asn:=⟨fun C w=>Byt e v b C w,fun h k hk=>h.lt k hk,fun h _ hk=>h.local hk⟩
def zgc:Value→Nat
 | .slice (some a) _ _=>a.block
 | _=>0
section
variable {F:Fence} {P:Program} {w0:World} {K:Nat→Prop} {N:Nat} {dfs:List Deferred} {ops:Array Oper} {Q:Exit→Act→World→Prop} {rest:List Oper} {σ σ':List (Nat×Value)} {L L' R As Bs:List Asn} {o:Oper} {v:Value}
 {d:Nat} {t:TypeId} {op:Op} {ty:TypeId} {pos:String} {aft:Array Edge} {g:Option (Nat×Bool)} {x y z:Operand} {c c1 c2:Code} {k:Nat} {A B:Asn} {RO:List (Nat×Obj)}
 {α:Type} {enc:α→List Value} {e:TypeId} {size:Nat} {xs:List α} {vv:Value}
theorem Holds.vec {w:World} (h:Holds w0 K L w) (hk:L[k]?=some (vec enc e size vv xs)):∃ C,Vec enc e size vv xs C w:=by
 obtain ⟨C1,h1,_⟩:=h.focus hk; exact ⟨C1,h1⟩
theorem Vec.len {C:Nat→Prop} {w:World} (h:Vec enc e size vv xs C w):∃ a c,vv=.slice a xs.length c:=by
 rcases h.shape with ⟨rfl,rfl,_⟩ | ⟨g,cap,rfl,_⟩
 ·exact ⟨none,0,rfl⟩
 ·exact ⟨_,_,rfl⟩
theorem Vec.ptr {C:Nat→Prop} {w:World} (h:Vec enc e size vv xs C w) (hne:xs≠[]):∃ cap,vv=.slice (some ⟨zgc vv,0,none⟩) xs.length cap:=by
 rcases h.shape with ⟨_,h2,_⟩ | ⟨g,cap,rfl,_⟩
 ·exact absurd h2 hne
 ·exact ⟨cap,rfl⟩
theorem znp {w:World} (h:Holds w0 K L w) (hk:L[k]?=some (vec enc e size vv xs)):vv.oneCell'=true:=by
 obtain ⟨C,hv⟩:=h.vec hk
 obtain ⟨a,c,rfl⟩:=hv.len
 rfl
theorem zfd (h:TC F P w0 K N dfs Q c σ (L++[vec enc e size (.slice none 0 0) ([]:List α)])):TC F P w0 K N dfs Q c σ L:=fun a w ha hw =>
 h a w ha (hw.grow (C':=fun _=>False) (Ext.refl _ _) (sepL.one (A:=vec enc e size (.slice none 0 0) ([]:List α)) Vec.nil))
theorem zf1 (h:TO F P w0 K N dfs ops Q rest σ (L++[vec enc e size (.slice none 0 0) ([]:List α)])):TO F P w0 K N dfs ops Q rest σ L:=fun a w ha hw =>
 h a w ha (hw.grow (C':=fun _=>False) (Ext.refl _ _) (sepL.one (A:=vec enc e size (.slice none 0 0) ([]:List α)) Vec.nil))
theorem zgr [WideF F] {tt:TypeId} {te:TypeId} (hg:gd ops σ g=some true) (hd:d<N) (hx:ev σ x=some vv) (hk:L[k]?=some (vec enc e size vv xs)) (ht:P.underlying tt=some (.slice te))
  (h:TO F P w0 K N dfs ops Q rest ((d,.int .i64 xs.length)::σ) L):TO F P w0 K N dfs ops Q (⟨some d,.call { callee:=.builtin .len,args:=#[x],argTypes:=#[tt] },ty,pos,aft,g⟩::rest) σ L :=
 zdF hg hd (by simp) (fun a w ha hw=>by
  obtain ⟨C,hv⟩:=hw.vec hk
  obtain ⟨q,cc,hq⟩:=hv.len
  have:=ha.ev hx
  simp [execOp,resolve,invoke,builtin,this,hq,Builtin.len_,run_underlying ht,Sem.run_bind,goInt]) h
theorem zdC [WideF F] {tt:TypeId} {s:zBA} (hg:gd ops σ g=some true) (hd:d<N) (hx:ev σ x=some (.string s)) (ht:P.underlying tt=some .string)
  (h:TO F P w0 K N dfs ops Q rest ((d,.int .i64 s.size)::σ) L):TO F P w0 K N dfs ops Q (⟨some d,.call { callee:=.builtin .len,args:=#[x],argTypes:=#[tt] },ty,pos,aft,g⟩::rest) σ L :=
 zdF hg hd (by simp) (fun a w ha hw=>by
  have:=ha.ev hx
  simp [execOp,resolve,invoke,builtin,this,Builtin.len_,run_underlying ht,Sem.run_bind,goInt]) h
theorem Vec.cellAt {C:Nat→Prop} {w:World} (hz:∀ x,(enc x).length=size) (h:Vec enc e size vv xs C w) {i j:Nat} {q:α} {u:Value} (hq:xs[i]?=some q) (hj:j<size) (hu:(enc q)[j]?=some u):w.cell? ⟨zgc vv,i*size+j,none⟩=some u:=by
 obtain ⟨cap,he⟩:=h.ptr (by intro h; simp [h] at hq)
 generalize hb:zgc vv=bb at he
 subst he
 exact h.cell hz rfl hq hj hu
theorem Vec.frozenAt {C:Nat→Prop} {w:World} (h:Vec enc e size vv xs C w) (hne:xs≠[]) (j:Nat):w.frozen? ⟨zgc vv,j,none⟩=false:=by
 obtain ⟨cap,he⟩:=h.ptr hne
 generalize hb:zgc vv=bb at he
 subst he
 exact h.frozen rfl j
theorem zdo [WideF F] {i j off:Nat} {q:α} (hT:zcc P t) (hz:∀ x,(enc x).length=size) (hg:gd ops σ g=some true) (hd:d<N) (hx:ev σ x=some (.pointer (some ⟨zgc vv,off,none⟩))) (hk:L[k]?=some (vec enc e size vv xs))
  (hq:xs[i]?=some q) (ho:off=i*size+j) (hj:j<size) (hv:(enc q)[j]?=some v) (h:TO F P w0 K N dfs ops Q rest ((d,v)::σ) L) :
  TO F P w0 K N dfs ops Q (⟨some d,.load t x,ty,pos,aft,g⟩::rest) σ L:=by
 subst ho
 obtain ⟨dd,hu,hr⟩:=hT
 refine zdF hg hd (by simp) (fun a w ha hw => ?_) h
 obtain ⟨C,hV⟩:=hw.vec hk
 have hc:=hV.cellAt hz hq hj hv
 have h1:=ha.ev hx
 cases dd <;> simp_all [execOp,Instr.loadAt,Instr.sureAddr,loadVar,isAgg,Sem.run_bind,run_underlying hu]
theorem zgq [WideF F] {i j off n:Nat} {q:α} {cs:List Value} (hT:zim P t n) (hz:∀ x,(enc x).length=size) (hg:gd ops σ g=some true) (hd:d<N) (hx:ev σ x=some (.pointer (some ⟨zgc vv,off,none⟩))) (hk:L[k]?=some (vec enc e size vv xs))
  (hq:xs[i]?=some q) (ho:off=i*size+j) (hcs:((enc q).drop j).take n=cs) (hn:cs.length=n)
  (h:TO F P w0 K N dfs ops Q rest ((d,.agg cs.toArray)::σ) L):TO F P w0 K N dfs ops Q (⟨some d,.load t x,ty,pos,aft,g⟩::rest) σ L:=by
 subst ho; subst hn
 obtain ⟨dd,hu,hr,hi⟩:=hT
 refine zdF hg hd (by simp) (fun a w ha hw => ?_) h
 obtain ⟨C,hV⟩:=hw.vec hk
 have hc:w.rangeAt (zgc vv) (i*size+j) cs:=fun n u hn=>by
  rw [← hcs] at hn
  rw [List.getElem?_take] at hn
  split at hn
  ·rw [List.getElem?_drop] at hn
   have hl:j+n<size:=by rw [← hz q]; exact (List.getElem?_eq_some_iff.1 hn).1
   have:=hV.cellAt hz hq hl hn
   rwa [← Nat.add_assoc] at this
  ·cases hn
 simp only [execOp,ha.ev hx,Sem.run_bind,run_loadAt_mid w _ _ t cs dd hc hu hr hi]; rfl
theorem zg9 [WideF F] {i j off:Nat} {q q':α} (hT:SizeOk P t 1) (hz:∀ x,(enc x).length=size) (hg:gd ops σ g=some true) (hx:ev σ x=some (.pointer (some ⟨zgc vv,off,none⟩))) (hy:ev σ y=some v) (hk:L[k]?=some (vec enc e size vv xs))
  (hq:xs[i]?=some q) (ho:off=i*size+j) (hj:j<size) (hv:enc q'=(enc q).set j v) (hone:∀ w,Holds w0 K L w→v.oneCell'=true)
  (h:TO F P w0 K N dfs ops Q rest σ (L.set k (vec enc e size vv (xs.set i q')))):TO F P w0 K N dfs ops Q (⟨none,.store t x y,ty,pos,aft,g⟩::rest) σ L:=by
 subst ho
 obtain ⟨ii,hi,hsz⟩:=hT.some
 refine zha hg (by simp) fun a w ha hw => ?_
 have h1:=hone w hw
 obtain ⟨C,hV,hstep⟩:=hw.focus hk
 obtain ⟨u,hu⟩:∃ u,(enc q)[j]?=some u:=⟨_,List.getElem?_eq_getElem (by rw [hz]; exact hj)⟩
 have hne:xs≠[]:=by intro h; simp [h] at hq
 have hV':Vec enc e size vv xs C w:=hV
 have hc:=hV'.cellAt hz hq hj hu
 have hf:=hV'.frozenAt hne (i*size+j)
 have hvc:v.cells=#[v]:=by cases v <;> simp_all [Value.cells,Value.oneCell']
 refine ⟨w.setCell ⟨zgc vv,i*size+j,none⟩ v,by
  simp [execOp,ha.ev hx,ha.ev hy,Instr.storeAt,Instr.sureAddr,storeVar,sizeOf,typeInfo,hi,hsz,hvc,storeCells,Sem.run_bind,run_store _ _ _ _ _ h1,hc,hf,Addr.add_mid],h _ _ ha (hstep _ C _ ?_ ?_)⟩
 ·obtain ⟨cap,he⟩:=hV'.ptr hne
  refine (Ext.refl _ _).setCell ?_ _
  obtain ⟨hR,rfl⟩:=hV'
  rw [he]; rfl
 ·obtain ⟨cap,he⟩:=hV'.ptr hne
  generalize hb:zgc vv=bb at *
  subst he
  obtain ⟨hR,hC⟩:=hV'
  exact ⟨(Rw.stored hz hR hq hj q' hv).1,hC⟩
def ElemOk (P:Program) (e:TypeId) (size:Nat):Prop:=∃ (i:TypeInfo) (zv:Value),P.info? e=some i∧i.zero=some zv∧i.size=size∧zv.cells.size=size∧0<size∧i.bytes≤65536
def ByteOk (P:Program) (e:TypeId):Prop:=∃ i:TypeInfo,P.info? e=some i∧i.zero=some (.int .u8 0)∧i.size=1∧i.bytes=1
theorem ElemOk.mk' {P:Program} {e:TypeId} {size:Nat} (h:(P.info? e).bind (fun i=>i.zero.map (fun z=>(i.size,z.cells.size,decide (0<i.size),decide (i.bytes≤65536))))=some (size,size,true,true)):ElemOk P e size:=by
 cases hi:P.info? e with
 | none=>simp [hi] at h
 | some i =>
  cases hz:i.zero with
  | none=>simp [hi,hz] at h
  | some z =>
   simp [hi,hz] at h
   obtain ⟨h1,h2,h3,h4⟩:=h
   exact ⟨i,z,hi,hz,h1,h2,by omega,h4⟩
theorem ByteOk.mk' {P:Program} {e:TypeId} (h:(P.info? e).map (fun i=>(i.zero,i.size,i.bytes))=some (some (.int .u8 0),1,1)):ByteOk P e:=by
 cases hi:P.info? e with
 | none=>simp [hi] at h
 | some i=>simp [hi] at h; exact ⟨i,hi,h.1,h.2.1,h.2.2⟩
theorem zby [WideF F] {ps:List (Nat×Operand)} {vs:List (Nat×Value)} {te n:Nat} {cs:List Value} (hg:gd ops σ g=some true) (hd:d<N) (hx:evP σ ps=some vs)
  (hb:∀ w:World,(Instr.buildSlice t n vs.toArray).run P w=.ok (.slice (some ⟨w.heap.size,0,none⟩) n n) (w.alloc (.cells cs.toArray te)))
  (h:∀ b,TO F P w0 K N dfs ops Q rest ((d,.slice (some ⟨b,0,none⟩) n n)::σ) (L++[cells b cs te])) :
  TO F P w0 K N dfs ops Q (⟨some d,.buildSlice t n ps.toArray,ty,pos,aft,g⟩::rest) σ L :=
 zfR hg (by simp) fun a w ha hw=>⟨.slice (some ⟨w.heap.size,0,none⟩) n n,w.alloc (.cells cs.toArray te),by
  have:=hb w
  simp only [execOp,List.map_toArray,ha.evP hx,Sem.run_bind,this]; rfl,h _ _ _ (ha.put hd _) (hw.alloc _)⟩
theorem zbR [WideF F] {s:Operand} {k2 b m cap:Nat} {tt:TypeId} {ys:List α} {te:TypeId} {cs:List Value} (ht:P.underlying tt=some (.slice e)) (hE:ElemOk P e size) (hlen:∀ x,(enc x).length=size) (h1:∀ x,∀ u∈enc x,u.oneCell'=true) (hg:gd ops σ g=some true) (hd:d<N) (hs:ev σ s=some vv) (hx:ev σ x=some (.slice (some ⟨b,0,none⟩) m cap))
  (hk:L[k]?=some (vec enc e size vv xs)) (hk2:L[k2]?=some (cells b cs te)) (hm:m=ys.length) (hcs:cs=ys.flatMap enc)
  (hn:xs.length+ys.length≤2147483648)
  (h:∀ v',TO F P w0 K N dfs ops Q rest ((d,v')::σ) (L.set k (vec enc e size v' (xs++ys)))) :
  TO F P w0 K N dfs ops Q (⟨some d,.call { callee:=.builtin .append,args:=#[s,x],argTypes:=#[tt,tt] },ty,pos,aft,g⟩::rest) σ L:=by
 subst hm; subst hcs
 obtain ⟨i,zv,hi,hz,hsize,hzs,hsz,hbytes⟩:=hE
 refine zfR hg (by simp) fun a w ha hw => ?_
 have hb:=hw.obj hk2
 obtain ⟨C,hV,hstep⟩:=hw.focus hk
 obtain ⟨v',w',hr,C',h2,h3⟩:=zkV (P:=P) w tt ty e i zv i.bytes ht hi hz hsize rfl hzs hsz hlen h1 vv xs C hV ys b cap te (0,0) hb hn hbytes
 refine ⟨v',w',?_,h v' _ _ (ha.put hd _) (hstep _ C' w' h3 h2)⟩
 simp [execOp,resolve,invoke,builtin,ha.ev hs,ha.ev hx,hr,Sem.run_bind]
theorem Holds.byt {w:World} {b:zBA} (h:Holds w0 K L w) (hk:L[k]?=some (byt e vv b)):∃ C,Byt e vv b C w:=by
 obtain ⟨C1,h1,_⟩:=h.focus hk; exact ⟨C1,h1⟩
theorem zm6 [WideF F] {sl:Operand} {tt u:TypeId} {b s:zBA} (ht:P.underlying tt=some (.slice e)) (hu:P.underlying u=some .string) (hE:ByteOk P e) (hg:gd ops σ g=some true) (hd:d<N) (hs:ev σ sl=some vv) (hx:ev σ x=some (.string s))
  (hk:L[k]?=some (byt e vv b)) (hn:b.size+s.size≤140737488355328)
  (h:∀ v',TO F P w0 K N dfs ops Q rest ((d,v')::σ) (L.set k (byt e v' (b++s)))) :
  TO F P w0 K N dfs ops Q (⟨some d,.call { callee:=.builtin .append,args:=#[sl,x],argTypes:=#[tt,u] },ty,pos,aft,g⟩::rest) σ L:=by
 obtain ⟨i,hi,hz,hsize,hby⟩:=hE
 refine zfR hg (by simp) fun a w ha hw => ?_
 obtain ⟨C,hV,hstep⟩:=hw.focus hk
 obtain ⟨v',w',hr,C',h2,h3⟩:=zkW (P:=P) w tt u ty e i ht hu hi hz hsize hby vv b C hV s hn
 refine ⟨v',w',?_,h v' _ _ (ha.put hd _) (hstep _ C' w' h3 h2)⟩
 simp [execOp,resolve,invoke,builtin,ha.ev hs,ha.ev hx,hr,Sem.run_bind]
theorem zm8 [WideF F] {sl:Operand} {tt:TypeId} {b ys:zBA} {k2 bk m cap:Nat} {te:TypeId} {cs:List Value} (ht:P.underlying tt=some (.slice e)) (hE:ByteOk P e) (hg:gd ops σ g=some true) (hd:d<N) (hs:ev σ sl=some vv) (hx:ev σ x=some (.slice (some ⟨bk,0,none⟩) m cap))
  (hk:L[k]?=some (byt e vv b)) (hk2:L[k2]?=some (cells bk cs te)) (hcs:cs=strCells ys) (hm:m=ys.size) (hn:b.size+ys.size≤140737488355328)
  (h:∀ v',TO F P w0 K N dfs ops Q rest ((d,v')::σ) (L.set k (byt e v' (b++ys)))) :
  TO F P w0 K N dfs ops Q (⟨some d,.call { callee:=.builtin .append,args:=#[sl,x],argTypes:=#[tt,tt] },ty,pos,aft,g⟩::rest) σ L:=by
 subst hm; subst hcs
 obtain ⟨i,hi,hz,hsize,hby⟩:=hE
 refine zfR hg (by simp) fun a w ha hw => ?_
 have hb:=hw.obj hk2
 obtain ⟨C,hV,hstep⟩:=hw.focus hk
 obtain ⟨v',w',hr,C',h2,h3⟩:=zki (P:=P) w tt ty e i ht hi hz hsize hby vv b C hV ys bk cap te (0,0) hb hn
 refine ⟨v',w',?_,h v' _ _ (ha.put hd _) (hstep _ C' w' h3 h2)⟩
 simp [execOp,resolve,invoke,builtin,ha.ev hs,ha.ev hx,hr,Sem.run_bind]
theorem zqs [WideF F] {s:TypeId} {b:zBA} (hg:gd ops σ g=some true) (hd:d<N) (hx:ev σ x=some vv) (hk:L[k]?=some (byt e vv b)) (hs:P.underlying s=some (.slice e)) (he:P.underlying e=some (.int .u8)) (ht:P.underlying t=some .string)
  (h:TO F P w0 K N dfs ops Q rest ((d,.string b)::σ) L):TO F P w0 K N dfs ops Q (⟨some d,.convert s t x,ty,pos,aft,g⟩::rest) σ L :=
 zdF hg hd (by simp) (fun a w ha hw=>by
  obtain ⟨C,hV⟩:=hw.byt hk
  simp only [execOp,ha.ev hx,Sem.run_bind,hV.conv s t hs he ht]; rfl) h
end
def zou (l:Nat) (J:Act→World→Prop) (Q:Exit→Act→World→Prop):Exit→Act→World→Prop
 | .goto l',a,w=>l'=l∧J a w
 | e,a,w=>Q e a w
section
variable {P:Program} {b:Frame} {a:Act} {k:List Item} {cs:List Frame} {w:World}
theorem zfL {c:Code}:step P (lone (b.atR a (.code (.scope c)::k)) cs w)=.next (lone (b.atR a (.code c::.inScope c::k)) cs w) :=
 step_lone_go (by simp [stepG,stepG.exec,Frame.atR])
theorem ziP {c:Code}:step P (lone (b.atR a (.inScope c::k)) cs w)=.next (lone (b.atR a k) cs w) :=
 step_lone_go (by simp [stepG,stepG.exec,Frame.atR])
end
section
variable {F:Fence} {n:Nat} {P:Program} {Q:Exit→Act→World→Prop} {a:Act} {w:World}
theorem zc4 {I:Machine→Prop} {m:Machine} {b:Frame} {c:Code} {k:List Item} {cs:List Frame} {e:Exit} (hne:∀ l,e≠.goto l) (hn:e≠.normal)
  (h:ArrivesIn I P m b (.inScope c::k) cs e a w):ArrivesIn I P m b k cs e a w:=by
 have hx:∀ id,exitTo id (.inScope c::k)=exitTo id k:=fun id=>by simp [exitTo]
 cases e with
 | normal=>exact absurd rfl hn
 | exit id=>exact ⟨fun k' hk=>h.1 k' (by rw [hx]; exact hk),fun hr hk=>h.2 hr (by rw [hx]; exact hk)⟩
 | goto l=>exact absurd rfl (hne l)
 | ret=>exact h
 | panic ch=>exact h
 | outgrown=>exact h
theorem zkN {c rest:Code} {l:Nat} (hf:findLabel c l=some rest) (J:Act→World→Prop) (first:c.wpIn F n P (zou l J Q) a w)
  (pass:∀ a w,J a w→rest.wpIn F n P (Exit.noGoto Q) a w):(Code.scope c).wpIn F n P Q a w:=by
 intro b k cs hro hb hr
 have h0:(lone (b.atR a (.code (.scope c)::k)) cs w).fenced P F:=fenced_calm hb hr rfl
 have hg:gotoIn l (.inScope c::k)=some (.code rest::.inScope c::k):=by simp [gotoIn,hf]
 obtain ⟨e,a₁,w₁,hq,harr⟩:=first b (.inScope c::k) cs hro hb hr
 cases e with
 | normal=>exact ⟨.normal,a₁,w₁,hq,.head h0 zfL (StepsIn.trans harr (.one (fenced_calm hb hr rfl) ziP))⟩
 | goto l' =>
  obtain ⟨rfl,hJ⟩:=hq
  have h1:=StepsIn.head h0 zfL (harr.1 _ hg)
  obtain ⟨e,a₂,w₂,hq,harr⟩:=pass a₁ w₁ hJ b (.inScope c::k) cs hro hb hr
  cases e with
  | normal=>exact ⟨.normal,a₂,w₂,hq,StepsIn.trans h1 (StepsIn.trans harr (.one (fenced_calm hb hr rfl) ziP))⟩
  | goto l=>exact hq.elim
  | exit id=>exact ⟨_,a₂,w₂,hq,.of_steps h1 (zc4 (by simp) (by simp) harr)⟩
  | ret=>exact ⟨_,a₂,w₂,hq,.of_steps h1 (zc4 (by simp) (by simp) harr)⟩
  | panic ch=>exact ⟨_,a₂,w₂,hq,.of_steps h1 (zc4 (by simp) (by simp) harr)⟩
  | outgrown=>exact ⟨_,a₂,w₂,hq,.of_steps h1 (zc4 (by simp) (by simp) harr)⟩
 | exit id=>exact ⟨_,a₁,w₁,hq,.of_steps (.one h0 zfL) (zc4 (by simp) (by simp) harr)⟩
 | ret=>exact ⟨_,a₁,w₁,hq,.of_steps (.one h0 zfL) (zc4 (by simp) (by simp) harr)⟩
 | panic ch=>exact ⟨_,a₁,w₁,hq,.of_steps (.one h0 zfL) (zc4 (by simp) (by simp) harr)⟩
 | outgrown=>exact ⟨_,a₁,w₁,hq,.of_steps (.one h0 zfL) (zc4 (by simp) (by simp) harr)⟩
end
section
variable {F:Fence} {P:Program} {w0:World} {K:Nat→Prop} {N:Nat} {dfs:List Deferred} {Q:Exit→Act→World→Prop} {σ:List (Nat×Value)} {L R:List Asn} {c rest:Code}
theorem zh8 {β:Type} {l:Nat} (I:β→Prop) (σf:β→List (Nat×Value)) (Lf:β→List Asn) (hf:findLabel c l=some rest) (h1:TC F P w0 K N dfs (zou l (zwK w0 K N dfs I σf Lf) Q) c σ L)
  (h2:∀ b,I b→TC F P w0 K N dfs (Exit.noGoto Q) rest (σf b) (Lf b)):TC F P w0 K N dfs Q (.scope c) σ L:=fun a w ha hw =>
 zkN hf (zwK w0 K N dfs I σf Lf) (h1 a w ha hw) fun a w ⟨b,hb,h3,h4⟩=>h2 b hb a w h3 h4
theorem ztM {β:Type} {l:Nat} {I:β→Prop} {σf:β→List (Nat×Value)} {Lf:β→List Asn} (b:β) (hI:I b) (hσ:Sbs σ (σf b)) (hL:Splits L (Lf b) R) :
  TX w0 K N dfs (zou l (zwK w0 K N dfs I σf Lf) Q) (.goto l) σ L:=fun a w ha hw=>⟨rfl,b,hI,hσ _ _ _ ha,hw.weaken hL⟩
theorem zfC {l:Nat} {J:Act→World→Prop} {e:Exit} (hne:∀ l,e≠.goto l) (h:TX w0 K N dfs Q e σ L):TX w0 K N dfs (zou l J Q) e σ L:=fun a w ha hw=>by
 cases e <;> first | exact h a w ha hw | exact absurd rfl (hne _)
theorem zqn {e:Exit} (hne:∀ l,e≠.goto l) (h:TX w0 K N dfs Q e σ L):TX w0 K N dfs (Exit.noGoto Q) e σ L:=fun a w ha hw=>by
 cases e <;> first | exact h a w ha hw | exact absurd rfl (hne _)
end
section
variable {F:Fence} {P:Program} {w0:World} {K:Nat→Prop} {N:Nat} {dfs:List Deferred} {ops:Array Oper} {Q:Exit→Act→World→Prop} {rest:List Oper} {σ:List (Nat×Value)} {L:List Asn} {c:Code}
 {α:Type} {enc:α→List Value} {k b e size:Nat} {cs:List Value}
theorem Holds.toVec {w:World} (ys:List α) (h:Holds w0 K L w) (hk:L[k]?=some (cells b cs e)) (hlen:∀ x,(enc x).length=size) (hcs:cs=ys.flatMap enc) (hm:ys.length≤maxLen) :
  Holds w0 K (L.set k (Go.Proofs.YtdnalnmahlakkaaGreatDoor.vec enc e size (.slice (some ⟨b,0,none⟩) ys.length ys.length) ys)) w:=by
 obtain ⟨C1,h1,h2,h3⟩:=h.focus' hk
 refine h3 _ C1 w (Ext.refl _ _) ?_
 obtain ⟨h4,h5⟩:=h2
 have hl:cs.length=ys.length*size:=by
  have h6:∀ zs:List α,(zs.flatMap enc).length=zs.length*size:=by
   intro zs
   induction zs with
   | nil=>simp
   | cons z zs ih=>rw [List.flatMap_cons,List.length_append,hlen,ih,List.length_cons,Nat.add_mul,Nat.one_mul,Nat.add_comm]
  rw [hcs]; exact h6 ys
 have h7:cs.take (ys.length*size)=cs:=by rw [← hl]; exact List.take_length
 refine ⟨⟨by rw [← hcs]; exact hl,.inr ⟨b,ys.length,cs.toArray,rfl,Nat.zero_le _,h5,Nat.le_refl _,hm,by simpa using hl,?_⟩⟩,?_⟩
 ·rw [← hcs]; exact h7
 ·funext j; simp_all [Value.ownBlock,eq_comm]
theorem zmb (ys:List α) (hk:L[k]?=some (cells b cs e)) (hlen:∀ x,(enc x).length=size) (hcs:cs=ys.flatMap enc) (hm:ys.length≤maxLen)
  (h:TO F P w0 K N dfs ops Q rest σ (L.set k (vec enc e size (.slice (some ⟨b,0,none⟩) ys.length ys.length) ys))):TO F P w0 K N dfs ops Q rest σ L:=fun a w ha hw=>h a w ha (hw.toVec ys hk hlen hcs hm)
end
section
variable {F:Fence} {P:Program} {w0:World} {K:Nat→Prop} {N:Nat} {dfs:List Deferred} {ops:Array Oper} {Q:Exit→Act→World→Prop} {rest:List Oper} {σ:List (Nat×Value)} {L:List Asn}
 {d:Nat} {t:TypeId} {ty:TypeId} {pos:String} {aft:Array Edge} {g:Option (Nat×Bool)} {x y:Operand} {k n:Nat} {e:TypeId} {size:Nat} {v vv:Value}
end
abbrev I64 (x:Int):Prop:=-9223372036854775808≤x∧x≤9223372036854775807
abbrev I32 (x:Int):Prop:=-2147483648≤x∧x≤2147483647
abbrev I16 (x:Int):Prop:=-32768≤x∧x≤32767
abbrev I8 (x:Int):Prop:=-128≤x∧x≤127
abbrev U8 (x:Int):Prop:=0≤x∧x≤255
abbrev U16 (x:Int):Prop:=0≤x∧x≤65535
abbrev U32 (x:Int):Prop:=0≤x∧x≤4294967295
abbrev U64 (x:Int):Prop:=0≤x∧x≤18446744073709551615
section
variable {R S:Type}
def grd (c:Prop) [Decidable c] (o:Option R):Option R:=if c then o else none
def zaA (o:Option S) (f:S→Option R):Option R:=o.bind f
def zaL (b:Bool) (x y:Option R):Option R:=cond b x y
def zcd {T:Type} (t:T→Option R) (k:T):Option R:=t k
def zbq {T:Type} (bot:T) (step:T→T) (n:Nat):T:=Nat.rec bot (fun _ ih=>step ih) n
def zbZ {T α:Type} (k:T) (step:α→T→T):List α→T
 | []=>k
 | x::xs=>step x (zbZ k step xs)
def zc9:Nat:=18446744073709551616
def zeD {α:Type} (xs:List α) (i:Int):Option α:=if 0≤i then xs[i.toNat]? else none
def znv (s:zBA) (i:Int):Option Int:=if 0≤i then (s.data[i.toNat]?).map (fun c=>(c.toNat:Int)) else none
def zgT (s:zBA) (i j:Int):zBA:=s.extract i.toNat j.toNat
def zp9 {α:Type} (s:List α) (i j:Int):List α:=(s.drop i.toNat).take (j.toNat - i.toNat)
variable {c:Prop} [Decidable c] {o:Option R} {r:R} {p:Option S} {f:S→Option R} {b:Bool} {x y:Option R}
theorem zcU (h:grd c o=some r):c∧o=some r:=by
 unfold grd at h; split at h
 ·exact ⟨‹c›,h⟩
 ·cases h
theorem zta (h:c):grd c o=o:=if_pos h
theorem zcp (h:zaA p f=some r):∃ a,p=some a∧f a=some r:=Option.bind_eq_some_iff.1 h
theorem zry {a:S} (h:p=some a):zaA p f=f a:=by rw [h]; rfl
theorem zg5 (hb:b=true) (h:zaL b x y=some r):x=some r:=by subst hb; exact h
theorem zg6 (hb:b=false) (h:zaL b x y=some r):y=some r:=by subst hb; exact h
theorem ztI (hb:b=true):zaL b x y=x:=by subst hb; rfl
theorem ztJ (hb:b=false):zaL b x y=y:=by subst hb; rfl
theorem zcC {T:Type} {t:T→Option R} {k:T} (h:zcd t k=some r):∃ j,j=k∧t j=some r:=⟨k,rfl,h⟩
theorem zbk {T:Type} {bot:T} {step:T→T} {n:Nat}:zbq bot step (n+1)=step (zbq bot step n):=rfl
theorem zb3 {T α:Type} {k:T} {step:α→T→T} {x:α} {xs:List α}:zbZ k step (x::xs)=step x (zbZ k step xs):=rfl
theorem zfG {α:Prop} (h:(none:Option R)=some r):α:=by cases h
theorem zca {α:Type} {xs:List α} {i:Int} {q:α} (h:zeD xs i=some q):xs[i.toNat]?=some q:=by
 unfold zeD at h; split at h
 ·exact h
 ·cases h
theorem zq7 {α:Type} {xs:List α} {i:Int} {q:α} (h:zeD xs i=some q):0≤i∧i<xs.length:=by
 unfold zeD at h; split at h
 ·have:=(List.getElem?_eq_some_iff.1 h).1; omega
 ·cases h
theorem zbI {α:Type} {xs:List α} {i:Nat} {q:α} (h:xs[i]?=some q):zeD xs (i:Int)=some q:=by
 unfold zeD; rw [if_pos (by omega)]; exact h
theorem ztb {α:Type} {xs:List α} {i:Int} {n:Nat} {q:α} (hn:i=n) (h:xs[n]?=some q):zeD xs i=some q:=by subst hn; exact zbI h
theorem zpP {s:zBA} {i:Int} {n:Nat} (hn:i=n) (h:n<s.size):znv s i=some ((s[n]'h).toNat:Int):=by
 subst hn
 unfold znv; rw [if_pos (by omega)]
 have:s.data[n]?=some s[n]:=by
  rw [Array.getElem?_eq_getElem (by exact h)]; rfl
 simp [this]
theorem zpO {s:zBA} {i v:Int} (h:znv s i=some v):∃ n:Nat,∃ hn:n<s.size,i=n∧v=((s[n]'hn).toNat:Int):=by
 unfold znv at h; split at h
 ·rename_i h0
  simp only [Option.map_eq_some_iff] at h
  obtain ⟨c,hc,rfl⟩:=h
  obtain ⟨hl,he⟩:=Array.getElem?_eq_some_iff.1 hc
  exact ⟨i.toNat,hl,by omega,by rw [← he]; rfl⟩
 ·cases h
end
section
variable {F:Fence} {P:Program} {w0:World} {K:Nat→Prop} {N:Nat} {dfs:List Deferred} {ops:Array Oper} {Q:Exit→Act→World→Prop} {rest:List Oper} {σ σ':List (Nat×Value)} {L L' R As Bs:List Asn} {o:Oper} {v:Value}
 {d:Nat} {t:TypeId} {op:Op} {ty:TypeId} {pos:String} {aft:Array Edge} {g:Option (Nat×Bool)} {x y z:Operand} {c c1 c2 c3:Code} {k:Nat} {A B:Asn} {RO:List (Nat×Obj)}
 {α:Type} {enc:α→List Value} {e:TypeId} {size:Nat} {xs:List α} {vv:Value} {s:zBA}
def zwT {β:Type} (w0:World) (K:Nat→Prop) (N:Nat) (I:β→Prop) (df:β→List Deferred) (σf:β→List (Nat×Value)) (Lf:β→List Asn) (a:Act) (w:World):Prop:=∃ b,I b∧St w0 K N (df b) (σf b) (Lf b) a w
def zuc:Nat→Code→Code
 | 0,c=>c
 | n+1,.seq _ c=>zuc n c
 | _+1,c=>c
theorem zbF {β:Type} (j:Nat) (hc:zuc j c=.seq c2 c3) (I:β→Prop) (df:β→List Deferred) (σf:β→List (Nat×Value)) (Lf:β→List Asn)
  (h1:(∀ {dfs':List Deferred} {σ':List (Nat×Value)} {L':List Asn},TC F P w0 K N dfs' (Exit.then (zwT w0 K N I df σf Lf) Q) c2 σ' L'→TC F P w0 K N dfs' Q (.seq c2 c3) σ' L')→TC F P w0 K N dfs Q c σ L)
  (h2:∀ b,I b→TC F P w0 K N (df b) Q c3 (σf b) (Lf b)):TC F P w0 K N dfs Q c σ L :=
 h1 fun h a w ha hw=>by
  refine wpIn_seq (wpIn_mono (h a w ha hw) ?_)
  intro e a' w' hq
  cases e with
  | normal=>obtain ⟨b,hb,h3,h4⟩:=hq; exact h2 b hb a' w' h3 h4
  | _=>exact hq
theorem zaB {β:Type} {I:β→Prop} {df:β→List Deferred} {σf:β→List (Nat×Value)} {Lf:β→List Asn} (b:β) (hI:I b) (hd:dfs=df b) (hσ:Sbs σ (σf b)) (hL:Splits L (Lf b) R) :
  TX w0 K N dfs (Exit.then (zwT w0 K N I df σf Lf) Q) .normal σ L:=fun a w ha hw=>by subst hd; exact ⟨b,hI,hσ _ _ _ ha,hw.weaken hL⟩
theorem zej {b:Bool} (ht:b=true→TC F P w0 K N dfs Q c σ L) (hf:b=false→TC F P w0 K N dfs Q c σ L):TC F P w0 K N dfs Q c σ L:=by
 cases b with
 | true=>exact ht rfl
 | false=>exact hf rfl
theorem zdt {v':Value} (he:v=v') (h:TO F P w0 K N dfs ops Q rest ((d,v')::σ) L):TO F P w0 K N dfs ops Q rest ((d,v)::σ) L:=by subst he; exact h
theorem zg2 {i u:Int} (ht:P.underlying t=some .string) (h:znv s i=some u) (w:World):(Instr.index t (.string s) (.int .i64 i)).run P w=.ok (.int .u8 u) w:=by
 obtain ⟨n,hn,rfl,rfl⟩:=zpO h
 exact zmH ht hn w
theorem zek {lo hi:Option Value} {i j:Int} (ht:P.underlying t=some .string) (hlo:lo=none∧i=0∨lo=some (.int .i64 i)) (hhi:hi=none∧j=(s.size:Int)∨hi=some (.int .i64 j)) (h:0≤i∧i≤j∧j≤(s.size:Int)) (w:World) :
  (Instr.sliceAt t (.string s) lo hi none).run P w=.ok (.string (zgT s i j)) w:=by
 obtain ⟨h1,h2,h3⟩:=h
 obtain ⟨a,rfl⟩:∃ a:Nat,i=a:=⟨i.toNat,by omega⟩
 obtain ⟨b,rfl⟩:∃ b:Nat,j=b:=⟨j.toNat,by omega⟩
 unfold zgT
 refine zeL (i:=a) (j:=b) ht ?_ ?_ (by omega) (by omega) w
 ·rcases hlo with ⟨e,h⟩ | h
  ·exact .inl ⟨e,by omega⟩
  ·exact .inr h
 ·rcases hhi with ⟨e,h⟩ | h
  ·exact .inl ⟨e,by omega⟩
  ·exact .inr h
def zmo (k:IntKind) (a b:Int):Int:=k.wrap (a*2 ^ (min b.toNat k.bits))
def zbl (k:IntKind) (a b:Int):Int:=a.fdiv (2 ^ (min b.toNat k.bits))
def zaM (k:IntKind) (a b:Int):Int:=k.wrap ((BitVec.ofInt k.bits a &&& BitVec.ofInt k.bits b).toNat:Int)
def orI (k:IntKind) (a b:Int):Int:=k.wrap ((BitVec.ofInt k.bits a ||| BitVec.ofInt k.bits b).toNat:Int)
theorem zl8 {k k':IntKind} {m n:Int} (hn:0≤n) (w:World):(do eqGuard .shl t x y (.int k m) (.int k' n); binOp .shl t (.int k m) (.int k' n):Sem Value).run P w=.ok (.int k (zmo k m n)) w:=by
 have:¬ n<0:=by omega
 simp [eqGuard,binOp,Op.shift,Sem.run_bind,this,zmo]
theorem ziG {k k':IntKind} {m n:Int} (hn:0≤n) (w:World):(do eqGuard .shr t x y (.int k m) (.int k' n); binOp .shr t (.int k m) (.int k' n):Sem Value).run P w=.ok (.int k (zbl k m n)) w:=by
 have:¬ n<0:=by omega
 simp [eqGuard,binOp,Op.shift,Sem.run_bind,this,zbl]
theorem zfz {k:IntKind} {m n:Int} (w:World):(do eqGuard .and t x y (.int k m) (.int k n); binOp .and t (.int k m) (.int k n):Sem Value).run P w=.ok (.int k (zaM k m n)) w:=by
 simp [eqGuard,binOp,Op.intBits,Sem.run_bind,zaM]
theorem zqh {k:IntKind} {m n:Int} (w:World):(do eqGuard .or t x y (.int k m) (.int k n); binOp .or t (.int k m) (.int k n):Sem Value).run P w=.ok (.int k (orI k m n)) w:=by
 simp [eqGuard,binOp,Op.intBits,Sem.run_bind,orI]
theorem zmQ {s d:TypeId} {u:TypeDesc} {k k':IntKind} {n:Int} (hs:P.underlying s=some u) (hd:P.underlying d=some (.int k')) (w:World):(convert s d (.int k n)).run P w=.ok (.int k' (k'.wrap n)) w:=zrp hs hd rfl w
def Vw (vv:Value) (L:List α) (size k:Nat) (v:Value) (xs:List α):Prop :=
 k+xs.length≤L.length∧(L.drop k).take xs.length=xs∧∃ q c,v=.slice q xs.length c∧xs.length≤c∧(xs≠[]→q=some ⟨zgc vv,k*size,none⟩)
theorem Vw.get {Ls:List α} {v:Value} {i:Int} {q:α} (h:Vw vv Ls size k v xs) (hq:zeD xs i=some q):Ls[k+i.toNat]?=some q:=by
 have h1:=zca hq
 rw [← h.2.1,List.getElem?_take] at h1
 split at h1
 ·rwa [List.getElem?_drop] at h1
 ·cases h1
theorem znf {w:World} (h:Holds w0 K L w) (hk:L[k]?=some (vec enc e size vv xs)):Vw vv xs size 0 vv xs:=by
 obtain ⟨C,hv⟩:=h.vec hk
 refine ⟨by omega,by simp,?_⟩
 rcases hv.shape with ⟨rfl,rfl,_⟩ | ⟨g,cap,rfl,hcap⟩
 ·exact ⟨none,0,rfl,Nat.le_refl _,fun h=>absurd rfl h⟩
 ·refine ⟨some ⟨g,0,none⟩,cap,rfl,?_,fun _=>by simp [zgc]⟩
  obtain ⟨hR,_⟩:=hv
  rcases hR.2 with ⟨h1,_⟩ | ⟨b,c,cur,h1,_,_,h2,_⟩
  ·cases h1
  ·cases h1; exact h2
theorem zd5 (hk:L[k]?=some (vec enc e size vv xs)) (h:Vw vv xs size 0 vv xs→TO F P w0 K N dfs ops Q rest σ L):TO F P w0 K N dfs ops Q rest σ L:=fun a w ha hw=>h (znf hw hk) a w ha hw
theorem zfe [WideF F] {tt te:TypeId} {Ls:List α} {j:Nat} (hV:Vw vv Ls size j v xs) (hg:gd ops σ g=some true) (hd:d<N) (hx:ev σ x=some v) (ht:P.underlying tt=some (.slice te))
  (h:TO F P w0 K N dfs ops Q rest ((d,.int .i64 (xs.length:Int))::σ) L):TO F P w0 K N dfs ops Q (⟨some d,.call { callee:=.builtin .len,args:=#[x],argTypes:=#[tt] },ty,pos,aft,g⟩::rest) σ L :=
 zdF hg hd (by simp) (fun a w ha hw=>by
  obtain ⟨_,_,q,c,hq,_⟩:=hV
  have:=ha.ev hx
  simp [execOp,resolve,invoke,builtin,this,hq,Builtin.len_,run_underlying ht,Sem.run_bind,goInt]) h
theorem zcF [WideF F] {Ls:List α} {j off:Nat} {i:Int} {q:α} (hV:Vw vv Ls size j v xs) (hq:zeD xs i=some q) (ht:P.underlying t=some (.slice e)) (hT:SizeOk P e size) (hg:gd ops σ g=some true) (hd:d<N) (hx:ev σ x=some v) (hy:ev σ y=some (.int .i64 i))
  (ho:(j+i.toNat)*size=off)
  (h:TO F P w0 K N dfs ops Q rest ((d,.pointer (some ⟨zgc vv,off,none⟩))::σ) L):TO F P w0 K N dfs ops Q (⟨some d,.indexAddr t x y,ty,pos,aft,g⟩::rest) σ L:=by
 obtain ⟨ii,hu,hs⟩:=hT.some
 subst ho; subst hs
 obtain ⟨h0,hl⟩:=zq7 hq
 obtain ⟨n,rfl⟩:∃ n:Nat,i=n:=⟨i.toNat,by omega⟩
 refine zdF hg hd (by simp) (fun a w ha hw => ?_) h
 obtain ⟨_,_,q',c,hq',_,hp⟩:=hV
 have hp:=hp (by intro h; simp [h] at hl; omega)
 subst hp; subst hq'
 have h1:=ha.ev hx; have h2:=ha.ev hy
 have hi':n<xs.length:=by omega
 simp [execOp,Instr.indexAt,h1,h2,asIntOf,run_underlying ht,Sem.run_bind,hi',sizeOf,typeInfo,hu,Addr.add_mid,Nat.add_mul]
theorem zdD [WideF F] {off:Nat} {i:Int} {q:α} (hq:zeD xs i=some q) (ht:P.underlying t=some (.slice e)) (hT:SizeOk P e size) (hg:gd ops σ g=some true) (hd:d<N) (hx:ev σ x=some vv) (hy:ev σ y=some (.int .i64 i)) (hk:L[k]?=some (vec enc e size vv xs))
  (ho:i.toNat*size=off)
  (h:TO F P w0 K N dfs ops Q rest ((d,.pointer (some ⟨zgc vv,off,none⟩))::σ) L):TO F P w0 K N dfs ops Q (⟨some d,.indexAddr t x y,ty,pos,aft,g⟩::rest) σ L :=
 zd5 hk fun hV=>zcF hV hq ht hT hg hd hx hy (by rw [Nat.zero_add]; exact ho) h
theorem znH {l:List α} {i j:Int} (h:0≤i∧i≤j∧j≤(l.length:Int)):((zp9 l i j).length:Int)=j - i:=by
 unfold zp9; rw [List.length_take,List.length_drop]; omega
theorem zqK {lo hi:Option Value} {Ls:List α} {m:Nat} {i j:Int} (hV:Vw vv Ls size m v xs) (ht:P.underlying t=some (.slice e)) (hT:SizeOk P e size)
  (hlo:lo=none∧i=0∨lo=some (.int .i64 i)) (hhi:hi=none∧j=(xs.length:Int)∨hi=some (.int .i64 j)) (h:0≤i∧i≤j∧j≤(xs.length:Int)) :
  ∃ v',Vw vv Ls size (m+i.toNat) v' (zp9 xs i j)∧∀ w:World,(Instr.sliceAt t v lo hi none).run P w=.ok v' w:=by
 obtain ⟨ii,hu,hs⟩:=hT.some
 subst hs
 obtain ⟨hk,hL,q,c,hq,hc,hp⟩:=hV
 subst hq
 obtain ⟨h1,h2,h3⟩:=h
 have hl:=znH (l:=xs) ⟨h1,h2,h3⟩
 obtain ⟨a,rfl⟩:∃ a:Nat,i=a:=⟨i.toNat,by omega⟩
 obtain ⟨b,rfl⟩:∃ b:Nat,j=b:=⟨j.toNat,by omega⟩
 have hl':(zp9 xs (a:Int) (b:Int)).length=b - a:=by omega
 refine ⟨.slice (if c=a then q else q.map (·.add (a*ii.size))) (b - a) (c - a),⟨by rw [hl']; simp only [Int.toNat_natCast]; omega,?_,(if c=a then q else q.map (·.add (a*ii.size))),c - a,by rw [hl'],by rw [hl']; omega,fun h => ?_⟩,fun w => ?_⟩
 ·rw [hl']
  unfold zp9
  simp only [Int.toNat_natCast]
  rw [show Ls.drop (m+a)=(Ls.drop m).drop a by rw [List.drop_drop]]
  conv=>rhs; rw [← hL]
  rw [List.drop_take,List.take_take,Nat.min_eq_left (by omega)]
 ·have hne:a<b:=by
   have:0<(zp9 xs (a:Int) (b:Int)).length:=List.length_pos_iff.2 h
   omega
  have h4:=hp (by intro h; simp [h] at h3; omega)
  subst h4
  rw [if_neg (by omega)]
  simp [Addr.add_mid,Nat.add_mul]
 ·have e1:∀ w:World,(Instr.sliceBounds true xs.length c lo hi none).run P w=.ok (a,b,c) w:=by
   intro w
   have h7:b≤c:=by omega
   have h8:a≤b:=by omega
   have h9:¬ c<b:=by omega
   have h10:¬ b<a:=by omega
   unfold Instr.sliceBounds
   rcases hlo with ⟨rfl,h⟩ | rfl <;> rcases hhi with ⟨rfl,h'⟩ | rfl
   ·have e1:a=0:=by omega
    have e2:b=xs.length:=by omega
    rw [e1,e2]; simp [Sem.run_bind]
   ·have e1:a=0:=by omega
    rw [e1]; simp [Sem.run_bind,Instr.sliceBound,asIntOf,h7,h9]
   ·have e2:b=xs.length:=by omega
    rw [← e2]; simp [Sem.run_bind,Instr.sliceBound,asIntOf,h8,h10]
   ·simp [Sem.run_bind,Instr.sliceBound,asIntOf,h7,h8,h9,h10]
  simp only [Instr.sliceAt,Instr.slice,Sem.run_bind,run_underlying ht,Result.andThen_ok,e1]
  simp [sizeOf,typeInfo,hu,Sem.run_bind]
end
def zfH (k:IntKind) (x:Int):List Value:=[.int k x]
def zgA (x:zBA):List Value:=[.string x]
theorem zci {k:IntKind} (x:Int):(zfH k x).length=1:=rfl
theorem zeF (x:zBA):(zgA x).length=1:=rfl
theorem zgB {k:IntKind} (x:Int):∀ u∈zfH k x,u.oneCell'=true:=by
 intro u hu
 simp only [zfH,List.mem_cons,List.not_mem_nil,or_false] at hu
 rcases hu with rfl; rfl
theorem zj3 (x:zBA):∀ u∈zgA x,u.oneCell'=true:=by
 intro u hu
 simp only [zgA,List.mem_cons,List.not_mem_nil,or_false] at hu
 rcases hu with rfl; rfl
theorem zph {L As:List Asn}:∀ (ks:List Nat),zf5 L ks=some As→zh4 ks=true→∀ {C1 C2:Nat→Prop} {w:World},sepL As C1 w→sepL (zvi L ks) C2 w→(∀ k,C1 k→¬ C2 k)→sepL L (fun k=>C1 k∨C2 k) w:=by
 intro ks
 induction ks generalizing L As with
 | nil =>
  intro h _ C1 C2 w h1 h2 h3
  simp only [zf5,Option.some.injEq] at h; subst h
  exact h2.congr (fun k=>⟨fun h=>h.resolve_left (h1 k),.inr⟩)
 | cons k ks ih =>
  intro h hd C1 C2 w h1 h2 h3
  simp only [zh4,Bool.and_eq_true,Bool.not_eq_true'] at hd
  simp only [zf5] at h
  split at h
  ·rename_i A As' g1 g2
   cases h
   obtain ⟨D1,D2,e1,e2,e3,e4⟩:=h1
   have hk:k<L.length:=(List.getElem?_eq_some_iff.1 g1).1
   have:=ih (L:=L.set k emp) (As:=As') (by rw [ziz hd.1]; exact g2) hd.2 e2 (show sepL (zvi (L.set k emp) ks) C2 w from h2) (fun j hj=>h3 j ((e4 j).2 (.inr hj)))
   have h5:=sepL.put (C:=fun j=>C1 j∨C2 j) hk e1 this (fun j hj hj'=>by
    rcases hj' with h | h
    ·exact e3 j hj h
    ·exact h3 j ((e4 j).2 (.inl hj)) h) (fun j=>by rw [e4,or_assoc])
   rwa [zlI g1] at h5
  ·cases h
section
variable {F:Fence} {P:Program} {w0:World} {K:Nat→Prop} {N:Nat} {dfs:List Deferred} {ops:Array Oper} {Q:Exit→Act→World→Prop} {rest:List Oper} {σ σ':List (Nat×Value)} {L L' R As Bs:List Asn} {o:Oper} {v:Value}
 {d:Nat} {t:TypeId} {op:Op} {ty:TypeId} {pos:String} {aft:Array Edge} {g:Option (Nat×Bool)} {x y z:Operand} {c c1 c2 c3:Code} {k:Nat} {A B:Asn} {RO:List (Nat×Obj)}
 {α:Type} {enc:α→List Value} {e:TypeId} {size:Nat} {xs:List α} {vv:Value} {s:zBA} {ex:Exit}
theorem zjb [WideF F] {xs:List Operand} {ats:Array TypeId} {f:FuncId} {first cap:Array Value} {vs vs':List Value}
  (hg:gd ops σ g=some true) (hd:d<N) (hx:ev σ x=some (.func (.func f) first cap)) (hxs:evL σ xs=some vs) (hv:first.toList++vs++cap.toList=vs')
  (hent:∀ args w,(callFunc f args).run P w=.ok (.enter f args) w) (hF:Fn P f vs' As (fun _:Unit=>v) (fun _=>As)) (ks:List Nat) (hs:zf5 L ks=some As) (hk:zh4 ks=true)
  (h:TO F P w0 K N dfs ops Q rest ((d,v)::σ) L) :
  TO F P w0 K N dfs ops Q (⟨some d,.call { callee:=.value x,args:=xs.toArray,argTypes:=ats },ty,pos,aft,g⟩::rest) σ L:=by
 intro a w ha hw
 simp only [wpListIn,zgl (o:=⟨some d,.call { callee:=.value x,args:=xs.toArray,argTypes:=ats },ty,pos,aft,g⟩) ha hg,if_true]
 refine ⟨fun f _=>WideF.fn f,?_⟩
 have h1:(execOp a.eval ⟨some d,.call { callee:=.value x,args:=xs.toArray,argTypes:=ats },ty,pos,aft,g⟩).run P w=.ok (.enter f vs'.toArray) w:=by
  have e:first++vs.toArray++cap=vs'.toArray:=by rw [← hv]; simp
  simp only [execOp,resolve,List.map_toArray,ha.evL hxs,ha.ev hx,Deferred.ofValue,Sem.run_bind,Sem.run_pure,Result.andThen_ok,invoke,e,hent]
 rw [Oper.semAt_plain F _ _ (by simp),h1]
 refine ⟨(fun h=>by rw [WideF.depth (F:=F)] at h; cases h),?_⟩
 obtain ⟨C,hL,hx0⟩:=hw
 obtain ⟨C1,C2,g1,g2,g3,g4⟩:=zaa ks hs hk C w hL
 refine WideF.calls ((hF w C1 g1).mono ?_)
 rintro e w' ⟨b,rfl,C',hB,hx'⟩
 refine h _ w' (ha.put hd _) ⟨fun j=>C' j∨C2 j,zph ks hs hk hB (g2.loc hx'.1.size (fun k hk=>hx'.1.keep k (g2.lt k hk) (fun h=>g3 k h hk))) (fun j hj hj' => ?_),?_,?_⟩
 ·rcases hx'.2 j hj with h | h
  ·exact g3 j h hj'
  ·have:=g2.lt j hj'; omega
 ·exact hx0.1.trans' hx'.1 (fun i hi hc=>by
   rcases hx0.2 i ((g4 i).2 (.inl hc)) with h | h
   ·exact h
   ·omega)
 ·intro j hj
  have:=hx0.1.size
  have h9:=hx'.1.size
  rcases hj with hj | hj
  ·rcases hx'.2 j hj with h | h
   ·rcases hx0.2 j ((g4 j).2 (.inl h)) with h | h
    ·exact .inl h
    ·exact .inr ⟨h.1,by omega⟩
   ·exact .inr ⟨by omega,h.2⟩
  ·rcases hx0.2 j ((g4 j).2 (.inr hj)) with h | h
   ·exact .inl h
   ·exact .inr ⟨h.1,by omega⟩
theorem zm2 (h:TX w0 K N dfs Q ex σ (L++[vec enc e size (.slice none 0 0) ([]:List α)])):TX w0 K N dfs Q ex σ L:=fun a w ha hw =>
 h a w ha (hw.grow (C':=fun _=>False) (Ext.refl _ _) (sepL.one (A:=vec enc e size (.slice none 0 0) ([]:List α)) Vec.nil))
theorem zoT {e':TypeId} {a:Addr} {w:World} (ht:P.underlying t=some (.pointer e')):(Op.equal t (.pointer (some a)) (.pointer none)).run P w=.ok false w:=by
 have h:∀ d,(Op.equalIn (d+1) t (.pointer (some a)) (.pointer none)).run P w=.ok false w:=fun d=>by simp [Op.equalIn,run_underlying ht]
 exact h 9999
theorem zgL {e':TypeId} {a:Addr} (ht:P.underlying t=some (.pointer e')) (w:World):(do eqGuard .eql t x y (.pointer (some a)) (.pointer none); binOp .eql t (.pointer (some a)) (.pointer none):Sem Value).run P w=.ok (.bool false) w:=by
 simp [eqGuard,binOp,Sem.run_bind,zoT ht]
theorem zqi {b:BinOp} {p:Bool} {xs ys:Array Value} (hb:b=.eql∨b=.neq) (hm:P.eqGuardType P.depth t=false) (h:∀ w,(Op.equalIn 10000 t (.agg xs) (.agg ys)).run P w=.ok p w) (w:World) :
  (do eqGuard b t x y (.agg xs) (.agg ys); binOp b t (.agg xs) (.agg ys):Sem Value).run P w=.ok (.bool (if b=.eql then p else !p)) w:=by
 rcases hb with rfl | rfl
 ·simp only [Sem.run_bind,run_eqGuard_agg w _ _ _ _ _ _ hm,Result.andThen_ok,run_eql_struct,h]; rfl
 ·simp only [Sem.run_bind,run_eqGuard_agg w _ _ _ _ _ _ hm,Result.andThen_ok,run_neq_struct,h]; rfl
theorem zlo {dd i off : Nat} {xs ys : Array Value} {t' ft : TypeId} {a b : Value} {p q : Bool} (hf : ((P.fieldsOf t').toList[i]?).map (fun f => (f.name != "_", f.type, f.offset)) = some (true, ft, off))
  (ha:∀ w:World,(part ft xs off).run P w=.ok a w) (hb:∀ w:World,(part ft ys off).run P w=.ok b w) (he:∀ w,(Op.equalIn dd ft a b).run P w=.ok p w)
  (hr:∀ w,(Op.eqFields dd xs ys ((P.fieldsOf t').toList.drop (i+1))).run P w=.ok q w) (w:World):(Op.eqFields dd xs ys ((P.fieldsOf t').toList.drop i)).run P w=.ok (p&&q) w:=by
 simp only [Option.map_eq_some_iff] at hf
 obtain ⟨f,hf,he'⟩:=hf
 simp only [Prod.mk.injEq] at he'
 obtain ⟨h1,rfl,rfl⟩:=he'
 have hl:=(List.getElem?_eq_some_iff.1 hf).1
 have hd:(P.fieldsOf t').toList.drop i=f::(P.fieldsOf t').toList.drop (i+1):=by
  rw [List.drop_eq_getElem_cons hl]; congr 1; exact (List.getElem?_eq_some_iff.1 hf).2
 rw [hd,Op.eqFields,if_pos (by simpa using h1)]
 simp only [Sem.run_bind,ha,hb,he,Result.andThen_ok]
 cases p
 ·simp
 ·simp [hr]
theorem zpZ {dd n:Nat} {xs ys:Array Value} {t':TypeId} (h:(P.fieldsOf t').toList.length=n) (w:World):(Op.eqFields dd xs ys ((P.fieldsOf t').toList.drop n)).run P w=.ok true w:=by
 rw [← h,List.drop_length]; rfl
theorem zkx {dd:Nat} {k k':IntKind} {a b:Int} (h:P.underlying t=some (.int k')) (w:World):(Op.equalIn (dd+1) t (.int k a) (.int k b)).run P w=.ok (a==b) w:=run_equalIn_int w dd t k k' a b h
theorem zrj {dd:Nat} {a b:Bool} (h:P.underlying t=some .bool) (w:World):(Op.equalIn (dd+1) t (.bool a) (.bool b)).run P w=.ok (a==b) w:=run_equalIn_bool' w dd t a b h
theorem zp0 {dd:Nat} {xs ys:Array Value} {p:Bool} (ht:P.underlying t=some (.struct (P.fieldsOf t))) (hp:P.stoodInHeld t=false) (h:∀ w,(Op.eqFields dd xs ys ((P.fieldsOf t).toList.drop 0)).run P w=.ok p w) (w:World) :
  (Op.equalIn (dd+1) t (.agg xs) (.agg ys)).run P w=.ok p w:=by
 rw [run_equalIn_agg w dd t xs ys ht hp]; simpa using h w
theorem zrv {p q:Bool} {xs ys:Array Value} (hm:P.eqGuardType P.depth t=false) (hq:p=q) (h:∀ w,(Op.equalIn 10000 t (.agg xs) (.agg ys)).run P w=.ok p w) (w:World) :
  (do eqGuard .eql t x y (.agg xs) (.agg ys); binOp .eql t (.agg xs) (.agg ys):Sem Value).run P w=.ok (.bool q) w:=by
 subst hq; exact zqi (.inl rfl) hm h w
theorem zru {p q:Bool} {xs ys:Array Value} (hm:P.eqGuardType P.depth t=false) (hq:p=q) (h:∀ w,(Op.equalIn 10000 t (.agg xs) (.agg ys)).run P w=.ok p w) (w:World) :
  (do eqGuard .neq t x y (.agg xs) (.agg ys); binOp .neq t (.agg xs) (.agg ys):Sem Value).run P w=.ok (.bool (!q)) w:=by
 subst hq; exact zqi (.inr rfl) hm h w
def zvS (b:zBA):List Int:=b.data.toList.map (fun c=>(c.toNat:Int))
def zgp (l:List Int):zBA:=⟨(l.map (fun x=>UInt8.ofNat x.toNat)).toArray⟩
theorem zmV (l:List Int):(zgp l).size=l.length:=by
 show ((l.map (fun x=>UInt8.ofNat x.toNat)).toArray).size=_; simp
theorem zmG {l:List Int} (h:∀ x∈l,U8 x):zvS (zgp l)=l:=by
 simp only [zvS,zgp,List.map_map]
 conv=>rhs; rw [← List.map_id l]
 refine List.map_congr_left fun x hx => ?_
 have:=h x hx
 simp only [Function.comp,id,UInt8.toNat_ofNat']
 omega
theorem zkZ {zv:Value} {enc:α→List Value} {z:α} (hz:zv.cells.toList=enc z) (h0:zv.cells.size=size) (hp:0<size):∀ n:Nat,(madeCells zv.cells (n*size)).toList=(List.replicate n z).flatMap enc:=by
 have hl:(enc z).length=size:=by rw [← hz]; simpa using h0
 intro n
 apply List.ext_getElem?
 intro i
 have hfl:∀ m,((List.replicate m z).flatMap enc).length=m*size:=fun m=>by
  induction m with
  | zero=>simp
  | succ m ih=>rw [List.replicate_succ,List.flatMap_cons,List.length_append,ih,hl,Nat.add_mul,Nat.one_mul,Nat.add_comm]
 by_cases hi:i<n*size
 ·have e1:((List.replicate n z).flatMap enc)[i]?=(enc z)[i % size]?:=by
   clear h0
   induction n generalizing i with
   | zero=>simp at hi
   | succ n ih =>
    rw [List.replicate_succ,List.flatMap_cons]
    by_cases h:i<size
    ·rw [List.getElem?_append_left (by omega),Nat.mod_eq_of_lt h]
    ·rw [List.getElem?_append_right (by omega),hl,ih (i - size) (by rw [Nat.add_mul] at hi; omega),← Nat.mod_eq_sub_mod (by omega)]
  rw [e1,← hz]
  have hm:i % size<zv.cells.size:=by rw [h0]; exact Nat.mod_lt _ hp
  simp [madeCells,hi,h0,Array.getElem?_eq_getElem hm]
  rw [getElem!_pos _ _ (by rw [← h0] at hm ⊢; exact hm)]
 ·rw [List.getElem?_eq_none (by simp [size_madeCells]; omega),List.getElem?_eq_none (by rw [hfl]; omega)]
theorem zo2 [WideF F] {sl:Operand} {tt:TypeId} {z:α} {n:Int} (ht:P.underlying tt=some (.slice e)) (hE:ElemOk P e size) (hZ:ZeroOk P e (enc z)) (hlen:∀ x,(enc x).length=size) (hg:gd ops σ g=some true) (hd:d<N) (hs:ev σ sl=some (.int .i64 n))
  (hn:0≤n∧n≤2147483648)
  (h:∀ v',TO F P w0 K N dfs ops Q rest ((d,v')::σ) (L++[vec enc e size v' (List.replicate n.toNat z)])) :
  TO F P w0 K N dfs ops Q (⟨some d,.makeSlice tt sl sl,ty,pos,aft,g⟩::rest) σ L:=by
 obtain ⟨i,zv,hi,hz0,hsize,hzs,hsz,hbytes⟩:=hE
 obtain ⟨i',z',hi',hz',hzc⟩:=hZ.some
 rw [hi] at hi'; cases hi'
 rw [hz0] at hz'; cases hz'
 refine zfR hg (by simp) fun a w ha hw => ?_
 have hb:(i.bytes:Int)*n≤281474976710656:=by
  have h1:(i.bytes:Int)≤65536:=by omega
  calc (i.bytes:Int)*n≤65536*2147483648:=Int.mul_le_mul h1 hn.2 hn.1 (by omega)
   _≤_:=by omega
 have hr:=run_make (P:=P) w tt e i zv ht hi hz0 .i64 .i64 n n hn.1 (Int.le_refl _) hb (by omega)
 refine ⟨_,_,by simp only [execOp,ha.ev hs,Sem.run_bind,hr]; rfl,h _ _ _ (ha.put hd _) ?_⟩
 have h2:=hw.alloc (.cells (madeCells zv.cells (n.toNat*i.size)) e (0,0))
 have h3:(Go.Proofs.YtdnalnmahlakkaaGreatDoor.obj w.heap.size (.cells (madeCells zv.cells (n.toNat*i.size)) e (0,0)))=cells w.heap.size ((List.replicate n.toNat z).flatMap enc) e:=by
  unfold cells
  rw [← zkZ hzc hzs hsz,hsize]
 rw [h3] at h2
 have h4:=h2.toVec (k:=L.length) (size:=size) (List.replicate n.toNat z) (b:=w.heap.size) (e:=e) (by simp) hlen rfl (by simp [maxLen]; omega)
 simpa using h4
theorem zqq [WideF F] {ats:Array TypeId} {kk:IntKind} {m n:Int} (hg:gd ops σ g=some true) (hd:d<N) (hx:ev σ x=some (.int kk m)) (hy:ev σ y=some (.int kk n))
  (h:TO F P w0 K N dfs ops Q rest ((d,.int kk (max m n))::σ) L):TO F P w0 K N dfs ops Q (⟨some d,.call { callee:=.builtin .max,args:=#[x,y],argTypes:=ats },ty,pos,aft,g⟩::rest) σ L :=
 zdF hg hd (by simp) (fun a w ha hw=>by
  have h1:=ha.ev hx; have h2:=ha.ev hy
  have e:(if n > m then n else m)=max m n:=by rw [Int.max_def]; split <;> split <;> omega
  simp [execOp,resolve,invoke,builtin,h1,h2,Builtin.max_,Builtin.max2,Sem.run_bind,e]) h
theorem znM [WideF F] {ats:Array TypeId} {kk:IntKind} {m n:Int} (hg:gd ops σ g=some true) (hd:d<N) (hx:ev σ x=some (.int kk m)) (hy:ev σ y=some (.int kk n))
  (h:TO F P w0 K N dfs ops Q rest ((d,.int kk (min m n))::σ) L):TO F P w0 K N dfs ops Q (⟨some d,.call { callee:=.builtin .min,args:=#[x,y],argTypes:=ats },ty,pos,aft,g⟩::rest) σ L :=
 zdF hg hd (by simp) (fun a w ha hw=>by
  have h1:=ha.ev hx; have h2:=ha.ev hy
  have e:(if n<m then n else m)=min m n:=by rw [Int.min_def]; split <;> split <;> omega
  simp [execOp,resolve,invoke,builtin,h1,h2,Builtin.min_,Builtin.min2,Sem.run_bind,e]) h
theorem zfj {j:Nat} {X:List Asn} (hk:L[k]?=some A) (hj:L[j]?=some (zc0 X)) (hne:k≠j) (h:TC F P w0 K N dfs Q c σ ((L.set k emp).set j (zc0 (A::X)))):TC F P w0 K N dfs Q c σ L:=fun a w ha hw=>h a w ha (hw.starCons hk hj hne)
theorem zgh {b:Bool} (ht:b=true→TO F P w0 K N dfs ops Q rest σ L) (hf:b=false→TO F P w0 K N dfs ops Q rest σ L):TO F P w0 K N dfs ops Q rest σ L:=by
 cases b with
 | true=>exact ht rfl
 | false=>exact hf rfl
theorem zcI {xs pre post post2:List α} {x:α} (h:xs=pre++x::post) (h2:xs=pre++[x]++post2):post=post2:=by
 rw [h,List.append_assoc] at h2
 have:=List.append_cancel_left h2
 simpa using this
end
def exA {β:Type} (f:β→Asn):Asn:=⟨fun C w=>∃ b,(f b).P C w,fun ⟨b,h⟩=>(f b).lt h,fun ⟨b,h⟩ hs hk=>⟨b,(f b).loc h hs hk⟩⟩
section
variable {F:Fence} {P:Program} {w0:World} {K:Nat→Prop} {N:Nat} {dfs:List Deferred} {ops:Array Oper} {Q:Exit→Act→World→Prop} {rest:List Oper} {c:Code} {ex:Exit} {σ:List (Nat×Value)} {L As R:List Asn} {β:Type}
def Entl {β:Type} (As:List Asn) (Bs:β→List Asn) (I:β→Prop):Prop:=∀ C w,sepL As C w→∃ b,I b∧sepL (Bs b) C w
theorem Holds.entl {I:β→Prop} {Bs:β→List Asn} {w:World} (h:Holds w0 K L w) (hs:Splits L As R) (hE:Entl As Bs I):∃ b,I b∧Holds w0 K (R++Bs b) w:=by
 obtain ⟨C1,h1,h2⟩:=h.split hs
 obtain ⟨b,hI,hb⟩:=hE C1 w h1
 exact ⟨b,hI,h2 _ C1 w (Ext.refl _ _) hb⟩
theorem ztO {I:β→Prop} {Bs:β→List Asn} (hs:Splits L As R) (hE:Entl As Bs I) (h:∀ b,I b→TO F P w0 K N dfs ops Q rest σ (R++Bs b)):TO F P w0 K N dfs ops Q rest σ L:=fun a w ha hw=>by
 obtain ⟨b,hI,hb⟩:=hw.entl hs hE; exact h b hI a w ha hb
theorem ztN {I:β→Prop} {Bs:β→List Asn} (hs:Splits L As R) (hE:Entl As Bs I) (h:∀ b,I b→TX w0 K N dfs Q ex σ (R++Bs b)):TX w0 K N dfs Q ex σ L:=fun a w ha hw=>by
 obtain ⟨b,hI,hb⟩:=hw.entl hs hE; exact h b hI a w ha hb
end
structure Hd where
 p:Option Addr
 n:Nat
 c:Nat
def Hd.v (h:Hd):Value:=.slice h.p h.n h.c
def Hd.nil:Hd:=⟨none,0,0⟩
section
variable {α η:Type} {enc:α×η→List Value} {nest:α×η→List Asn} {e:TypeId} {size:Nat} {v:Value} {xs:List α} {i:Nat} {x:α}
def zba (enc:α×η→List Value) (nest:α×η→List Asn) (e:TypeId) (size:Nat) (v:Value) (xs:List α):Asn :=
 exA fun zs:{zs:List (α×η) // zs.map Prod.fst=xs}=>zc0 [vec enc e size v zs.1,zc0 (zs.1.flatMap nest)]
theorem zlh {A B:Asn} {C:Nat→Prop} {w:World} (h:sepL [A,B] C w):∃ C1 C2,A.P C1 w∧B.P C2 w∧(∀ k,C1 k→¬ C2 k)∧∀ k,C k↔C1 k∨C2 k:=by
 obtain ⟨C1,C2,h1,⟨D1,D2,g1,g2,g3,g4⟩,h3,h4⟩:=h
 have e:∀ k,C2 k↔D1 k:=fun k=>by rw [g4]; exact ⟨fun h=>h.resolve_right (g2 k),.inl⟩
 exact ⟨C1,D1,h1,g1,fun k h h'=>h3 k h ((e k).2 h'),fun k=>by rw [h4,e]⟩
theorem zqL {A B:Asn} {C C1 C2:Nat→Prop} {w:World} (h1:A.P C1 w) (h2:B.P C2 w) (h3:∀ k,C1 k→¬ C2 k) (h4:∀ k,C k↔C1 k∨C2 k):sepL [A,B] C w :=
 ⟨C1,C2,h1,⟨C2,fun _=>False,h2,fun _ h=>h,fun _ _ h=>h,fun k=>by simp⟩,h3,h4⟩
theorem sepL.one1 {A:Asn} {C:Nat→Prop} {w:World}:sepL [A] C w↔A.P C w:=by
 constructor
 ·rintro ⟨C1,C2,h1,h2,_,h4⟩
  have:C1=C:=funext fun k=>propext ⟨fun h=>(h4 k).2 (.inl h),fun h=>((h4 k).1 h).resolve_right (h2 k)⟩
  rw [← this]; exact h1
 ·exact fun h=>⟨C,fun _=>False,h,fun _ h=>h,fun _ _ h=>h,fun k=>by simp⟩
theorem sepL.app {A B:List Asn} {C:Nat→Prop} {w:World} (h:sepL (A++B) C w):∃ C1 C2,sepL A C1 w∧sepL B C2 w∧(∀ k,C1 k→¬ C2 k)∧∀ k,C k↔C1 k∨C2 k:=by
 induction A generalizing C with
 | nil=>exact ⟨fun _=>False,C,fun _ h=>h,h,fun _ h=>h.elim,fun k=>by simp⟩
 | cons A L ih =>
  obtain ⟨C1,C2,h1,h2,h3,h4⟩:=h
  obtain ⟨D1,D2,g1,g2,g3,g4⟩:=ih h2
  refine ⟨fun k=>C1 k∨D1 k,D2,⟨C1,D1,h1,g1,fun k h h'=>h3 k h ((g4 k).2 (.inl h')),fun k=>Iff.rfl⟩,g2,fun k h h' => ?_,fun k => ?_⟩
  ·rcases h with h | h
   ·exact h3 k h ((g4 k).2 (.inr h'))
   ·exact g3 k h h'
  ·rw [h4,g4,or_assoc]
theorem zfl {A B:List Asn} {C C1 C2:Nat→Prop} {w:World} (h1:sepL A C1 w) (h2:sepL B C2 w) (h3:∀ k,C1 k→¬ C2 k) (h4:∀ k,C k↔C1 k∨C2 k):sepL (A++B) C w:=(h1.append h2 h3).congr h4
theorem zkf {zs:List (α×η)} {z:α×η} (hz:zs[i]?=some z) {C:Nat→Prop} {w:World}:sepL (zs.flatMap nest) C w↔∃ C1 C2,sepL (nest z) C1 w∧sepL ((zs.eraseIdx i).flatMap nest) C2 w∧(∀ k,C1 k→¬ C2 k)∧∀ k,C k↔C1 k∨C2 k:=by
 induction zs generalizing i C with
 | nil=>simp at hz
 | cons y zs ih =>
  rw [List.flatMap_cons]
  rcases i with _ | i
  ·simp at hz; subst hz
   constructor
   ·exact fun h=>sepL.app h
   ·rintro ⟨C1,C2,h1,h2,h3,h4⟩; exact zfl h1 h2 h3 h4
  ·have hz':zs[i]?=some z:=by simpa using hz
   have e:(y::zs).eraseIdx (i+1)=y::zs.eraseIdx i:=rfl
   rw [e,List.flatMap_cons]
   constructor
   ·intro h
    obtain ⟨C1,C2,h1,h2,h3,h4⟩:=sepL.app h
    obtain ⟨D1,D2,g1,g2,g3,g4⟩:=(ih hz').1 h2
    refine ⟨D1,fun k=>C1 k∨D2 k,g1,zfl h1 g2 (fun k h h'=>h3 k h ((g4 k).2 (.inr h'))) (fun k=>Iff.rfl),fun k h h' => ?_,fun k => ?_⟩
    ·rcases h' with h' | h'
     ·exact h3 k h' ((g4 k).2 (.inl h))
     ·exact g3 k h h'
    ·rw [h4,g4]; exact or_left_comm
   ·rintro ⟨D1,E1,g1,hE,g3,g4⟩
    obtain ⟨C1,D2,h1,g2,h3,h4⟩:=sepL.app hE
    refine zfl (C1:=C1) (C2:=fun k=>D1 k∨D2 k) h1 ((ih hz').2 ⟨D1,D2,g1,g2,fun k h h'=>g3 k h ((h4 k).2 (.inr h')),fun k=>Iff.rfl⟩) (fun k h h' => ?_) (fun k => ?_)
    ·rcases h' with h' | h'
     ·exact g3 k h' ((h4 k).2 (.inl h))
     ·exact h3 k h h'
    ·rw [g4,h4]; exact or_left_comm
theorem zqw:Entl ([]:List Asn) (fun _:Unit=>[zba enc nest e size (.slice none 0 0) ([]:List α)]) (fun _=>True):=by
 intro C w h
 refine ⟨(),trivial,sepL.one1.2 ⟨⟨[],rfl⟩,zqL (C1:=fun _=>False) (C2:=C) Vec.nil h (fun _ h=>h.elim) (fun k=>by simp)⟩⟩
theorem znU {C:Nat→Prop} {w:World} (h:(zba enc nest e size v xs).P C w):∃ a c,v=.slice a xs.length c:=by
 obtain ⟨⟨zs,hz⟩,h⟩:=h
 obtain ⟨C1,C2,h1,_⟩:=zlh h
 have:=Vec.len h1
 rw [← hz,List.length_map]; exact this
end
section
variable {F:Fence} {P:Program} {w0:World} {K:Nat→Prop} {N:Nat} {dfs:List Deferred} {ops:Array Oper} {Q:Exit→Act→World→Prop} {rest:List Oper} {σ:List (Nat×Value)} {L:List Asn}
 {d:Nat} {ty:TypeId} {pos:String} {aft:Array Edge} {g:Option (Nat×Bool)} {x:Operand} {k:Nat} {α η:Type} {enc:α×η→List Value} {nest:α×η→List Asn} {e:TypeId} {size:Nat} {vv:Value} {xs:List α}
theorem zjB [WideF F] {tt te:TypeId} (hg:gd ops σ g=some true) (hd:d<N) (hx:ev σ x=some vv) (hk:L[k]?=some (zba enc nest e size vv xs)) (ht:P.underlying tt=some (.slice te))
  (h:TO F P w0 K N dfs ops Q rest ((d,.int .i64 xs.length)::σ) L):TO F P w0 K N dfs ops Q (⟨some d,.call { callee:=.builtin .len,args:=#[x],argTypes:=#[tt] },ty,pos,aft,g⟩::rest) σ L :=
 zdF hg hd (by simp) (fun a w ha hw=>by
  obtain ⟨C,hv,_⟩:=hw.focus hk
  obtain ⟨q,cc,hq⟩:=znU hv
  have:=ha.ev hx
  simp [execOp,resolve,invoke,builtin,this,hq,Builtin.len_,run_underlying ht,Sem.run_bind,goInt]) h
theorem zc7 {ε:Type} {enc1:ε→List Value} {ys:List ε} (hk:L[k]?=some (vec enc1 e size vv ys)) (h:∀ hd:Hd,vv=hd.v→TO F P w0 K N dfs ops Q rest σ L):TO F P w0 K N dfs ops Q rest σ L:=fun a w ha hw=>by
 obtain ⟨C,hv,_⟩:=hw.focus hk
 obtain ⟨q,cc,he⟩:=Vec.len hv
 exact h ⟨q,ys.length,cc⟩ he a w ha hw
theorem zo1 (hk:L[k]?=some (zba enc nest e size vv xs)) (h:∀ hd:Hd,vv=hd.v→TO F P w0 K N dfs ops Q rest σ L):TO F P w0 K N dfs ops Q rest σ L:=fun a w ha hw=>by
 obtain ⟨C,hv,_⟩:=hw.focus hk
 obtain ⟨q,cc,he⟩:=znU hv
 exact h ⟨q,xs.length,cc⟩ he a w ha hw
theorem znb {b:Nat} {ε:Type} {enc1:ε→List Value} {y:ε} (hlen:∀ x,(enc1 x).length=size):Entl [vec enc1 e size (.slice (some ⟨b,0,none⟩) 1 1) [y]] (fun _:Unit=>[cells b (enc1 y) e]) (fun _=>True):=by
 intro C w h
 obtain ⟨h1,rfl⟩:=sepL.one1.1 h
 refine ⟨(),trivial,sepL.one1.2 ⟨fun k=>by simp [Value.ownBlock,eq_comm],?_⟩⟩
 obtain ⟨h2,h3⟩:=h1
 rcases h3 with ⟨h3,_⟩ | ⟨g,cap,cur,he,_,h5,h6,h7,h8,h9⟩
 ·cases h3
 ·cases he
  have e1:[y].flatMap enc1=enc1 y:=by simp
  rw [e1] at h9 h2
  have hl:cur.toList.length=size:=by simpa using h8
  have:cur.toList=enc1 y:=by
   rw [← h9,List.take_of_length_le]
   simp [hl]
  have h10:cur=(enc1 y).toArray:=by rw [← this]
  rw [h5,h10]
end
section
variable {F:Fence} {P:Program} {w0:World} {K:Nat→Prop} {N:Nat} {dfs:List Deferred} {ops:Array Oper} {Q:Exit→Act→World→Prop} {rest:List Oper} {σ:List (Nat×Value)} {L:List Asn}
 {d:Nat} {ty:TypeId} {pos:String} {aft:Array Edge} {g:Option (Nat×Bool)} {x y:Operand} {t e:TypeId} {size:Nat}
theorem zhc [WideF F] {n b o off:Nat} {i:Int} (h0:0≤i∧i<n) (ht:P.underlying t=some (.array n e)) (hT:SizeOk P e size) (hg:gd ops σ g=some true) (hd:d<N) (hx:ev σ x=some (.pointer (some ⟨b,o,none⟩))) (hy:ev σ y=some (.int .i64 i))
  (ho:o+i.toNat*size=off)
  (h:TO F P w0 K N dfs ops Q rest ((d,.pointer (some ⟨b,off,none⟩))::σ) L):TO F P w0 K N dfs ops Q (⟨some d,.indexAddr t x y,ty,pos,aft,g⟩::rest) σ L:=by
 obtain ⟨ii,hu,hs⟩:=hT.some
 subst ho; subst hs
 obtain ⟨m,rfl⟩:∃ m:Nat,i=m:=⟨i.toNat,by omega⟩
 refine zdF hg hd (by simp) (fun a w ha hw => ?_) h
 have h1:=ha.ev hx; have h2:=ha.ev hy
 have hi':m<n:=by omega
 simp [execOp,Instr.indexAt,h1,h2,asIntOf,run_underlying ht,Sem.run_bind,hi',sizeOf,typeInfo,hu,Addr.add_mid,Instr.sureAddr]
end
section
variable {F:Fence} {P:Program} {w0:World} {K:Nat→Prop} {N:Nat} {dfs:List Deferred} {Q:Exit→Act→World→Prop} {σ:List (Nat×Value)} {L:List Asn}
theorem zrB {id:Nat} {l:List Oper} (n:Nat) (Inv:(Nat→Prop)→Act→World→Prop) (hm:P.follows .mixedOrders=true)
  (hlt:(l.zipIdx.all fun (o,i)=>(zdA o).all fun j=>decide (j<i))=true) (hT:zlf l n=true) (hnl:n≤l.length)
  (h0:∀ a w,At N dfs σ a→Holds w0 K L w→Inv (fun _=>False) a w)
  (hstep:∀ i o,i<n→l[i]?=some o→∀ D a w,¬ D i→(∀ j∈zdA o,D j)→Clo l.toArray D→Inv D a w→wpListIn F 0 P l.toArray (Exit.then (Inv (fun j=>D j∨j=i)) Q) [o] a w)
  (htail:∀ D a w,(∀ j,j<n→D j)→Inv D a w→wpListIn F 0 P l.toArray Q (l.drop n) a w):TC F P w0 K N dfs Q (.region id l.toArray true) σ L:=by
 intro a w ha hw
 have hT':=zle hT
 obtain ⟨J,hJ⟩:∃ J:(Nat→Prop)→Act→World→Prop,J=(fun D a w=>Clo l.toArray D∧((∃ k,n<k∧(∀ j,D j↔j<k)∧wpListIn F 0 P l.toArray Q (l.drop k) a w) ∨
  ((∀ j,D j→j<n)∧Inv D a w))):=⟨_,rfl⟩
 refine zgi hm (by simpa using hlt) J (by subst hJ; exact ⟨fun i o _ h=>h.elim,.inr ⟨fun _ h=>h.elim,h0 _ _ ha hw.drew⟩⟩) ?_ ?_
 ·have all:∀ (m:List Oper) (k:Nat),(∀ i o,m[i]?=some o→l[k+i]?=some o)→RegSteps F 0 P l.toArray Q J m k:=by
   intro m
   induction m with
   | nil=>intro k _; trivial
   | cons q m ih =>
    intro k hl
    refine ⟨?_,ih (k+1) (fun i o' ho'=>by have:=hl (i+1) o' (by simpa using ho'); rwa [show k+1+i=k+(i+1) by omega])⟩
    have hq:l[k]?=some q:=hl 0 q rfl
    subst hJ
    rintro D a w hn hd ⟨hcl,hI⟩
    have hcl':Clo l.toArray (fun j=>D j∨j=k):=hcl.add (by simpa using hq) hd
    have hkl:k<l.length:=(List.getElem?_eq_some_iff.1 hq).1
    have hdrop:l.drop k=q::l.drop (k+1):=by
     obtain ⟨h1,h2⟩:=List.getElem?_eq_some_iff.1 hq
     rw [← h2]; exact List.drop_eq_getElem_cons h1
    rcases hI with ⟨m,hm0,hD,hwp⟩ | ⟨hD,hI⟩
    ·have hkm:k=m:=by
      have h1:¬ k<m:=fun h=>hn ((hD k).2 h)
      have h2:=hT' D hcl k q (by omega) hq hd
      by_cases h3:m<k
      ·have:=(hD _).1 (h2 _ h3); omega
      ·omega
     subst hkm
     rw [hdrop] at hwp
     refine zck (fun a' w' h=>⟨hcl',.inl ⟨k+1,by omega,fun j => ?_,h⟩⟩) (zgY hwp)
     show D j∨j=k↔_
     rw [hD]; omega
    ·by_cases hk:k<n
     ·refine zck (fun a' w' h=>⟨hcl',.inr ⟨fun j hj => ?_,h⟩⟩) (hstep k q hk hq D a w hn hd hcl hI)
      rcases hj with hj | rfl
      ·exact hD j hj
      ·exact hk
     ·have hall:=hT' D hcl k q (by omega) hq hd
      have hk':k=n:=by
       by_cases h:n<k
       ·have:=hD _ (hall _ h); omega
       ·omega
      subst hk'
      have hwp:=htail D a w hall hI
      rw [hdrop] at hwp
      refine zck (fun a' w' h=>⟨hcl',.inl ⟨k+1,by omega,fun j => ?_,h⟩⟩) (zgY hwp)
      refine ⟨fun hj => ?_,fun hj => ?_⟩
      ·rcases hj with hj | rfl
       ·have:=hD j hj; omega
       ·omega
      ·by_cases h:j=k
       ·exact .inr h
       ·exact .inl (hall j (by omega))
  exact all _ 0 (fun i o ho=>by simpa using ho)
 ·subst hJ
  rintro D a w hD ⟨hcl,hI⟩
  have hsz:l.toArray.size=l.length:=by simp
  rcases hI with ⟨m,hm0,hDm,hwp⟩ | ⟨hDp,hI⟩
  ·have:l.length≤m:=by
    by_cases h:m<l.length
    ·have:=(hDm m).1 (hD _ (by rw [hsz]; omega)); omega
    ·omega
   rw [List.drop_eq_nil_of_le this] at hwp
   exact hwp
  ·have hnn:l.length≤n:=by
    by_cases h:n<l.length
    ·have:=hDp n (hD _ (by rw [hsz]; omega)); omega
    ·omega
   have:=htail D a w (fun j hj=>hD j (by rw [hsz]; omega)) hI
   rw [List.drop_eq_nil_of_le (by omega)] at this
   exact this
open Classical in
noncomputable def eD (D:Nat→Prop) (base:Asn):List (Nat×Asn)→Asn
 | []=>base
 | (i,A)::r=>if D i then A else eD D base r
theorem zda {D:Nat→Prop} {base A B:Asn} {i:Nat} {r:List (Nat×Asn)} (h:D i) (hA:A=B):eD D base ((i,A)::r)=B:=by unfold eD; rw [if_pos h,hA]
theorem za5 {D:Nat→Prop} {base A B:Asn} {i:Nat} {r:List (Nat×Asn)} (h:¬ D i) (hr:eD D base r=B):eD D base ((i,A)::r)=B:=by rw [eD,if_neg h]; exact hr
theorem zbr {D:Nat→Prop} {base:Asn}:eD D base []=base:=rfl
theorem zbg {D:Nat→Prop} {i:Nat} {base:Asn}:∀ {r:List (Nat×Asn)},(r.map Prod.fst).contains i=false→eD (fun j=>D j∨j=i) base r=eD D base r
 | [],_=>rfl
 | (k,A)::r,h=>by
  simp only [List.map_cons,List.contains_cons,Bool.or_eq_false_iff] at h
  have hne:¬ k=i:=by have:=h.1; simp at this; exact fun e=>this e.symm
  rw [eD,eD,zbg h.2]
  by_cases hd:D k
  ·rw [if_pos (.inl hd),if_pos hd]
  ·rw [if_neg hd,if_neg (by rintro (h | h); exact hd h; exact hne h)]
theorem ze5 {base:Asn}:∀ {r:List (Nat×Asn)},eD (fun _=>False) base r=base
 | []=>rfl
 | (k,A)::r=>by rw [eD,if_neg (fun h=>h),ze5]
theorem zay {α:Type} {a a':α} {l l':List α} (h:a=a') (hl:l=l'):a::l=a'::l':=by rw [h,hl]
theorem zaF {D:Nat→Prop} {i t:Nat} {v v':Value} {r r':List (Nat×Nat×Value)} (h:D i→v=v') (hr:dl D r=dl D r'):dl D ((i,t,v)::r)=dl D ((i,t,v')::r'):=by
 simp only [dl,hr]
 by_cases hd:D i
 ·rw [if_pos hd,if_pos hd,h hd]
 ·rw [if_neg hd,if_neg hd]
def DrawG {β:Type} (F:Fence) (P:Program) (w0:World) (K:Nat→Prop) (N:Nat) (dfs:List Deferred) (Q:Exit→Act→World→Prop) (ops:Array Oper) (σ:List (Nat×Value)) (vals:β→List (Nat×Nat×Value)) (LL:(Nat→Prop)→β→List Asn):List Oper→Nat→Prop
 | [],_=>True
 | o::rest,i=>(∀ (D:Nat→Prop) (b:β),¬ D i→(∀ j∈zdA o,D j)→Clo ops D →
   TO F P w0 K N dfs ops (Exit.then (fun a w=>∃ b,At N dfs (dl (fun j=>D j∨j=i) (vals b)++σ) a∧Holds w0 K (LL (fun j=>D j∨j=i) b) w) Q) [o] (dl D (vals b)++σ) (LL D b))∧DrawG F P w0 K N dfs Q ops σ vals LL rest (i+1)
theorem DrawG.nil {β:Type} {ops:Array Oper} {vals:β→List (Nat×Nat×Value)} {LL:(Nat→Prop)→β→List Asn} {i:Nat}:DrawG F P w0 K N dfs Q ops σ vals LL [] i:=trivial
theorem zbd {β:Type} {ops:Array Oper} {vals:β→List (Nat×Nat×Value)} {LL:(Nat→Prop)→β→List Asn} {o:Oper} {rest:List Oper} {i:Nat} (h:∀ (D:Nat→Prop) (b:β),¬ D i→(∀ j∈zdA o,D j)→Clo ops D →
   TO F P w0 K N dfs ops (Exit.then (fun a w=>∃ b,At N dfs (dl (fun j=>D j∨j=i) (vals b)++σ) a∧Holds w0 K (LL (fun j=>D j∨j=i) b) w) Q) [o] (dl D (vals b)++σ) (LL D b)) (hs:DrawG F P w0 K N dfs Q ops σ vals LL rest (i+1)) :
  DrawG F P w0 K N dfs Q ops σ vals LL (o::rest) i:=⟨h,hs⟩
theorem DrawG.get {β:Type} {ops:Array Oper} {vals:β→List (Nat×Nat×Value)} {LL:(Nat→Prop)→β→List Asn}:∀ {l:List Oper} {k:Nat},DrawG F P w0 K N dfs Q ops σ vals LL l k→∀ i o,l[i]?=some o→∀ (D:Nat→Prop) (b:β),¬ D (k+i)→(∀ j∈zdA o,D j)→Clo ops D →
   TO F P w0 K N dfs ops (Exit.then (fun a w=>∃ b,At N dfs (dl (fun j=>D j∨j=k+i) (vals b)++σ) a∧Holds w0 K (LL (fun j=>D j∨j=k+i) b) w) Q) [o] (dl D (vals b)++σ) (LL D b)
 | [],k,_,i,o,h=>by simp at h
 | x::l,k,h,0,o,ho=>by simp at ho; subst ho; exact h.1
 | x::l,k,h,i+1,o,ho=>by
  have:=DrawG.get h.2 i o (by simpa using ho)
  rwa [show k+1+i=k+(i+1) by omega] at this
theorem zhd {id:Nat} {l:List Oper} {β:Type} (n:Nat) (b0:β) (vals:β→List (Nat×Nat×Value)) (LL:(Nat→Prop)→β→List Asn) (hm:P.follows .mixedOrders=true)
  (hlt:(l.zipIdx.all fun (o,i)=>(zdA o).all fun j=>decide (j<i))=true) (hT:zlf l n=true) (hnl:n≤l.length)
  (hval:∀ b,(vals b).all (fun p=>decide (p.1<n))=true) (h0:LL (fun _=>False) b0=L)
  (hpre:DrawG F P w0 K N dfs Q l.toArray σ vals LL (l.take n) 0)
  (htail:∀ (D:Nat→Prop) b,(∀ j,j<n→D j)→TO F P w0 K N dfs l.toArray Q (l.drop n) ((vals b).map (fun p=>p.2)++σ) (LL D b)):TC F P w0 K N dfs Q (.region id l.toArray true) σ L:=by
 refine zrB n (fun D a w=>∃ b,At N dfs (dl D (vals b)++σ) a∧Holds w0 K (LL D b) w) hm hlt hT hnl (fun a w ha hw=>⟨b0,by rw [zj4]; exact ha,by rw [h0]; exact hw⟩) ?_ ?_
 ·rintro i o hi ho D a w hn hd hcl ⟨b,ha,hw⟩
  have:=hpre.get i o (by rw [List.getElem?_take_of_lt hi]; exact ho) D b (by rwa [Nat.zero_add]) hd hcl a w ha hw
  rwa [Nat.zero_add] at this
 ·rintro D a w hD ⟨b,ha,hw⟩
  refine htail D b hD a w ?_ hw
  rw [zlp (fun p hp=>hD _ (by have:=List.all_eq_true.1 (hval b) p hp; simpa using this))] at ha
  exact ha
theorem zcb {β:Type} {ops:Array Oper} {vals:β→List (Nat×Nat×Value)} {LL:(Nat→Prop)→β→List Asn} {D:Nat→Prop} {b:β} (b':β) (m:Nat) {i t:Nat} {v:Value} {L':List Asn} (hu:zdl ((vals b').map (fun p=>p.2.1))=true) (hi:zdl ((vals b').map (fun p=>p.1))=true)
  (hm:(vals b')[m]?=some (i,t,v)) (hc:dl D (vals b)=dl D (vals b')) (hL:LL (fun j=>D j∨j=i) b'=L') :
  TO F P w0 K N dfs ops (Exit.then (fun a w=>∃ b,At N dfs (dl (fun j=>D j∨j=i) (vals b)++σ) a∧Holds w0 K (LL (fun j=>D j∨j=i) b) w) Q) [] ((t,v)::(dl D (vals b)++σ)) L':=fun a w ha hw=>⟨b',by rw [hc] at ha; exact zsh (zgf hu) (zgf hi) hm _ _ _ ha,by rw [hL]; exact hw⟩
theorem zoq {β:Type} {ops:Array Oper} {vals:β→List (Nat×Nat×Value)} {LL:(Nat→Prop)→β→List Asn} {D:Nat→Prop} {b:β} (b':β) {i:Nat} {L':List Asn} (hm:((vals b').map (fun p=>p.1)).contains i=false) (hc:dl D (vals b)=dl D (vals b')) (hL:LL (fun j=>D j∨j=i) b'=L') :
  TO F P w0 K N dfs ops (Exit.then (fun a w=>∃ b,At N dfs (dl (fun j=>D j∨j=i) (vals b)++σ) a∧Holds w0 K (LL (fun j=>D j∨j=i) b) w) Q) [] (dl D (vals b)++σ) L':=fun a w ha hw=>⟨b',by rw [zp5 hm,← hc]; exact ha,by rw [hL]; exact hw⟩
end
section
variable {F:Fence} {P:Program} {w0:World} {K:Nat→Prop} {N:Nat} {dfs:List Deferred} {ops:Array Oper} {Q:Exit→Act→World→Prop} {rest:List Oper} {σ:List (Nat×Value)} {L L':List Asn}
theorem zbM (h:L=L') (hs:TO F P w0 K N dfs ops Q rest σ L'):TO F P w0 K N dfs ops Q rest σ L:=by rw [h]; exact hs
theorem zmq {w:World}:∀ n:Nat,sepL (List.replicate n emp) (fun _=>False) w
 | 0=>fun _ h=>h
 | n+1=>⟨fun _=>False,fun _=>False,fun _ h=>h,zmq n,fun _ h=>h.elim,fun k=>by simp⟩
theorem zlw {c:Code} (n:Nat) (hs:TC F P w0 K N dfs Q c σ (L++List.replicate n emp)):TC F P w0 K N dfs Q c σ L:=fun a w ha hw=>by
 refine hs a w ha ?_
 obtain ⟨C,hL,hx⟩:=hw
 exact ⟨C,zfl hL (zmq n) (fun _ _ h=>h) (fun k=>by simp),hx⟩
theorem zhb {A:Asn} (p:Nat) (hA:L.getLast?=some A) (hp:L.dropLast[p]?=some emp) (hs:TO F P w0 K N dfs ops Q rest σ (L.dropLast.set p A)):TO F P w0 K N dfs ops Q rest σ L:=fun a w ha hw=>by
 refine hs a w ha ?_
 obtain ⟨C,hL,hx⟩:=hw
 refine ⟨C,?_,hx⟩
 have e:L=L.dropLast++[A]:=by
  rcases List.eq_nil_or_concat L with rfl | ⟨M,B,rfl⟩
  ·simp at hA
  ·simp at hA; subst hA; simp
 rw [e] at hL
 obtain ⟨C1,C2,h1,h2,h3,h4⟩:=sepL.app hL
 have h2':=sepL.one1.1 h2
 have hlt:p<L.dropLast.length:=(List.getElem?_eq_some_iff.1 hp).1
 have hset:L.dropLast.set p emp=L.dropLast:=by
  obtain ⟨_,he⟩:=List.getElem?_eq_some_iff.1 hp
  rw [← he]; exact List.set_getElem_self hlt
 exact sepL.put hlt h2' (by rw [hset]; exact h1) (fun k a b=>h3 k b a) (fun k=>by rw [h4]; exact Or.comm)
end
theorem zpX (s:zBA) (a:Nat):(s.extract a s.size).data.toList=s.data.toList.drop a:=by
 rw [extract_data]; rw [List.take_of_length_le]; simp
theorem zg3 (r:Int):(Utf8.encode r).data.toList=encodeRune r:=by
 unfold Utf8.encode encodeRune
 rw [validRune_eq]
 by_cases hv:validRune r=true
 ·have hv':(0≤r∧r<55296)∨(57343<r∧r≤1114111):=by simpa [validRune] using hv
  rw [hv]
  simp only [if_true]
  obtain ⟨n,rfl⟩:∃ n:Nat,r=n:=⟨r.toNat,by omega⟩
  simp only [Int.toNat_natCast]
  by_cases h1:n<128
  ·rw [encodeRuneZ_one (by omega) (by omega),if_pos h1]; rfl
  ·by_cases h2:n<2048
   ·rw [encodeRuneZ_two (by omega) (by omega),if_neg h1,if_pos h2]
    simp only [List.map_cons,List.map_nil]
    rw [show ((192:Int)+n / 64).toNat=192+n / 64 from by omega,show ((128:Int)+n % 64).toNat=128+n % 64 from by omega]
   ·by_cases h3:n<65536
    ·rw [encodeRuneZ_three (by omega),if_neg h1,if_neg h2,if_pos h3]
     simp only [List.map_cons,List.map_nil]
     rw [show ((224:Int)+n / 4096).toNat=224+n / 4096 from by omega,show ((128:Int)+n / 64 % 64).toNat=128+n / 64 % 64 from by omega,show ((128:Int)+n % 64).toNat=128+n % 64 from by omega]
    ·rw [encodeRuneZ_four (by omega) (by omega),if_neg h1,if_neg h2,if_neg h3]
     simp only [List.map_cons,List.map_nil]
     rw [show ((240:Int)+n / 262144).toNat=240+n / 262144 from by omega,show ((128:Int)+n / 4096 % 64).toNat=128+n / 4096 % 64 from by omega,show ((128:Int)+n / 64 % 64).toNat=128+n / 64 % 64 from by omega,show ((128:Int)+n % 64).toNat=128+n % 64 from by omega]
 ·have hv':¬ ((0≤r∧r<55296)∨(57343<r∧r≤1114111)):=by simpa [validRune] using hv
  have hv2:validRune r=false:=by simpa using hv
  rw [hv2,encodeRuneZ_bad (by omega)]
  simp [Utf8.runeError]
theorem zgm (r:Int):(Utf8.encode r).size=(encodeRune r).length:=by
 rw [← zg3]; simp
theorem zir (r:Int):1≤(encodeRune r).length∧(encodeRune r).length≤4:=by
 have:=encodeRuneZ_length r; simpa [encodeRune] using this
structure Pc where
 i:Nat
 w:Nat
 r:Nat
 deriving DecidableEq
def Pc.broken (p:Pc):Bool:=p.r==65533&&p.w==1
def zoJ:Nat→Nat→List UInt8→List Pc
 | 0,_,_=>[]
 | f+1,i,l=>if l=[] then [] else ⟨i,(decodeL l).2,(decodeL l).1⟩::zoJ f (i+(decodeL l).2) (l.drop (decodeL l).2)
def zef (i:Nat) (l:List UInt8):List Pc:=zoJ l.length i l
def pcs (l:List UInt8):List Pc:=zef 0 l
theorem zhT (l:List UInt8):1≤(decodeL l).2:=decodeL_width l
theorem zmP (l:List UInt8) (h:l≠[]):(decodeL l).2≤l.length:=decodeL_le l h
theorem zno:∀ (f g i:Nat) (l:List UInt8),l.length≤f→l.length≤g→zoJ f i l=zoJ g i l:=by
 intro f
 induction f with
 | zero =>
  intro g i l h1 h2
  have:l=[]:=List.eq_nil_of_length_eq_zero (by omega)
  subst this
  cases g <;> simp [zoJ]
 | succ f ih =>
  intro g i l h1 h2
  cases g with
  | zero =>
   have:l=[]:=List.eq_nil_of_length_eq_zero (by omega)
   subst this
   simp [zoJ]
  | succ g =>
   by_cases hl:l=[]
   ·simp [zoJ,hl]
   ·simp only [zoJ,hl,if_false]
    have:=zhT l
    have hlen:0<l.length:=List.length_pos_iff.2 hl
    rw [ih g _ _ (by simp; omega) (by simp; omega)]
theorem zd9 (i:Nat):zef i []=[]:=by simp [zef,zoJ]
theorem zdp (i:Nat) (l:List UInt8) (h:l≠[]) :
  zef i l=⟨i,(decodeL l).2,(decodeL l).1⟩::zef (i+(decodeL l).2) (l.drop (decodeL l).2):=by
 have hlen:0<l.length:=List.length_pos_iff.2 h
 unfold zef
 obtain ⟨n,hn⟩:∃ n,l.length=n+1:=⟨l.length - 1,by omega⟩
 rw [hn]
 simp only [zoJ,h,if_false]
 have:=zhT l
 rw [zno n (l.drop (decodeL l).2).length _ _ (by simp; omega) (Nat.le_refl _)]
theorem zmN (l:List UInt8) (h:l≠[]) (hb:¬ ((decodeL l).1=65533∧(decodeL l).2=1)):(encodeRune ((decodeL l).1:Nat)).length=(decodeL l).2:=by
 rw [encode_decode l h hb]
 have:=zmP l h
 simp; omega
theorem zlY:encodeRune ((65533:Nat):Int)=[239,191,189]:=by decide
theorem znG (l:List UInt8) (h:l≠[]) (hr:(decodeL l).1=65533) (hw:(decodeL l).2≠1):l.take 3=[239,191,189]∧(decodeL l).2=3:=by
 have h1:=encode_decode l h (fun h=>hw h.2)
 have h2:=zmN l h (fun h=>hw h.2)
 rw [hr,zlY] at h1 h2
 simp at h2
 rw [← h2] at h1
 exact ⟨h1.symm,h2.symm⟩
theorem zmO (l:List UInt8) (hr:(decodeL l).1=65533) (hw:(decodeL l).2=1):l.take 3≠[239,191,189]:=by
 intro h3
 obtain ⟨t,rfl⟩:∃ t,l=239::191::189::t:=by
  rcases l with _ | ⟨a,_ | ⟨b,_ | ⟨c,t⟩⟩⟩ <;> simp at h3
  exact ⟨t,by simp [h3]⟩
 rw [decodeL_N] at hw
 simp [decodeN] at hw
theorem znF (l:List UInt8):(decodeL l).1≤1114111:=decodeL_rune l
theorem zp7 (l:List UInt8):(decodeL l).1<55296∨(57343<(decodeL l).1∧(decodeL l).1≤1114111):=by
 rw [decodeL_N]; exact decodeN_valid _ _ _ _ _ (UInt8.toNat_lt _)
structure zqx (l:List UInt8) (r wd:Nat):Prop where
 eq:decodeL l=(r,wd)
 pos:1≤wd
 le:wd≤l.length
 valid:r<55296∨(57343<r∧r≤1114111)
 width:¬ (r=65533∧wd=1)→(encodeRune ((r:Nat):Int)).length=wd
 bytes:¬ (r=65533∧wd=1)→encodeRune ((r:Nat):Int)=l.take wd
 lost_ok:r=65533→wd≠1→l.take 3=[239,191,189]∧wd=3
 lost_bad:r=65533→wd=1→l.take 3≠[239,191,189]
theorem ztz (l:List UInt8) (h:l≠[]):zqx l (decodeL l).1 (decodeL l).2 :=
 ⟨rfl,zhT l,zmP l h,zp7 l,zmN l h,encode_decode l h,znG l h,zmO l⟩
theorem zpz (P:Program) (wr:World) (it:Nat) (s:zBA) (pos:Nat) (hit:wr.heap[it]?=some (.stringIter s pos)) (hlt:pos<s.size) :
  ∃ (r wd:Nat) (W1:World),(∀ ty,(Instr.next (.pointer (some ⟨it,0,none⟩)) true ty).run P wr=.ok (.tuple #[.bool true,.int .i64 pos,.int .i32 r]) W1) ∧
   Fr (fun k=>k=it) wr W1∧W1.heap[it]?=some (.stringIter s (pos+wd))∧W1.heap.size=wr.heap.size ∧
   zqx (s.data.toList.drop pos) r wd∧zef pos (s.data.toList.drop pos)=⟨pos,wd,r⟩::zef (pos+wd) (s.data.toList.drop (pos+wd))∧pos+wd≤s.size∧1≤wd:=by
 have hne:s.data.toList.drop pos≠[]:=by
  intro e; have:=congrArg List.length e; simp at this; omega
 have hd:=decodeL_drop s pos
 have hok:=ztz _ hne
 refine ⟨(decodeL (s.data.toList.drop pos)).1,(decodeL (s.data.toList.drop pos)).2,wr.iterAt it s (pos+(decodeL (s.data.toList.drop pos)).2),?_,Fr.iterAt (Fr.refl (fun k=>k=it) wr) (.inl rfl) s _,iterAt_heap wr it s pos _ hit,iterAt_size ..,hok,?_,?_,zhT _⟩
 ·intro ty
  rw [hd]
  exact run_next_any_at wr it s pos ty hit hlt
 ·rw [zdp pos _ hne,List.drop_drop]
 ·have:=hok.le; simp at this; omega
theorem zpA (P:Program) (wr:World) (it:Nat) (s:zBA) (pos:Nat) (hit:wr.heap[it]?=some (.stringIter s pos)) (hlt:¬ pos<s.size) :
  (∀ ty,(Instr.next (.pointer (some ⟨it,0,none⟩)) true ty).run P wr=.ok (.tuple #[.bool false]) wr)∧zef pos (s.data.toList.drop pos)=[] :=
 ⟨fun ty=>run_next_end_at wr it s pos ty hit hlt,by rw [List.drop_eq_nil_of_le (by simp; omega),zd9]⟩
def zjl (s:zBA):List Int:=(pcs s.data.toList).map fun p=>(p.r:Int)
theorem ziU (s:zBA):∀ (n i:Nat) (acc:Array Value),s.size - i≤n→Conv.runesFrom s n i acc=acc++((zef i (s.data.toList.drop i)).map fun p=>Value.int .i32 (p.r:Int)).toArray
 | 0,i,acc,h=>by
  rw [List.drop_eq_nil_of_le (by simp; omega),zd9]; simp [Conv.runesFrom]
 | n+1,i,acc,h=>by
  unfold Conv.runesFrom
  by_cases hi:i<s.size
  ·have hne:s.data.toList.drop i≠[]:=by
    intro e; have:=congrArg List.length e; simp at this; omega
   have hd:=decodeL_drop s i
   have h1:=zhT (s.data.toList.drop i)
   rw [if_pos hi]
   simp only
   rw [← hd,ziU s n _ _ (by omega),zdp _ _ hne,List.drop_drop]
   simp
  ·rw [if_neg hi,List.drop_eq_nil_of_le (by simp; omega),zd9]; simp
theorem zmt (s:zBA):Conv.runesFrom s s.size 0 #[]=((zjl s).map (Value.int .i32)).toArray:=by
 rw [ziU s s.size 0 #[] (by omega)]
 simp [zjl,pcs,Function.comp_def]
section
variable {F:Fence} {P:Program} {w0:World} {K:Nat→Prop} {N:Nat} {dfs:List Deferred} {ops:Array Oper} {Q:Exit→Act→World→Prop} {rest:List Oper} {σ:List (Nat×Value)} {L:List Asn}
 {d:Nat} {ty:TypeId} {pos:String} {aft:Array Edge} {g:Option (Nat×Bool)} {x:Operand} {t e:TypeId} {k:Nat} {vv:Value}
theorem ziy (s:zBA):(zjl s).length≤s.size:=by
 have h:=size_runesFrom s s.size 0 #[]
 rw [zmt] at h
 simpa using h
end
theorem zkh {P:Program} (w:World) (t ty e:TypeId) (i:TypeInfo) (ht:P.underlying t=some (.slice e)) (hi:P.info? e=some i) (b:Option Addr) (n cap c:Nat) (h:n≤cap) :
  (Builtin.append_ #[t,t] ty #[.slice b n cap,.slice none 0 c]).run P w=.ok (.slice b n cap) w:=by
 cases b <;> simp [Builtin.append_,run_underlying ht,sizeOf,typeInfo,hi,Builtin.lenOf,h,Builtin.firstCells,storeCells,Sem.run_bind]
section
variable {F:Fence} {P:Program} {w0:World} {K:Nat→Prop} {N:Nat} {dfs:List Deferred} {ops:Array Oper} {Q:Exit→Act→World→Prop} {rest:List Oper} {σ:List (Nat×Value)} {L:List Asn}
 {d:Nat} {ty:TypeId} {pos:String} {aft:Array Edge} {g:Option (Nat×Bool)} {s x:Operand} {t e e2:TypeId} {k k2 j size:Nat} {vv v2 v:Value} {α:Type} {enc:α→List Value} {xs ys Ls:List α}
end
section
variable {F:Fence} {P:Program} {w0:World} {K:Nat→Prop} {N:Nat} {dfs:List Deferred} {ops:Array Oper} {Q:Exit→Act→World→Prop} {rest:List Oper} {σ:List (Nat×Value)} {L:List Asn}
 {d:Nat} {ty:TypeId} {pos:String} {aft:Array Edge} {g:Option (Nat×Bool)} {s x:Operand} {t t2 e e2:TypeId} {k k2 j j2 size:Nat} {vv v2 v u:Value} {α:Type} {enc:α→List Value} {xs ds ys Ls:List α}
end
def zhU {α:Type} (x:α) (o:Option (List α)):Option (List α):=o.map (x :: ·)
theorem zik {α:Type} {x:α} {o:Option (List α)} {r:List α} (h:zhU x o=some r):∃ r',r=x::r'∧o=some r':=by
 obtain ⟨r',h1,h2⟩:=Option.map_eq_some_iff.1 h
 exact ⟨r',h2.symm,h1⟩
theorem zni {l:List Int} (h:∀ x∈l,U8 x):l.map (fun x=>Value.int .u8 x)=strCells (zgp l):=by
 have e:=zmG h
 conv=>lhs; rw [← e]
 simp [zvS,strCells]
section
variable {F:Fence} {P:Program} {w0:World} {K:Nat→Prop} {N:Nat} {dfs:List Deferred} {ops:Array Oper} {Q:Exit→Act→World→Prop} {rest:List Oper} {c:Code} {ex:Exit} {σ:List (Nat×Value)} {L L' As R:List Asn} {A B:Asn} {k:Nat} {β:Type}
theorem zb6 (hs:Splits L L' R) (h:TO F P w0 K N dfs ops Q rest σ L'):TO F P w0 K N dfs ops Q rest σ L:=fun a w ha hw=>h a w ha (hw.weaken hs)
theorem zsf (hk:L[k]?=some A) (he:Ent A B) (h:TX w0 K N dfs Q ex σ (L.set k B)):TX w0 K N dfs Q ex σ L:=fun a w ha hw=>h a w ha (hw.ent hk he)
theorem Holds.fold1 {w:World} (h:Holds w0 K L w) (hk:L[k]?=some A) (hs:Splits (L.set k emp) As R) (hR:R[k]?=some emp) (hE:∀ C w,sepL (A::As) C w→B.P C w):Holds w0 K (R.set k B) w:=by
 obtain ⟨C,hL,hx⟩:=h
 obtain ⟨C1,C2,h1,h2,h3,h4⟩:=sepL.take hk hL
 obtain ⟨D1,D2,g1,g2,g3,g4⟩:=hs C2 w h2
 have hset:R.set k emp=R:=by
  obtain ⟨hl,he⟩:=List.getElem?_eq_some_iff.1 hR
  rw [← he]; exact List.set_getElem_self hl
 refine ⟨C,sepL.put (C1:=fun i=>C1 i∨D1 i) (C2:=D2) (List.getElem?_eq_some_iff.1 hR).1 (hE _ _ ⟨C1,D1,h1,g1,fun i a b=>h3 i a ((g4 i).2 (.inl b)),fun i=>Iff.rfl⟩) (by rw [hset]; exact g2) (fun i a b => ?_) (fun i => ?_),hx⟩
 ·rcases a with a | a
  ·exact h3 i a ((g4 i).2 (.inr b))
  ·exact g3 i a b
 ·rw [h4,g4,or_assoc]
theorem Holds.unfold1 {w:World} {I:β→Prop} {Bf:β→Asn} {Bs:β→List Asn} (h:Holds w0 K L w) (hk:L[k]?=some A) (hE:∀ C w,A.P C w→∃ b,I b∧sepL (Bf b::Bs b) C w):∃ b,I b∧Holds w0 K (L.set k (Bf b)++Bs b) w:=by
 obtain ⟨C,hL,hx⟩:=h
 obtain ⟨C1,C2,h1,h2,h3,h4⟩:=sepL.take hk hL
 obtain ⟨b,hI,D1,D2,g1,g2,g3,g4⟩:=hE _ _ h1
 refine ⟨b,hI,C,zfl (C1:=fun i=>D1 i∨C2 i) (C2:=D2) (sepL.put (C1:=D1) (C2:=C2) (List.getElem?_eq_some_iff.1 hk).1 g1 h2 (fun i a b=>h3 i ((g4 i).2 (.inl a)) b) (fun i=>Iff.rfl)) g2 (fun i a b => ?_) (fun i => ?_),hx⟩
 ·rcases a with a | a
  ·exact g3 i a b
  ·exact h3 i ((g4 i).2 (.inr b)) a
 ·rw [h4,g4]
  constructor
  ·rintro ((a | a) | a)
   ·exact .inl (.inl a)
   ·exact .inr a
   ·exact .inl (.inr a)
  ·rintro ((a | a) | a)
   ·exact .inl (.inl a)
   ·exact .inr a
   ·exact .inl (.inr a)
theorem zed (hk:L[k]?=some A) (hs:Splits (L.set k emp) As R) (hR:R[k]?=some emp) (hE:∀ C w,sepL (A::As) C w→B.P C w) (h:TO F P w0 K N dfs ops Q rest σ (R.set k B)):TO F P w0 K N dfs ops Q rest σ L:=fun a w ha hw=>h a w ha (hw.fold1 hk hs hR hE)
theorem zme (hk:L[k]?=some A) (hs:Splits (L.set k emp) As R) (hR:R[k]?=some emp) (hE:∀ C w,sepL (A::As) C w→B.P C w) (h:TC F P w0 K N dfs Q c σ (R.set k B)):TC F P w0 K N dfs Q c σ L:=fun a w ha hw=>h a w ha (hw.fold1 hk hs hR hE)
theorem zfT (hk:L[k]?=some A) (hs:Splits (L.set k emp) As R) (hR:R[k]?=some emp) (hE:∀ C w,sepL (A::As) C w→B.P C w) (h:TX w0 K N dfs Q ex σ (R.set k B)):TX w0 K N dfs Q ex σ L:=fun a w ha hw=>h a w ha (hw.fold1 hk hs hR hE)
theorem zc5 {I:β→Prop} {Bf:β→Asn} {Bs:β→List Asn} (hk:L[k]?=some A) (hE:∀ C w,A.P C w→∃ b,I b∧sepL (Bf b::Bs b) C w) (h:∀ b,I b→TO F P w0 K N dfs ops Q rest σ (L.set k (Bf b)++Bs b)):TO F P w0 K N dfs ops Q rest σ L:=fun a w ha hw=>by
 obtain ⟨b,hI,hb⟩:=hw.unfold1 hk hE; exact h b hI a w ha hb
theorem zh7 {I:β→Prop} {Bf:β→Asn} {Bs:β→List Asn} (hk:L[k]?=some A) (hE:∀ C w,A.P C w→∃ b,I b∧sepL (Bf b::Bs b) C w) (h:∀ b,I b→TC F P w0 K N dfs Q c σ (L.set k (Bf b)++Bs b)):TC F P w0 K N dfs Q c σ L:=fun a w ha hw=>by
 obtain ⟨b,hI,hb⟩:=hw.unfold1 hk hE; exact h b hI a w ha hb
end
section
variable {F:Fence} {P:Program} {w0:World} {K:Nat→Prop} {N:Nat} {dfs:List Deferred} {ops:Array Oper} {Q:Exit→Act→World→Prop} {rest:List Oper} {c:Code} {ex:Exit} {σ:List (Nat×Value)} {L As R:List Asn} {k:Nat}
 {α η:Type} {enc:α×η→List Value} {nest:α×η→List Asn} {e:TypeId} {size:Nat} {v:Value} {xs:List α} {zs zs':List (α×η)} {z z':α×η} {i:Nat} {x x':α} {h h':η}
def own (nest:α×η→List Asn) (zs:List (α×η)):Asn:=zc0 (zs.flatMap nest)
theorem zi0 (C:Nat→Prop) (w:World) (h:(zba enc nest e size v xs).P C w):∃ zs:List (α×η),zs.map Prod.fst=xs∧sepL (vec enc e size v zs::[own nest zs]) C w:=by
 obtain ⟨⟨zs,hz⟩,h⟩:=h; exact ⟨zs,hz,h⟩
theorem zgU (hz:zs.map Prod.fst=xs) (C:Nat→Prop) (w:World) (h:sepL (vec enc e size v zs::[own nest zs]) C w):(zba enc nest e size v xs).P C w:=⟨⟨zs,hz⟩,h⟩
theorem znl (hz:zs[i]?=some z) (C:Nat→Prop) (w:World) (h:(own nest zs).P C w):∃ _u:Unit,True∧sepL (own nest (zs.eraseIdx i)::nest z) C w:=by
 obtain ⟨C1,C2,h1,h2,h3,h4⟩:=(zkf hz).1 h
 exact ⟨(),trivial,C2,C1,h2,h1,fun k a b=>h3 k b a,fun k=>by rw [h4]; exact Or.comm⟩
theorem zlN (hz:zs'[i]?=some z) (he:zs'.eraseIdx i=zs.eraseIdx i) (C:Nat→Prop) (w:World) (h:sepL (own nest (zs.eraseIdx i)::nest z) C w):(own nest zs').P C w:=by
 obtain ⟨C1,C2,h1,h2,h3,h4⟩:=h
 exact (zkf hz).2 ⟨C2,C1,h2,by rw [he]; exact h1,fun k a b=>h3 k b a,fun k=>by rw [h4]; exact Or.comm⟩
theorem zkn (C:Nat→Prop) (w:World) (h:sepL (own nest zs::nest z) C w):(own nest (zs++[z])).P C w:=by
 obtain ⟨C1,C2,h1,h2,h3,h4⟩:=h
 show sepL ((zs++[z]).flatMap nest) C w
 rw [List.flatMap_append,List.flatMap_cons,List.flatMap_nil,List.append_nil]
 exact zfl h1 h2 h3 h4
theorem zgw {i:Int} (hz:zs.map Prod.fst=xs) (hq:zeD xs i=some x):∃ h,zeD zs i=some (x,h):=by
 subst hz
 unfold zeD at hq ⊢
 split at hq
 ·rename_i h0
  rw [if_pos h0]
  rw [List.getElem?_map] at hq
  obtain ⟨z,h1,h2⟩:=Option.map_eq_some_iff.1 hq
  exact ⟨z.2,by rw [h1,← h2]⟩
 ·cases hq
theorem zqB (hz:zs.map Prod.fst=xs):zs.length=xs.length:=by rw [← hz,List.length_map]
theorem zwM (hz:zs.map Prod.fst=xs):(zs.set i (x',h)).map Prod.fst=xs.set i x':=by rw [List.map_set,hz]
theorem zsp (hz:zs.map Prod.fst=xs):(zs++[(x,h)]).map Prod.fst=xs++[x]:=by rw [List.map_append,hz]; rfl
theorem zke (hz:zs[i]?=some z):(zs.set i z')[i]?=some z':=by
 have:=(List.getElem?_eq_some_iff.1 hz).1; simp [this]
theorem zmp:(zs.set i z').eraseIdx i=zs.eraseIdx i:=List.eraseIdx_set_eq
variable {d:Nat} {ty:TypeId} {pos:String} {aft:Array Edge} {g:Option (Nat×Bool)} {o:Operand}
theorem zo3 [WideF F] {tt te:TypeId} (hz:zs.map Prod.fst=xs) (hg:gd ops σ g=some true) (hd:d<N) (hx:ev σ o=some v) (hk:L[k]?=some (vec enc e size v zs)) (ht:P.underlying tt=some (.slice te))
  (h:TO F P w0 K N dfs ops Q rest ((d,.int .i64 (xs.length:Int))::σ) L):TO F P w0 K N dfs ops Q (⟨some d,.call { callee:=.builtin .len,args:=#[o],argTypes:=#[tt] },ty,pos,aft,g⟩::rest) σ L :=
 zgr hg hd hx hk ht (by rw [zqB hz]; exact h)
theorem zm5 [WideF F] {tt te:TypeId} {Ls:List (α×η)} {vv:Value} {j:Nat} (hz:zs.map Prod.fst=xs) (hV:Vw vv Ls size j v zs) (hg:gd ops σ g=some true) (hd:d<N) (hx:ev σ o=some v) (ht:P.underlying tt=some (.slice te))
  (h:TO F P w0 K N dfs ops Q rest ((d,.int .i64 (xs.length:Int))::σ) L):TO F P w0 K N dfs ops Q (⟨some d,.call { callee:=.builtin .len,args:=#[o],argTypes:=#[tt] },ty,pos,aft,g⟩::rest) σ L :=
 zfe hV hg hd hx ht (by rw [zqB hz]; exact h)
theorem zqt (h:TC F P w0 K N dfs Q c σ (L++[byt e (.slice none 0 0) ⟨#[]⟩])):TC F P w0 K N dfs Q c σ L:=fun a w ha hw =>
 h a w ha (hw.grow (C':=fun _=>False) (Ext.refl _ _) (sepL.one (A:=byt e (.slice none 0 0) ⟨#[]⟩) Byt.nil))
theorem zkH (hh:TC F P w0 K N dfs Q c σ (L++[zba enc nest e size (.slice none 0 0) ([]:List α)])):TC F P w0 K N dfs Q c σ L:=fun a w ha hw =>
 hh a w ha (hw.grow (C':=fun _=>False) (Ext.refl _ _) (by obtain ⟨_,_,h⟩:=zqw (enc:=enc) (nest:=nest) (e:=e) (size:=size) (fun _=>False) w (fun _ h=>h); exact h))
theorem zmK {ε:Type} {enc1:ε→List Value} {q1 q2:ε} (he:enc1 q1=enc1 q2):∀ (ys:List ε) (i:Nat),(ys.set i q1).flatMap enc1=(ys.set i q2).flatMap enc1
 | [],i=>rfl
 | y::ys,0=>by simp [he]
 | y::ys,i+1=>by simp [zmK he ys i]
theorem znT {ε:Type} {enc1:ε→List Value} {ys zs:List ε} {q1 q2:ε} (hz:zs=ys.set i q1) (hlen:∀ x,(enc1 x).length=size) (he:enc1 q1=enc1 q2):Ent (vec enc1 e size v zs) (vec enc1 e size v (ys.set i q2)):=by
 subst hz
 rintro C w ⟨h1,h3⟩
 refine ⟨?_,h3⟩
 have hf:=zmK he ys i
 have hl:(ys.set i q1).length=(ys.set i q2).length:=by simp
 unfold Rw at h1 ⊢
 rw [← hf,← hl]; exact h1
theorem zw7 {b:Nat} {ε:Type} {enc1:ε→List Value} {y:ε} (hlen:∀ x,(enc1 x).length=size):Ent (vec enc1 e size (.slice (some ⟨b,0,none⟩) 1 1) [y]) (cells b (enc1 y) e):=by
 intro C w h
 obtain ⟨_,_,h'⟩:=znb (enc1:=enc1) (e:=e) (size:=size) (b:=b) (y:=y) hlen C w (sepL.one1.2 h)
 exact sepL.one1.1 h'
end
section
open Go.MapKept
def zgP {κ ν:Type} [DecidableEq κ] (k:κ):List (κ×ν)→Option ν
 | []=>none
 | p::l=>if k=p.1 then some p.2 else zgP k l
def zpn {κ ν:Type} [DecidableEq κ] (k:κ) (v:ν):List (κ×ν)→List (κ×ν)
 | []=>[(k,v)]
 | p::l=>if k=p.1 then (k,v)::l else p::zpn k v l
def zkq {κ:Type} [DecidableEq κ] (k:κ):List κ→Nat→Option Nat
 | [],_=>none
 | p::l,i=>if k=p then some i else zkq k l (i+1)
structure KeyOk (P:Program) (kt:TypeId) {κ:Type} [DecidableEq κ] (ek:κ→Value):Prop where
 check:∀ em k (w:World),(Instr.checkKey em 10000 kt (ek k)).run P w=.ok () w
 find:∀ (es:List MapEntry) (ks:List κ) k (w:World),es.map (·.key)=ks.map ek→(Instr.findKey kt (ek k) es).run P w=.ok ((zkq k ks 0).map fun i=>(i,((es[i]?).map (·.val)).getD default)) w
 same:∀ k,Instr.sameBits 10000 (ek k) (ek k)=true
theorem zi3 {κ:Type} [DecidableEq κ] (k:κ):∀ (l:List κ) (i:Nat),zkq k l (i+1)=(zkq k l i).map (· + 1)
 | [],i=>rfl
 | p::l,i=>by unfold zkq; split <;> simp [zi3 k l (i+1)]
theorem zmL {κ:Type} [DecidableEq κ] (k p:κ) (e:MapEntry) (es:List MapEntry) (ks:List κ) (n:Nat) :
  ((zkq k (p::ks) 0).map fun i=>(i+n,(((e::es)[i]?).map (·.val)).getD default))=if k=p then some (n,e.val) else (zkq k ks 0).map fun i=>(i+(n+1),((es[i]?).map (·.val)).getD default):=by
 have e:zkq k (p::ks) 0=if k=p then some 0 else zkq k ks (0+1):=rfl
 rw [e]
 split
 ·simp
 ·rw [zi3,Option.map_map]; congr 1; funext i; simp [Nat.add_assoc,Nat.add_comm 1 n]
theorem KeyOk.int {P:Program} {kt:TypeId} {kd:IntKind} (h:P.underlying kt=some (.int kd)):KeyOk P kt (fun n:Int=>Value.int kd n) where
 check:=fun em k w=>run_checkKey h (show IsKey (.int kd) (.int kd k) by simp [IsKey]) em 9999
 find:=fun es ks k w hk=>run_findKey h (by
  have:∀ (es:List MapEntry) (ks:List Int) (n:Nat),es.map (·.key)=ks.map (fun n:Int=>Value.int kd n)→Instr.findNow (.int kd) (.int kd k) es n=some ((zkq k ks 0).map fun i=>(i+n,((es[i]?).map (·.val)).getD default)):=by
   intro es
   induction es with
   | nil=>intro ks n h; cases ks with
    | nil=>rfl
    | cons _ _=>simp at h
   | cons e es ih=>intro ks n h; cases ks with
    | nil=>simp at h
    | cons p ks =>
     simp only [List.map_cons,List.cons.injEq] at h
     rw [zmL]
     have hs:Instr.sameNow (.int kd) (.int kd k) e.key=some (k==p):=by rw [h.1]; simp [Instr.sameNow]
     unfold Instr.findNow
     rw [hs]
     by_cases hp:k=p
     ·subst hp; simp
     ·have:(k==p)=false:=by simpa using hp
      rw [this,if_neg hp]; exact ih ks (n+1) h.2
  exact this es ks 0 hk)
 same:=fun k=>by simp [Instr.sameBits]
theorem ziZ {P:Program} {t:TypeId} {kd:IntKind} {xs:Array Value} {j:Nat} {v:Value} {w:World} (h:P.underlying t=some (.int kd)) (hv:xs[j]?=some v):(part t xs j).run P w=.ok v w:=by
 simp [part,Sem.run_bind,run_underlying h,hv,isAgg]
theorem zkU {P:Program} {t e:TypeId} {kd:IntKind} (ht:P.underlying t=some (.array 2 e)) (he:P.underlying e=some (.int kd)) (hs:SizeOk P e 1) {a b a' b':Int} (w:World) :
  (Op.equalIn 10000 t (.agg #[.int kd a,.int kd b]) (.agg #[.int kd a',.int kd b'])).run P w=.ok (a==a'&&b==b') w:=by
 obtain ⟨i,hi,hsz⟩:=hs.some
 have h1:∀ (d:Nat) (x y:Int),(Op.equalIn (d+1) e (.int kd x) (.int kd y)).run P w=.ok (x==y) w:=fun d x y=>run_equalIn_int w d e kd kd x y he
 have p1:∀ (x y:Int),(part e #[.int kd x,.int kd y] 0).run P w=.ok (.int kd x) w:=fun x y=>ziZ he rfl
 have p2:∀ (x y:Int),(part e #[.int kd x,.int kd y] 1).run P w=.ok (.int kd y) w:=fun x y=>ziZ he rfl
 have hc:P.cellsOf e=1:=by simp [Program.cellsOf,hi,hsz]
 have key:∀ d:Nat,(Op.equalIn (d+1+1) t (.agg #[.int kd a,.int kd b]) (.agg #[.int kd a',.int kd b'])).run P w=.ok (a==a'&&b==b') w:=fun d=>by
  unfold Op.equalIn
  simp only [Sem.run_bind,run_underlying ht,Result.andThen_ok,run_sizeOf w hi]
  simp only [Std.Legacy.Range.forIn_eq_forIn_range',Std.Legacy.Range.size,Nat.sub_zero,Nat.add_one_sub_one,Nat.div_one,hsz,List.range'_succ,List.range'_zero,List.forIn_cons,List.forIn_nil,Sem.run_bind,Result.andThen_ok,Nat.zero_mul,Nat.zero_add,Nat.one_mul,p1,p2,h1,Nat.mul_one]
  cases h:(a==a') <;> cases h2:(b==b') <;> simp [Sem.run_bind,p1,p2,h1,h,h2,hc]
 exact key 9998
theorem zo4 {P:Program} {kt e:TypeId} {kd:IntKind} {κ:Type} [DecidableEq κ] {f0 f1:κ→Int} (hinj:∀ a b:κ,f0 a=f0 b→f1 a=f1 b→a=b)
  (ht:P.underlying kt=some (.array 2 e)) (he:P.underlying e=some (.int kd)) (hs:SizeOk P e 1):KeyOk P kt (fun p:κ=>Value.agg #[.int kd (f0 p),.int kd (f1 p)]) where
 check:=fun em k w=>by
  obtain ⟨i,hi,hsz⟩:=hs.some
  have hc:P.cellsOf e=1:=by simp [Program.cellsOf,hi,hsz]
  have h1:∀ (n:Nat) (x:Int),(Instr.checkKey em (n+1) e (.int kd x)).run P w=.ok () w:=fun n x=>run_checkKey he (show IsKey (.int kd) (.int kd x) by simp [IsKey]) em n
  have p1:∀ (x y:Int),(part e #[.int kd x,.int kd y] 0).run P w=.ok (.int kd x) w:=fun x y=>ziZ he rfl
  have p2:∀ (x y:Int),(part e #[.int kd x,.int kd y] 1).run P w=.ok (.int kd y) w:=fun x y=>ziZ he rfl
  have key:∀ n:Nat,(Instr.checkKey em (n+1+1) kt (.agg #[.int kd (f0 k),.int kd (f1 k)])).run P w=.ok () w:=fun n=>by
   unfold Instr.checkKey
   simp only [Sem.run_bind,run_underlying ht,Result.andThen_ok]
   simp only [Std.Legacy.Range.forIn_eq_forIn_range',Std.Legacy.Range.size,Nat.sub_zero,Nat.add_one_sub_one,Nat.div_one,List.range'_succ,List.range'_zero,List.forIn_cons,List.forIn_nil,Sem.run_bind,run_sizeOf w hi,hsz,Result.andThen_ok,Nat.zero_mul,Nat.zero_add,Nat.one_mul,p1,p2,h1,Nat.mul_one]
   simp [Sem.run_bind,run_sizeOf w hi,hsz,p1,p2,h1,hc]
  exact key 9998
 find:=fun es ks k w hk=>by
  have hA:∀ (es:List MapEntry) (ks:List κ) (n:Nat),es.map (·.key)=ks.map (fun p:κ=>Value.agg #[.int kd (f0 p),.int kd (f1 p)])→(Instr.findAsking kt (.agg #[.int kd (f0 k),.int kd (f1 k)]) es n).run P w=.ok ((zkq k ks 0).map fun i=>(i+n,((es[i]?).map (·.val)).getD default)) w:=by
   intro es
   induction es with
   | nil=>intro ks n h; cases ks with
    | nil=>rfl
    | cons _ _=>simp at h
   | cons e' es ih=>intro ks n h; cases ks with
    | nil=>simp at h
    | cons p ks =>
     simp only [List.map_cons,List.cons.injEq] at h
     rw [zmL]
     unfold Instr.findAsking
     rw [h.1]
     have he2:(Op.equal kt (.agg #[.int kd (f0 k),.int kd (f1 k)]) (.agg #[.int kd (f0 p),.int kd (f1 p)])).run P w=.ok (f0 k==f0 p&&f1 k==f1 p) w:=zkU ht he hs w
     simp only [Sem.run_bind,he2,Result.andThen_ok]
     by_cases hp:k=p
     ·subst hp; simp
     ·have:(f0 k==f0 p&&f1 k==f1 p)=false:=by
       cases h':(f0 k==f0 p&&f1 k==f1 p) with
       | false=>rfl
       | true=>simp at h'; exact absurd (hinj _ _ h'.1 h'.2) hp
      rw [this,if_neg hp]; exact ih ks (n+1) h.2
  have hA:=hA es ks 0 hk
  unfold Instr.findKey
  simp only [Sem.run_bind,run_underlying ht,Result.andThen_ok]
  cases es with
  | nil=>cases ks with
   | nil=>rfl
   | cons _ _=>simp at hk
  | cons e' es=>cases ks with
   | nil=>simp at hk
   | cons p ks =>
    simp only [List.map_cons,List.cons.injEq] at hk
    have:Instr.findNow (.array 2 e) (.agg #[.int kd (f0 k),.int kd (f1 k)]) (e'::es) 0=none:=by
     unfold Instr.findNow; rw [hk.1]; rfl
    rw [this]; exact hA
 same:=fun k=>by simp [Instr.sameBits]
def zgX {κ ν:Type} (ek:κ→Value) (ev:ν→Value) (b:Nat) (L:List (κ×ν)):Asn :=
 exA fun z:{z:Array MapEntry×Nat // z.1.toList.map (fun e=>(e.key,e.val))=L.map (fun p=>(ek p.1,ev p.2))}=>obj b (.map z.1.1 z.1.2)
theorem zof {κ ν:Type} [DecidableEq κ] (k:κ):∀ (L:List (κ×ν)),((zkq k (L.map Prod.fst) 0).bind fun i=>(L[i]?).map Prod.snd)=zgP k L
 | []=>rfl
 | p::L=>by
  have e:zkq k ((p::L).map Prod.fst) 0=if k=p.1 then some 0 else zkq k (L.map Prod.fst) (0+1):=rfl
  rw [e]; unfold zgP
  split
  ·simp
  ·rw [zi3,← zof k L]; cases zkq k (L.map Prod.fst) 0 <;> simp
theorem znu {κ:Type} [DecidableEq κ] (k:κ):∀ (L:List κ) (i n:Nat),zkq k L i=some n→i≤n∧n<i+L.length∧L[n - i]?=some k
 | [],i,n,h=>by cases h
 | p::L,i,n,h=>by
  unfold zkq at h
  split at h
  ·rename_i hp; cases h; subst hp; simp
  ·obtain ⟨h1,h2,h3⟩:=znu k L (i+1) n h
   refine ⟨by omega,by simp; omega,?_⟩
   rw [show n - i=(n - (i+1))+1 by omega]; simpa using h3
theorem zn7 {κ ν:Type} [DecidableEq κ] (k:κ) (v:ν):∀ (L:List (κ×ν)),zpn k v L=match zkq k (L.map Prod.fst) 0 with | some i=>L.set i (k,v) | none=>L++[(k,v)]
 | []=>rfl
 | p::L=>by
  have e:zkq k ((p::L).map Prod.fst) 0=if k=p.1 then some 0 else zkq k (L.map Prod.fst) (0+1):=rfl
  rw [e]; unfold zpn
  by_cases h:k=p.1
  ·rw [if_pos h,if_pos h]; rfl
  ·rw [if_neg h,if_neg h,zi3,zn7 k v L]; cases zkq k (L.map Prod.fst) 0 <;> rfl
section
variable {F:Fence} {P:Program} {w0:World} {K:Nat→Prop} {N:Nat} {dfs:List Deferred} {ops:Array Oper} {Q:Exit→Act→World→Prop} {rest:List Oper} {σ:List (Nat×Value)} {L:List Asn}
 {d:Nat} {ty:TypeId} {pos:String} {aft:Array Edge} {g:Option (Nat×Bool)} {x y z:Operand} {k b:Nat} {κ ν:Type} [DecidableEq κ] {ek:κ→Value} {ev':ν→Value} {mt kt et:TypeId} {M:List (κ×ν)}
omit [DecidableEq κ] in
theorem zlu [WideF F] (ek:κ→Value) (ev':ν→Value) (hg:gd ops σ g=some true) (hd:d<N)
  (h:∀ b,TO F P w0 K N dfs ops Q rest ((d,.map (some b))::σ) (L++[zgX ek ev' b []])):TO F P w0 K N dfs ops Q (⟨some d,.makeMap mt none,ty,pos,aft,g⟩::rest) σ L :=
 zfR hg (by simp) fun a w ha hw=>⟨.map (some w.heap.size),w.alloc (.map #[] 0),by simp [execOp,Instr.makeMap,Sem.run_bind],h _ _ _ (ha.put hd _) (by
  have h1:=hw.alloc (.map #[] 0)
  have h2:=h1.ent (k:=L.length) (A:=obj w.heap.size (.map #[] 0)) (B:=zgX ek ev' w.heap.size []) (by simp) (fun C w' hp=>⟨⟨(#[],0),rfl⟩,hp⟩)
  simpa using h2)⟩
theorem zjM [WideF F] {kk:κ} {vv:ν} (hK:KeyOk P kt ek) (ht:P.underlying mt=some (.map kt et)) (hg:gd ops σ g=some true) (hx:ev σ x=some (.map (some b))) (hy:ev σ y=some (ek kk)) (hz:ev σ z=some (ev' vv))
  (hk:L[k]?=some (zgX ek ev' b M)) (h:TO F P w0 K N dfs ops Q rest σ (L.set k (zgX ek ev' b (zpn kk vv M)))):TO F P w0 K N dfs ops Q (⟨none,.mapUpdate mt x y z,ty,pos,aft,g⟩::rest) σ L :=
 zha hg (by simp) fun a w ha hw=>by
  obtain ⟨C1,⟨⟨⟨es,clock⟩,hes⟩,hC,hb⟩,hset⟩:=hw.focus hk
  have hb:w.heap[b]?=some (.map es clock):=hb
  have hes:es.toList.map (fun e=>(e.key,e.val))=M.map (fun p=>(ek p.1,ev' p.2)):=hes
  have hkeys:es.toList.map (·.key)=(M.map Prod.fst).map ek:=by
   have:=congrArg (List.map Prod.fst) hes
   simpa [List.map_map,Function.comp_def] using this
  have hfind:=hK.find es.toList (M.map Prod.fst) kk w hkeys
  have hput:=zn7 kk vv M
  have hlen:es.toList.length=M.length:=by have:=congrArg List.length hes; simpa using this
  have fin:∀ o':Obj,(∀ C' w',(∀ k,C' k↔k=b)→w'.heap[b]?=some o'→(zgX ek ev' b (zpn kk vv M)).P C' w')→Holds w0 K (L.set k (zgX ek ev' b (zpn kk vv M))) (w.putObj b o'):=fun o' ho =>
   hset _ C1 _ ⟨(Fr.refl _ _).putObj (.inl ((hC b).2 rfl)) _,fun k hk=>.inl hk⟩ (ho _ _ hC (World.putObj_heap_same (zdn hb)))
  have ex:=ha.ev hx; have ey:=ha.ev hy; have ez:=ha.ev hz
  cases hi:zkq kk (M.map Prod.fst) 0 with
  | none =>
   rw [hi] at hfind hput
   refine ⟨w.putObj b (.map (es.push { key:=ek kk,val:=ev' vv,born:=clock }) (clock+1)),?_,h _ _ ha (fin _ fun C' w' h1 h2=>⟨⟨(_,_),?_⟩,h1,h2⟩)⟩
   ·simp [execOp,ex,ey,ez,Instr.mapUpdate,run_underlying ht,Go.MapKept.run_getObj_map hb,hK.check,hfind,run_setObj_map _ hb,Sem.run_bind,World.putObj]
   ·simp [hput,hes]
  | some i =>
   rw [hi] at hfind hput
   obtain ⟨_,h2,h3⟩:=znu kk _ _ _ hi
   simp at h2
   have h3:(M.map Prod.fst)[i]?=some kk:=by simpa using h3
   have hie:i<es.toList.length:=by omega
   have hkey:(es[i]?).map (·.key)=some (ek kk):=by
    have:=congrArg (fun l=>l[i]?) hkeys
    simp only [List.getElem?_map] at this
    rw [show es[i]?=es.toList[i]? by simp,this]
    have h4:M[i]?.map Prod.fst=some kk:=by simpa using h3
    rw [h4]; rfl
   refine ⟨w.putObj b (.map (es.modify i fun e=>{ e with key:=ek kk,val:=ev' vv }) clock),?_,h _ _ ha (fin _ fun C' w' h1 h2=>⟨⟨(es.modify i fun e=>{ e with key:=ek kk,val:=ev' vv },clock),?_⟩,h1,h2⟩)⟩
   ·have hst:(Instr.keyThatStays (ek kk) (ek kk)).run P w=.ok (ek kk) w:=by simp [Instr.keyThatStays,hK.same]
    simp [execOp,ex,ey,ez,Instr.mapUpdate,run_underlying ht,Go.MapKept.run_getObj_map hb,hK.check,hfind,hkey,hst,run_setObj_map _ hb,Sem.run_bind,World.putObj]
   ·show List.map (fun e=>(e.key,e.val)) (es.modify i fun e=>{ e with key:=ek kk,val:=ev' vv }).toList=_
    rw [hput]
    apply List.ext_getElem?
    intro j
    have hj:=congrArg (fun l=>l[j]?) hes
    simp only [List.getElem?_map] at hj
    simp only [Array.toList_modify,List.getElem?_map,List.getElem?_modify,List.getElem?_set]
    by_cases hji:i=j
    ·subst hji
     have h5:es.toList[i]?=some es.toList[i]:=List.getElem?_eq_getElem hie
     simp [h5,show i<M.length by omega]
    ·simp [hji]; simpa using hj
theorem znN [WideF F] {kk:κ} {z0:ν} (hK:KeyOk P kt ek) (ht:P.underlying mt=some (.map kt et)) (hz0:(P.info? et).bind (fun i=>i.zero)=some (ev' z0)) (hg:gd ops σ g=some true) (hd:d<N) (hx:ev σ x=some (.map (some b))) (hy:ev σ y=some (ek kk))
  (hk:L[k]?=some (zgX ek ev' b M)) (h:TO F P w0 K N dfs ops Q rest ((d,.tuple #[ev' ((zgP kk M).getD z0),.bool (zgP kk M).isSome])::σ) L):TO F P w0 K N dfs ops Q (⟨some d,.lookup mt x y true,ty,pos,aft,g⟩::rest) σ L :=
 zdF hg hd (by simp) (fun a w ha hw=>by
  obtain ⟨C1,⟨⟨⟨es,clock⟩,hes⟩,hC,hb⟩,hset⟩:=hw.focus hk
  have hb:w.heap[b]?=some (.map es clock):=hb
  have hes:es.toList.map (fun e=>(e.key,e.val))=M.map (fun p=>(ek p.1,ev' p.2)):=hes
  have hkeys:es.toList.map (·.key)=(M.map Prod.fst).map ek:=by
   have:=congrArg (List.map Prod.fst) hes
   simpa [List.map_map,Function.comp_def] using this
  have hfind:=hK.find es.toList (M.map Prod.fst) kk w hkeys
  have ex:=ha.ev hx; have ey:=ha.ev hy
  have hzero:(zeroValue et).run P w=.ok (ev' z0) w:=by
   cases hi:P.info? et with
   | none=>rw [hi] at hz0; cases hz0
   | some i =>
    rw [hi] at hz0
    have hz1:i.zero=some (ev' z0):=hz0
    simp [zeroValue,typeInfo,hi,hz1,Sem.run_bind]
  rw [← zof kk M]
  cases hi:zkq kk (M.map Prod.fst) 0 with
  | none =>
   rw [hi] at hfind
   simp [execOp,ex,ey,Instr.lookup,run_underlying ht,Go.MapKept.run_getObj_map hb,hK.check,hfind,hzero,Sem.run_bind]
  | some i =>
   rw [hi] at hfind
   obtain ⟨_,h2,h3⟩:=znu kk _ _ _ hi
   simp at h2
   have hj:=congrArg (fun l=>(l[i]?).map Prod.snd) hes
   simp only [List.getElem?_map,Option.map_map,Function.comp_def] at hj
   have hM:M[i]?=some M[i]:=List.getElem?_eq_getElem h2
   have hv:(es.toList[i]?).map (·.val)=some (ev' M[i].2):=by rw [hj,hM]; rfl
   have hv2:(es[i]?).map (·.val)=some (ev' M[i].2):=by simpa using hv
   simp [execOp,ex,ey,Instr.lookup,run_underlying ht,Go.MapKept.run_getObj_map hb,hK.check,hfind,hv2,hM,Sem.run_bind]) h
end
end
def Rd (w:World) (K:Nat→Prop) (RD:List Asn):Prop:=∀ A∈RD,∃ C,A.P C w∧∀ k,C k→¬ K k
theorem Rd.nil {w:World} {K:Nat→Prop}:Rd w K []:=fun A h=>by cases h
theorem Rd.ext {w0 w:World} {K C:Nat→Prop} {RD:List Asn} (h:Rd w0 K RD) (hx:Ext K C w0 w):Rd w C RD:=fun A hA=>by
 obtain ⟨D,h1,h2⟩:=h A hA
 have hlt:=A.lt h1
 refine ⟨D,A.loc h1 hx.1.size (fun k hk=>hx.1.keep k (hlt k hk) (h2 k hk)),fun k hk hc => ?_⟩
 rcases hx.2 k hc with h | h
 ·exact h2 k hk h
 ·have:=hlt k hk; omega
theorem Rd.append {w:World} {K:Nat→Prop} {A B:List Asn} (h1:Rd w K A) (h2:Rd w K B):Rd w K (A++B):=fun X hX=>by
 rcases List.mem_append.1 hX with h | h
 ·exact h1 X h
 ·exact h2 X h
theorem Rd.at {w0 w:World} {K:Nat→Prop} {L RD:List Asn} {A:Asn} {i:Nat} (h:Rd w0 K RD) (hw:Holds w0 K L w) (hi:RD[i]?=some A):∃ C,A.P C w:=by
 obtain ⟨C,_,hx⟩:=hw
 obtain ⟨D,h1,_⟩:=h.ext hx A (List.mem_of_getElem? hi)
 exact ⟨D,h1⟩
theorem Rd.more {w:World} {K:Nat→Prop} {RD As:List Asn} {A:Asn} {i:Nat} (h:Rd w K RD) (hi:RD[i]?=some A) (hE:∀ C,A.P C w→∀ B∈As,∃ D,B.P D w∧∀ k,D k→C k):Rd w K (RD++As):=by
 refine h.append fun B hB => ?_
 obtain ⟨C,h1,h2⟩:=h A (List.mem_of_getElem? hi)
 obtain ⟨D,h3,h4⟩:=hE C h1 B hB
 exact ⟨D,h3,fun k hk=>h2 k (h4 k hk)⟩
theorem sepL.each {w:World}:∀ {L:List Asn} {C:Nat→Prop},sepL L C w→∀ B∈L,∃ D,B.P D w∧∀ k,D k→C k
 | [],_,_,B,hB=>by cases hB
 | A::L,C,⟨C1,C2,h1,h2,h3,h4⟩,B,hB=>by
  rcases List.mem_cons.1 hB with rfl | hB
  ·exact ⟨C1,h1,fun k hk=>(h4 k).2 (.inl hk)⟩
  ·obtain ⟨D,g1,g2⟩:=sepL.each h2 B hB
   exact ⟨D,g1,fun k hk=>(h4 k).2 (.inr (g2 k hk))⟩
inductive RdS (R RD0:List Asn):List Asn→Prop
 | nil:RdS R RD0 []
 | own {A:Asn} {As R' RD:List Asn} (hs:Splits R As R') (hE:∀ C w,sepL As C w→A.P C w) (h:RdS R RD0 RD):RdS R RD0 (A::RD)
 | ro {A:Asn} {RD:List Asn} (i:Nat) (hi:RD0[i]?=some A) (h:RdS R RD0 RD):RdS R RD0 (A::RD)
theorem RdS.rd {w0 w:World} {K C1 C2:Nat→Prop} {R RD0 RD:List Asn} (h:RdS R RD0 RD) (hR:sepL R C2 w) (hd:∀ k,C1 k→¬ C2 k) (h0:Rd w C1 RD0):Rd w C1 RD:=by
 induction h with
 | nil=>exact Rd.nil
 | @own A As R' RD hs hE h ih =>
  intro B hB
  rcases List.mem_cons.1 hB with rfl | hB
  ·obtain ⟨D1,D2,g1,g2,g3,g4⟩:=hs C2 w hR
   exact ⟨D1,hE D1 w g1,fun k hk hc=>hd k hc ((g4 k).2 (.inl hk))⟩
  ·exact ih B hB
 | @ro A RD i hi h ih =>
  intro B hB
  rcases List.mem_cons.1 hB with rfl | hB
  ·exact h0 _ (List.mem_of_getElem? hi)
  ·exact ih B hB
def FnR (P:Program) (f:FuncId) (vs:List Value) (RD As:List Asn) {β:Type} (V:β→Value) (Bs:β→List Asn):Prop :=
 ∀ w C,Rd w C RD→FnW P f vs As V Bs w C
section
variable {F:Fence} {P:Program} {w0:World} {K:Nat→Prop} {N:Nat} {dfs:List Deferred} {ops:Array Oper} {Q:Exit→Act→World→Prop} {rest:List Oper} {σ σ':List (Nat×Value)} {L L' R As Bs:List Asn} {o:Oper} {v:Value}
 {d:Nat} {t:TypeId} {op:Op} {ty:TypeId} {pos:String} {aft:Array Edge} {g:Option (Nat×Bool)} {x y z:Operand} {c c1 c2:Code} {k:Nat} {A B:Asn} {RO:List (Nat×Obj)} {RD RD0:List Asn} {e:TypeId} {ex:Exit}
theorem FnR.intro {f:FuncId} {fn:Func} {vs:List Value} {β:Type} {V:β→Value} {Bs:β→List Asn} (hf:P.funcs[f]?=some fn) (hb:fn.body=some c) (hn:fn.ntmps=N) (hN:vs.length≤N)
  (h:∀ w0 K,Rd w0 K RD→TC Fence.wide P w0 K N [] (bodyPostM Fence.wide 0 P fn (FR P V Bs w0 K)) c (zg8 vs) As):FnR P f vs RD As V Bs :=
 fun w C hR=>FnW.intro hf hb hn hN (h w C hR)
theorem zkG [WideF F] {xs:List Operand} {ats:Array TypeId} {f:FuncId} {first cap:Array Value} {vs vs':List Value} {β:Type} {V:β→Value} {Bs:β→List Asn} {dst:Option Nat} (hRd:Rd w0 K RD0)
  (hg:gd ops σ g=some true) (hx:ev σ x=some (.func (.func f) first cap)) (hxs:evL σ xs=some vs) (hv:first.toList++vs++cap.toList=vs')
  (hent:∀ args w,(callFunc f args).run P w=.ok (.enter f args) w) (hF:FnR P f vs' RD As V Bs) (hs:Splits L As R) (hS:RdS R RD0 RD)
  (h:∀ b a w a',a'=a.put dst (V b)→At N dfs σ a→Holds w0 K (R++Bs b) w→wpListIn F 0 P ops Q rest a' w) :
  TO F P w0 K N dfs ops Q (⟨dst,.call { callee:=.value x,args:=xs.toArray,argTypes:=ats },ty,pos,aft,g⟩::rest) σ L:=by
 intro a w ha hw
 simp only [wpListIn,zgl (o:=⟨dst,.call { callee:=.value x,args:=xs.toArray,argTypes:=ats },ty,pos,aft,g⟩) ha hg,if_true]
 refine ⟨fun f _=>WideF.fn f,?_⟩
 have h1:(execOp a.eval ⟨dst,.call { callee:=.value x,args:=xs.toArray,argTypes:=ats },ty,pos,aft,g⟩).run P w=.ok (.enter f vs'.toArray) w:=by
  have e:first++vs.toArray++cap=vs'.toArray:=by rw [← hv]; simp
  simp only [execOp,resolve,List.map_toArray,ha.evL hxs,ha.ev hx,Deferred.ofValue,Sem.run_bind,Sem.run_pure,Result.andThen_ok,invoke,e,hent]
 rw [Oper.semAt_plain F _ _ (by simp),h1]
 refine ⟨(fun h=>by rw [WideF.depth (F:=F)] at h; cases h),?_⟩
 obtain ⟨C1,C2,hA,g2,g3,hx0,hstep⟩:=hw.split2 hs
 have hRd1:Rd w C1 RD0:=hRd.ext hx0
 refine WideF.calls ((hF w C1 (hS.rd (w0:=w0) (K:=K) g2 g3 hRd1) hA).mono ?_)
 rintro e w' ⟨b,rfl,C',hB,hx'⟩
 exact h b a w' _ rfl ha (hstep _ _ _ hx' hB)
theorem zff [WideF F] {xs:List Operand} {ats:Array TypeId} {f:FuncId} {first cap:Array Value} {vs vs':List Value} {β:Type} {V:β→Value} {Bs:β→List Asn} (hRd:Rd w0 K RD0)
  (hg:gd ops σ g=some true) (hd:d<N) (hx:ev σ x=some (.func (.func f) first cap)) (hxs:evL σ xs=some vs) (hv:first.toList++vs++cap.toList=vs')
  (hent:∀ args w,(callFunc f args).run P w=.ok (.enter f args) w) (hF:FnR P f vs' RD As V Bs) (hs:Splits L As R) (hS:RdS R RD0 RD)
  (h:∀ b,TO F P w0 K N dfs ops Q rest ((d,V b)::σ) (R++Bs b)) :
  TO F P w0 K N dfs ops Q (⟨some d,.call { callee:=.value x,args:=xs.toArray,argTypes:=ats },ty,pos,aft,g⟩::rest) σ L :=
 zkG hRd hg hx hxs hv hent hF hs hS fun b a w a' ha' ha hw=>by subst ha'; exact h b _ _ (ha.put hd _) hw
theorem zbm [WideF F] {xs:List Operand} {ats:Array TypeId} {f:FuncId} {first cap:Array Value} {vs vs':List Value} (hRd:Rd w0 K RD0)
  (hg:gd ops σ g=some true) (hd:d<N) (hx:ev σ x=some (.func (.func f) first cap)) (hxs:evL σ xs=some vs) (hv:first.toList++vs++cap.toList=vs')
  (hent:∀ args w,(callFunc f args).run P w=.ok (.enter f args) w) (hF:FnR P f vs' RD [] (fun _:Unit=>v) (fun _=>[])) (hS:RdS L RD0 RD)
  (h:TO F P w0 K N dfs ops Q rest ((d,v)::σ) L) :
  TO F P w0 K N dfs ops Q (⟨some d,.call { callee:=.value x,args:=xs.toArray,argTypes:=ats },ty,pos,aft,g⟩::rest) σ L :=
 zkG hRd hg hx hxs hv hent hF Splits.nil hS fun b a w a' ha' ha hw=>by
  subst ha'
  rw [List.append_nil] at hw
  exact h _ _ (ha.put hd _) hw
section
variable {i:Nat}
theorem zcf [WideF F] {b j:Nat} {l:List Value} {e:TypeId} (hr:Rd w0 K RD) (hi:RD[i]?=some (cells b l e)) (hT:zcc P t) (hg:gd ops σ g=some true) (hd:d<N) (hx:ev σ x=some (.pointer (some ⟨b,j,none⟩))) (hj:l[j]?=some v)
  (h:TO F P w0 K N dfs ops Q rest ((d,v)::σ) L):TO F P w0 K N dfs ops Q (⟨some d,.load t x,ty,pos,aft,g⟩::rest) σ L:=by
 obtain ⟨dd,hu,hrow⟩:=hT
 exact zdF hg hd (by simp) (fun a w ha hw=>by
  obtain ⟨C,hC⟩:=hr.at hw hi
  have hc:w.cell? ⟨b,j,none⟩=some v:=zkD hC.2 (by simpa using hj)
  cases dd <;> simp_all [execOp,ha.ev hx,Instr.loadAt,Instr.sureAddr,loadVar,isAgg,Sem.run_bind,run_underlying hu]) h
variable {α:Type} {enc:α→List Value} {size:Nat} {vv:Value} {xs:List α}
theorem zlD {w:World} {C:Nat→Prop} (h:(vec enc e size vv xs).P C w):Vw vv xs size 0 vv xs:=by
 have hw:Holds w (fun _=>False) [vec enc e size vv xs] w→Vw vv xs size 0 vv xs:=fun hh=>znf (k:=0) hh rfl
 have:Holds w C [vec enc e size vv xs] w:=⟨C,sepL.one h,Ext.refl _ _⟩
 exact znf (k:=0) this rfl
theorem Rd.vw {w:World} (hr:Rd w K RD) (hi:RD[i]?=some (vec enc e size vv xs)):Vw vv xs size 0 vv xs:=by
 obtain ⟨C,hC,_⟩:=hr _ (List.mem_of_getElem? hi)
 exact zlD hC
theorem zm4 [WideF F] {n j off:Nat} {q:α} (hr:Rd w0 K RD) (hi:RD[i]?=some (vec enc e size vv xs)) (hT:zcc P t) (hz:∀ x,(enc x).length=size) (hg:gd ops σ g=some true) (hd:d<N) (hx:ev σ x=some (.pointer (some ⟨zgc vv,off,none⟩)))
  (hq:xs[n]?=some q) (ho:off=n*size+j) (hj:j<size) (hv:(enc q)[j]?=some v) (h:TO F P w0 K N dfs ops Q rest ((d,v)::σ) L) :
  TO F P w0 K N dfs ops Q (⟨some d,.load t x,ty,pos,aft,g⟩::rest) σ L:=by
 subst ho
 obtain ⟨dd,hu,hr'⟩:=hT
 refine zdF hg hd (by simp) (fun a w ha hw => ?_) h
 obtain ⟨C,hC⟩:=hr.at hw hi
 have hV:Vec enc e size vv xs C w:=hC
 have hc:=hV.cellAt hz hq hj hv
 have h1:=ha.ev hx
 cases dd <;> simp_all [execOp,Instr.loadAt,Instr.sureAddr,loadVar,isAgg,Sem.run_bind,run_underlying hu]
end
end
section
variable {α η:Type} {enc:α×η→List Value} {nest:α×η→List Asn} {t:TypeId} {p:Value} {x:α}
def zkL (enc:α×η→List Value) (nest:α×η→List Asn) (t:TypeId) (p:Value):Option α→Asn
 | none=>fact (p=.pointer none)
 | some x=>exA fun bh:Nat×η=>zc0 (fact (p=.pointer (some ⟨bh.1,0,none⟩))::cells bh.1 (enc (x,bh.2)) t::nest (x,bh.2))
theorem fact_sep {q:Prop} {L:List Asn} {C:Nat→Prop} {w:World}:sepL (fact q::L) C w↔q∧sepL L C w:=by
 constructor
 ·rintro ⟨C1,C2,⟨h1,hq⟩,h2,h3,h4⟩
  have:C=C2:=funext fun k=>propext ⟨fun h=>((h4 k).1 h).resolve_left (h1 k),fun h=>(h4 k).2 (.inr h)⟩
  subst this
  exact ⟨hq,h2⟩
 ·rintro ⟨hq,h⟩
  exact ⟨fun _=>False,C,⟨fun _ h=>h,hq⟩,h,fun _ h=>h.elim,fun k=>by simp⟩
theorem pobj_some {C:Nat→Prop} {w:World}:(zkL enc nest t p (some x)).P C w↔∃ b h,p=.pointer (some ⟨b,0,none⟩)∧sepL (cells b (enc (x,h)) t::nest (x,h)) C w:=by
 constructor
 ·rintro ⟨⟨b,h⟩,hh⟩
  obtain ⟨h1,h2⟩:=fact_sep.1 hh
  exact ⟨b,h,h1,h2⟩
 ·rintro ⟨b,h,h1,h2⟩
  exact ⟨⟨b,h⟩,fact_sep.2 ⟨h1,h2⟩⟩
theorem zsN {b:Nat} {hd:η} {w:World} {C:Nat→Prop} (h:sepL (cells b (enc (x,hd)) t::nest (x,hd)) C w):(zkL enc nest t (.pointer (some ⟨b,0,none⟩)) (some x)).P C w:=pobj_some.2 ⟨b,hd,rfl,h⟩
theorem zo5 {b:Nat} {hd:η}:Entl (cells b (enc (x,hd)) t::nest (x,hd)) (fun _:Unit=>[zkL enc nest t (.pointer (some ⟨b,0,none⟩)) (some x)]) (fun _=>True):=fun C w h=>⟨(),trivial,sepL.one1.2 (zsN h)⟩
theorem zll {m:Option α} {C:Nat→Prop} {w:World} (h:(zkL enc nest t p m).P C w):(m=none∧p=.pointer none)∨(∃ x b,m=some x∧p=.pointer (some ⟨b,0,none⟩)):=by
 cases m with
 | none=>exact .inl ⟨rfl,h.2⟩
 | some x=>obtain ⟨b,_,h2,_⟩:=pobj_some.1 h; exact .inr ⟨x,b,rfl,h2⟩
end
theorem ziY:∀ (P:List Pc) (i:Nat) (l:List UInt8) (x:Pc) (B:List Pc),zef i l=P++x::B →
  ∃ n,x.i=i+n∧n+x.w≤l.length∧zqx (l.drop n) x.r x.w∧zef (i+n) (l.drop n)=x::B∧B=zef (x.i+x.w) (l.drop (n+x.w))
 | [],i,l,x,B,h=>by
  by_cases hl:l=[]
  ·subst hl; simp [zd9] at h
  ·have hok:=ztz l hl
   have h':=h
   rw [zdp i l hl] at h
   simp only [List.nil_append,List.cons.injEq] at h
   obtain ⟨rfl,hB⟩:=h
   exact ⟨0,by simp,by simpa using hok.le,by simpa using hok,by simpa using h',by simpa using hB.symm⟩
 | p::P,i,l,x,B,h=>by
  by_cases hl:l=[]
  ·subst hl; simp [zd9] at h
  ·have hle:=zmP l hl
   rw [zdp i l hl] at h
   simp only [List.cons_append,List.cons.injEq] at h
   obtain ⟨n,h1,h2,h3,h4,h5⟩:=ziY P _ _ x B h.2
   refine ⟨(decodeL l).2+n,by omega,by simp at h2; omega,by rw [← List.drop_drop]; exact h3,by rw [← List.drop_drop,← Nat.add_assoc]; exact h4,?_⟩
   rw [h5,List.drop_drop,Nat.add_assoc]
theorem zkm (l:List UInt8) (P:List Pc) (x:Pc) (B:List Pc) (h:pcs l=P++x::B) :
  x.i+x.w≤l.length∧zqx (l.drop x.i) x.r x.w∧zef x.i (l.drop x.i)=x::B∧B=zef (x.i+x.w) (l.drop (x.i+x.w)):=by
 obtain ⟨n,h1,h2,h3,h4,h5⟩:=ziY P 0 l x B h
 have:x.i=n:=by omega
 subst this
 exact ⟨h2,h3,by simpa using h4,h5⟩
theorem zf6 (l:List UInt8) (x:Pc) (h:x∈pcs l):1≤x.w∧x.i+x.w≤l.length∧zqx (l.drop x.i) x.r x.w:=by
 obtain ⟨P,B,hs⟩:=List.append_of_mem h
 obtain ⟨h1,h2,_⟩:=zkm l P x B hs
 exact ⟨h2.pos,h1,h2⟩
end Go.Proofs.YtdnalnmahlakkaaGreatDoor
