/-
  Texts laid together: Fr, Iter, Iter2, Row, Sep, Sl, Rl, Tl, Ul, Dl, Vl, Gl, Wl, Yl, Ll, Ml, Nl, Mm, Dg, Utf, Rn, Ap, Cp, Zn. Nothing is assumed.
-/
import Derived.RangeFuncNested
import Derived.RangeFuncBound
import Derived.RangeFuncCalls
import Derived.RangeFuncLeaves
import Derived.Shelf.Abstract
import Derived.Shelf.RegionOpen
import Derived.WalkKit
import Derived.WalkSpells
import Derived.WalkLawsBesides
import Derived.OwnWalkIn
import Derived.TacticsInMore
import Derived.LoopNIn
import Derived.LoopIn
import Derived.Lib.OthersKept
import Derived.Lib.MapLaws
import Derived.Lib.ValidLaws
import Derived.Lib.TrimUEq
import Derived.Lib.RuneCountTail
import Derived.Lib.Hide
import Derived.Lib.Bytealg
import Derived.Deep.Light
import Derived.Deep.QuietTactic
import Derived.BigQuiet
import Derived.Deep.LoopGhost
import Derived.Lib.QuoteLoop
import Derived.Lib.AppendStr
import Derived.Laws.IdiomStrings
import Derived.Lib.BufferRead
import Derived.OrdersIn
import Derived.Deep.MidRow
import Derived.IntWalk
import Derived.Laws.MakeOwn
import Derived.Laws.StructEq
import Derived.Laws.Cover4
import Derived.Laws.CopyRow
import Derived.Laws.Tables
import Derived.Test.YtifpjbgnikjglaaGreatDoorProg
set_option maxRecDepth 100000
set_option maxHeartbeats 4000000
namespace Go.Proofs.YtifpjbgnikjglaaGreatDoor
open Go.RowKit Go.Lib
open Tryz
set_option linter.unusedVariables false
set_option linter.unusedSimpArgs false
open _root_.Array renaming getElem?_eq_some_iff→cU,replicate→eW,eq_empty_of_size_eq_zero→lD,length_toList→dp,getD→eR,getElem?_eq_getElem→ej,getD_eq_getD_getElem?→mz,toList_inj→fK
open _root_.BitVec renaming ofInt→fE
open _root_.Bool renaming or_eq_false_iff→cd,and_eq_true→aR,not_eq_true'→cN
open _root_.ByteArray renaming size_append→aK
open _root_.Go.Addr renaming add→pf,add_mid→ie
open _root_.Go.Builtin renaming append_→cL,lenOf→iy,firstCells→jT,len_→kF,copy_→jN
open _root_.Go.ByteArray renaming toList_eq→lP
open _root_.Go.CallsIn renaming mono→kC
open _root_.Go.Code renaming roundsIn→nJ
open _root_.Go.Conv renaming runesFrom→fp
open _root_.Go.Deferred renaming ofValue→kM
open _root_.Go.Exit renaming inBlock→jf
open _root_.Go.Fence renaming wide→bn
open _root_.Go.Instr renaming sureAddr→el,index→iC,sliceAt→gK,loadAt→jF,sliceBounds→k9,sliceBound→iM
open _root_.Go.Op renaming intArith→qA,intCmp→kE,stringOp→qB,equalIn→dL,eqFields→kc
open _root_.Go.Oper renaming wpIn→ob,uponIn→fZ,semAt_plain→gJ
open _root_.Go.Region renaming wanted→jU
open _root_.Go.Result renaming andThen_ok→ci,andThen→jV
open _root_.Go.RoundIn renaming mono→kD
open _root_.Go.RowKit.Below renaming heap_alloc→fI
open _root_.Go.RowsIn renaming mono→lE
open _root_.Go.Sem renaming run_bind→ak,run_pure→io
open _root_.Go.StepsIn renaming trans→mK
open _root_.Go.Utf8 renaming encode→af
open _root_.Go.Value renaming ownBlock→bS,cells→oN,oneCell'→mJ,int→ax
open _root_.Go.World renaming setCell→lq,putObj_heap_other→dt,putObj_heap_same→gC,alloc_heap_new→eK,frozen?→lr,ownsRow_nil→qz
open _root_.Go.World.ownsRow renaming lt→eX
open _root_.Int renaming toNat_natCast→dI
open _root_.List renaming nodup_cons→ix,flatMap_cons→aG,getElem?_append_left→fB,getElem?_append_right→iq,eq_nil_of_length_eq_zero→co,getElem?_eq_some_iff→au,mem_flatMap→fm,length_append→ah,flatMap_append→dW,getElem?_map→bV,getElem?_eq_getElem→aP,map_toArray→eI,map_cons→aE,map_nil→eu,all_eq_true→bz,mem_map→aW,mem_filter→cp,append_nil→aQ,contains_cons→fV,getElem?_set_ne→pg,lookup→dD,getElem?_take→ir,getElem?_drop→fW,ext_getElem?→ls,getElem?_set→rq,mem_of_getElem?→aJ,mem_cons→bE,mem_cons_of_mem→aq,mem_cons_self→aB,mem_append→bO,cons_append→bp,mem_iff_getElem?→gD,getElem?_inj→rr,append_assoc→aM,getD_eq_getElem?_getD→cC,getElem?_eq_none→gE,getElem?_zipIdx→jM,drop_eq_getElem_cons→bB,drop_zero→oO,drop_eq_nil_of_le→cO,getElem?_take_of_lt→nH,take_append_drop→dH,length_take→cj,length_drop→ck,drop_drop→eS,length_pos_iff→c6,not_mem_nil→dX,replicate→bA,replicate_succ→pR,length_map→aF,take_of_length_le→fx,drop_left→la,set_getElem_self→oP,length→gi,flatMap→ot
open _root_.Nat renaming le_refl→bJ,le_trans→oK,lt_of_lt_of_le→eA,add_mul→cT,zero_mul→nr,zero_add→cg,mul_le_mul_right→gP,zero_le→cH,one_mul→iY,add_comm→jm,min→sA
open _root_.Option renaming map_eq_some_iff→cM
open _root_.Option.some renaming injEq→fC,inj→mA
open _root_.Prod renaming fst→bu
open _root_.UInt8 renaming ofNat→ru
theorem ae {p:Prop} [Decidable p] (h:¬p):decide p=false:=decide_eq_false h
theorem al {p:Prop} [Decidable p] (h:p):decide p=true:=decide_eq_true h
theorem ar.{u} {c:Prop} {_:Decidable c} (h:¬c) {α:Sort u} {t e:α}:(ite c t e)=e:=if_neg h
theorem ay.{u} {c:Prop} {_:Decidable c} (h:c) {α:Sort u} {t e:α}:(ite c t e)=t:=if_pos h
theorem aL.{u,v} {α:Sort u} {β:Sort v} {a b:α} (f:α→β) (h:a=b):f a=f b:=congrArg f h
theorem aS.{u} {α:Type u} [BEq α] [LawfulBEq α] {a b:α}:(a==b)=false↔a≠b:=beq_eq_false_iff_ne
theorem er.{u} {α:Type u} [BEq α] [LawfulBEq α] {a b:α}:a != b↔a≠b:=bne_iff_ne
abbrev ab:=ByteArray
theorem dc {p:Prop} [Decidable p] (h:decide p=true:=by rfl):p:=of_decide_eq_true h
theorem kr {α:Sort _} {a b:α} (h:a=b:=by as_aux_lemma=>kernel_rfl):a=b:=h
structure Fr (C:Nat→Prop) (w w':World):Prop where
 os:w'.os=w.os
 tape:w'.tape=w.tape
 output:w'.output=w.output
 size:w.heap.size≤w'.heap.size
 keep:∀k,k<w.heap.size→¬ C k→w'.heap[k]?=w.heap[k]?
theorem Fr.refl (C:Nat→Prop) (w:World):Fr C w w:=⟨rfl,rfl,rfl,bJ _,fun _ _ _=>rfl⟩
theorem Fr.trans' {C C':Nat→Prop} {a b c:World} (h:Fr C a b) (k:Fr C' b c) (hc:∀i,i<a.heap.size→C' i→C i):Fr C a c :=
 ⟨k.os.trans h.os,k.tape.trans h.tape,k.output.trans h.output,oK h.size k.size,
  fun i hi l=>(k.keep i (eA hi h.size) (fun h'=>l (hc i hi h'))).trans (h.keep i hi l)⟩
theorem Fr.trans {C:Nat→Prop} {a b c:World} (h:Fr C a b) (k:Fr C b c):Fr C a c:=h.trans' k (fun _ _ h=>h)
theorem Fr.weaken {C C':Nat→Prop} {a b:World} (h:Fr C a b) (hc:∀i,i<a.heap.size→C i→C' i):Fr C' a b :=
 ⟨h.os,h.tape,h.output,h.size,fun i hi l=>h.keep i hi (fun h'=>l (hc i hi h'))⟩
theorem Fr.alloc {C:Nat→Prop} {a w:World} (h:Fr C a w) (o:Obj):Fr C a (w.alloc o) :=
 ⟨h.os,h.tape,h.output,by have:=h.size;simp;omega,fun i hi l=>(fI w o i (eA hi h.size)).trans (h.keep i hi l)⟩
theorem Fr.drew {C:Nat→Prop} {a w:World} (h:Fr C a w):Fr C a w.drew:=⟨h.os,h.tape,h.output,h.size,h.keep⟩
theorem Fr.setCell {C:Nat→Prop} {a w:World} (h:Fr C a w) {p:Addr} (hp:C p.block∨a.heap.size≤p.block) (u:Value):Fr C a (w.setCell p u) :=
 ⟨h.os,h.tape,h.output,by simpa [lq] using h.size,fun i hi l=>
  (Below.heap_setCell w p u i (by rintro rfl;rcases hp with hp | hp;exact l hp;omega)).trans (h.keep i hi l)⟩
theorem Fr.putObj {C:Nat→Prop} {a w:World} (h:Fr C a w) {r:Nat} (hp:C r∨a.heap.size≤r) (o:Obj):Fr C a (w.putObj r o) :=
 ⟨h.os,h.tape,h.output,by simpa using h.size,fun i hi l=>
  (dt (by rintro rfl;rcases hp with hp | hp;exact l hp;omega)).trans (h.keep i hi l)⟩
theorem Fr.iterAt {C:Nat→Prop} {a w:World} (h:Fr C a w) {k:Nat} (hp:C k∨a.heap.size≤k) (s:ab) (pos:Nat):Fr C a (w.iterAt k s pos) :=
 ⟨h.os,h.tape,h.output,by rw[iterAt_size];exact h.size,fun i hi l=>
  (iterAt_other w k i s pos (by rintro rfl;rcases hp with hp | hp;exact l hp;omega)).trans (h.keep i hi l)⟩
theorem Fr.grown {C:Nat→Prop} {a w w':World} {row:Option Nat} (h:Fr C a w) (hg:w.grownBy w' row) (hr:∀r,row=some r→C r∨a.heap.size≤r):Fr C a w' :=
 ⟨hg.os.trans h.os,hg.tape.trans h.tape,hg.output.trans h.output,oK h.size hg.size,fun i hi l=>
  (hg.block i (eA hi h.size) (fun e=>by rcases hr i e.symm with h' | h';exact l h';omega)).trans (h.keep i hi l)⟩
theorem Fr.below {C:Nat→Prop} {a w w':World} (h:Fr C a w) (l:Below w.heap.size w w'):Fr C a w' :=
 ⟨l.os.trans h.os,l.tape.trans h.tape,l.output.trans h.output,oK h.size l.size,fun i hi q=>
  (l.block i (eA hi h.size)).trans (h.keep i hi q)⟩
theorem Fr.toBelow {C:Nat→Prop} {B:Nat} {w w':World} (h:Fr C w w') (hB:B≤w.heap.size) (l:∀k,k<B→¬ C k):Below B w w' :=
 ⟨h.os,h.tape,h.output,h.size,fun k hk=>h.keep k (by omega) (l k hk)⟩
theorem Fr.at {C:Nat→Prop} {w w':World} (h:Fr C w w') {k:Nat} {o:Obj} (hk:w.heap[k]?=some o) (l:¬ C k):w'.heap[k]?=some o :=
 (h.keep k (cU.1 hk).1 l).trans hk
theorem ki {w:World} {k:Nat} {o:Obj} (hk:w.heap[k]?=some o):k<w.heap.size:=(cU.1 hk).1
def cF (C C':Nat→Prop) (W W':World):Prop:=Fr C W W'∧∀k,C' k→C k∨(W.heap.size≤k∧k<W'.heap.size)
theorem cF.refl (C:Nat→Prop) (W:World):cF C C W W:=⟨Fr.refl _ _,fun _ h=>.inl h⟩
theorem cF.trans {C C1 C2:Nat→Prop} {W q l:World} (h:cF C C1 W q) (k:cF C1 C2 q l):cF C C2 W l:=by
 refine⟨h.1.trans' k.1 (fun i hi hc=>(h.2 i hc).resolve_right (by omega)),fun i hi=>?_⟩
 have h1:=h.1.size;have h2:=k.1.size
 rcases k.2 i hi with h' | h'
 ·rcases h.2 i h' with h'' | h''
  ·exact .inl h''
  ·exact .inr (by omega)
 ·exact .inr (by omega)
theorem IG {C:Nat→Prop} {W W':World} (h:Fr C W W'):cF C C W W':=⟨h,fun _ h=>.inl h⟩
theorem cF.not {C C':Nat→Prop} {W W':World} (h:cF C C' W W') {k:Nat} (hk:k<W.heap.size) (l:¬ C k):¬ C' k:=fun h'=>by
 rcases h.2 k h' with h'' | h''
 ·exact l h''
 ·omega
def nv {β:Type} (I:β→(Nat→Prop)→World→Prop):Prop :=
 ∀s C W W',I s C W→W.heap.size≤W'.heap.size→(∀k,C k→W'.heap[k]?=W.heap[k]?)→I s C W'
def zy (P:Program) (l:Nat) (args:Array Value) (W:World) (R:Bool→World→Prop):Prop :=
 ∃fn tmps assign body,(Instr.yield l args).run P W=.ok (.round l fn tmps assign body) W ∧
  RoundIn bn 0 P l fn tmps assign body W fun e W'=>∃b,e=.returned (.bool b)∧R b W'
def xG {α:Type} (P:Program) (g:FuncId) (lb:Array Value) (enc:α→Array Value) (xs:List α) (D:Nat→Prop) (W0:World):Prop :=
 ∀ (l:Nat) (I X:List α→(Nat→Prop)→World→Prop) (C0:Nat→Prop) (W:World),
  (∀k,D k→k<W0.heap.size∧W.heap[k]?=W0.heap[k]?)→W0.heap.size≤W.heap.size→(∀k,C0 k→k<W.heap.size∧¬ D k) →
  nv I→nv X →
  (∀pre x post C W1,xs=pre++x::post→cF C0 C W W1→I pre C W1 →
   zy P l (enc x) W1 fun b W2=>∃C',cF C C' W1 W2∧((b=true∧I (pre++[x]) C' W2)∨(b=false∧X (pre++[x]) C' W2))) →
  I [] C0 W →
  Calls P g (#[.func (.yield l) #[] #[]]++lb) W fun e W'=>(∃v,e=.returned v) ∧
   ∃C',cF C0 C' W W'∧(I xs C' W'∨∃pre x post,xs=pre++x::post∧X (pre++[x]) C' W')
def xH {α:Type} (I:List α→(Nat→Prop)→World→Prop) (X:Code→List α→(Nat→Prop)→World→Prop) (xs:List α) (C:Nat→Prop) (W:World):Exit→Act→World→Prop
 | .normal,_,W'=>∃C',cF C C' W W'∧I xs C' W'
 | .ret,_,W'=>∃C',cF C C' W W'∧X .ret xs C' W'
 | .exit id,_,W'=>∃C',cF C C' W W'∧X (.exit id) xs C' W'
 | .goto t,_,W'=>∃C',cF C C' W W'∧X (.goto t) xs C' W'
 | .panic _,_,_=>False
 | .outgrown,_,_=>False
theorem Df (f:FuncId):Fence.wide.fn f=True:=rfl
theorem Dh (l:Nat) (f:FuncId):(Fence.wide.inRound l).fn f=True:=rfl
theorem Di:Fence.wide.depth=none:=rfl
section
variable {P:Program}
theorem IH {α:Type} {gf:FuncId} {lb:Array Value} {enc:α→Array Value} {xs:List α} {D:Nat→Prop} {W0:World} (hY:xG P gf lb enc xs D W0)
  {fn:FuncId} {tmps:Array Value} {ps:Array Tmp} {assign body:Code} {q:Nat} (bk:∀x,(enc x).size=ps.size)
  (I:List α→(Nat→Prop)→World→Prop) (X:Code→List α→(Nat→Prop)→World→Prop) (J:List α→α→Act→(Nat→Prop)→World→Prop)
  (hI:nv I) (hX:∀c,nv (X c)) (hJ:∀pre x a,nv (fun (_:Unit)=>J pre x a)) (C0:Nat→Prop) (W:World) (l:Nat)
  (hl:W.heap[l]?=some (.loop { state:=.ready,pending:=none,fn,tmps,params:=ps,assign,body,defers:=q })) (b2:¬ C0 l) (b1:¬ D l)
  (hD:∀k,D k→k<W0.heap.size∧W.heap[k]?=W0.heap[k]?) (hs:W0.heap.size≤W.heap.size) (b4:∀k,C0 k→k<W.heap.size∧¬ D k) (h0:I [] C0 W)
  (ag:∀pre x post C M,xs=pre++x::post→cF (fun k=>C0 k∨k=l) (fun k=>C k∨k=l) W M→I pre C M→¬ C l→(∃r,M.heap[l]?=some (.loop r)∧r.defers=q) →
   assign.wpIn (Fence.wide.inRound l) 0 P (_root_.Go.Exit.then (fun a1 Y=>∃C1,cF C C1 M Y∧J pre x a1 C1 Y) (fun _ _ _=>False))
    { tmps:=(ps.zip (enc x)).foldl (fun t (p,v)=>t.setIfInBounds p v) tmps,defers:=[] } M)
  (a5:∀pre x post C M a1,xs=pre++x::post→cF (fun k=>C0 k∨k=l) (fun k=>C k∨k=l) W M→J pre x a1 C M→¬ C l→(∃r,M.heap[l]?=some (.loop r)∧r.defers=q) →
   body.wpIn (Fence.wide.inRound l) 0 P (xH I X (pre++[x]) C M) a1 M) :
  Calls P gf (#[.func (.yield l) #[] #[]]++lb) W fun e W'=>(∃v,e=.returned v) ∧
   ∃C' st pe,cF (fun k=>C0 k∨k=l) (fun k=>C' k∨k=l) W W'∧¬ C' l∧W'.heap[l]?=some (.loop { state:=st,pending:=pe,fn,tmps,params:=ps,assign,body,defers:=q })∧st≠.busy ∧
    ((pe=none∧I xs C' W')∨∃c pre x post,pe=some c∧xs=pre++x::post∧X c (pre++[x]) C' W'):=by
 have b0:l<W.heap.size:=ki hl
 refine (hY l
  (fun pre Cc M=>∃C,Cc=(fun k=>C k∨k=l)∧¬ C l∧I pre C M∧M.heap[l]?=some (.loop { state:=.ready,pending:=none,fn,tmps,params:=ps,assign,body,defers:=q }))
  (fun pre Cc M=>∃C c,Cc=(fun k=>C k∨k=l)∧¬ C l∧X c pre C M∧M.heap[l]?=some (.loop { state:=.done,pending:=some c,fn,tmps,params:=ps,assign,body,defers:=q }))
  (fun k=>C0 k∨k=l) W hD hs ?_ ?_ ?_ ?_ ?_).mono ?_
 ·rintro k (h | rfl)
  ·exact b4 k h
  ·exact⟨b0,b1⟩
 ·rintro pre Cc M Y ⟨C,rfl,Z,hi,hr⟩ hsz hk
  exact⟨C,rfl,Z,hI _ _ _ _ hi hsz (fun k h=>hk k (.inl h)),(hk l (.inr rfl)).trans hr⟩
 ·rintro pre Cc M Y ⟨C,c,rfl,Z,hi,hr⟩ hsz hk
  exact⟨C,c,rfl,Z,hX c _ _ _ _ hi hsz (fun k h=>hk k (.inl h)),(hk l (.inr rfl)).trans hr⟩
 ·rintro pre x post Cc M ao O ⟨C,rfl,Z,hi,hr⟩
  have bb:l<M.heap.size:=ki hr
  have hy:=run_yield (P:=P) (args:=enc x) hr (bk x)
  refine⟨fn,_,assign,body,hy,roundIn_of_wpIn (F:=bn) trivial (wpIn_mono (ag pre x post C M ao O hi Z ⟨_,hr,rfl⟩) ?_)⟩
  clear hy
  rintro e a1 Y hp
  cases e with
  | normal=>
   obtain⟨C1,aw,hj⟩:=hp
   have a0:¬ C1 l:=aw.not bb Z
   have a8:Y.heap[l]?=_:=aw.1.at hr Z
   have a4:l<Y.heap.size:=ki a8
   refine⟨_,run_beginRound a8 rfl,?_⟩
   have a7:=gC (w:=Y) (o:=.loop { state:=.busy,pending:=none,fn,tmps,params:=ps,assign,body,defers:=q }) a4
   have G:∀ (Cz:Nat→Prop) (Wz:World) (o:Obj),¬ Cz l→∀k,Cz k→(Wz.putObj l o).heap[k]?=Wz.heap[k]?:=fun Cz Wz o hz k hk=>dt (by rintro rfl;exact hz hk)
   have b3:=hJ pre x a1 () C1 Y (Y.putObj l (.loop { state:=.busy,pending:=none,fn,tmps,params:=ps,assign,body,defers:=q })) hj (by simp) (G C1 Y _ a0)
   have bh:cF (fun k=>C k∨k=l) (fun k=>C1 k∨k=l) M (Y.putObj l (.loop { state:=.busy,pending:=none,fn,tmps,params:=ps,assign,body,defers:=q })) :=
    ⟨(aw.1.weaken (fun _ _ h=>.inl h)).putObj (.inl (.inr rfl)) _,fun k hk=>by
     rcases hk with hk | rfl
     ·rcases aw.2 k hk with h' | h'
      ·exact .inl (.inl h')
      ·exact .inr (by simpa using h')
     ·exact .inl (.inr rfl)⟩
   refine wpIn_mono (a5 pre x post C1 _ a1 ao (O.trans bh) b3 a0 ⟨_,a7,rfl⟩) ?_
   have a2:∀ (E:Option Code) (C':Nat→Prop) (T:World),cF C1 C' (Y.putObj l (.loop { state:=.busy,pending:=none,fn,tmps,params:=ps,assign,body,defers:=q })) T →
     ¬ C' l∧(Instr.endRound l E).run P T=.ok (.bool E.isNone) (T.putObj l (.loop { state:=if E.isNone then .ready else .done,pending:=E,fn,tmps,params:=ps,assign,body,defers:=q })) ∧
     (T.putObj l (.loop { state:=if E.isNone then .ready else .done,pending:=E,fn,tmps,params:=ps,assign,body,defers:=q })).heap[l]?=some (.loop { state:=if E.isNone then .ready else .done,pending:=E,fn,tmps,params:=ps,assign,body,defers:=q }) ∧
     cF (fun k=>C k∨k=l) (fun k=>C' k∨k=l) M (T.putObj l (.loop { state:=if E.isNone then .ready else .done,pending:=E,fn,tmps,params:=ps,assign,body,defers:=q })):=by
    intro E C' T H
    have bs:¬ C' l:=H.not (by simpa using a4) a0
    have a6:=H.1.at a7 a0
    have a9:l<T.heap.size:=ki a6
    refine⟨bs,run_endRound (P:=P) E a6,gC a9,bh.trans ⟨(H.1.weaken (fun _ _ h=>.inl h)).putObj (.inl (.inr rfl)) _,?_⟩⟩
    rintro k (hk | rfl)
    ·rcases H.2 k hk with h' | h'
     ·exact .inl (.inl h')
     ·exact .inr (by simpa using h')
    ·exact .inl (.inr rfl)
   rintro e a3 T V
   cases e with
   | normal=>
    obtain⟨C',H,U⟩:=V
    obtain⟨q1,q2,q3,q4⟩:=a2 none C' T H
    exact⟨_,_,q2,true,rfl,_,q4,.inl ⟨rfl,C',rfl,q1,hI _ _ _ _ U (by simp) (G C' T _ q1),q3⟩⟩
   | ret=>
    obtain⟨C',H,U⟩:=V
    obtain⟨q1,q2,q3,q4⟩:=a2 (some .ret) C' T H
    exact⟨_,_,q2,false,rfl,_,q4,.inr ⟨rfl,C',_,rfl,q1,hX _ _ _ _ _ U (by simp) (G C' T _ q1),q3⟩⟩
   | exit id=>
    obtain⟨C',H,U⟩:=V
    obtain⟨q1,q2,q3,q4⟩:=a2 (some (.exit id)) C' T H
    exact⟨_,_,q2,false,rfl,_,q4,.inr ⟨rfl,C',_,rfl,q1,hX _ _ _ _ _ U (by simp) (G C' T _ q1),q3⟩⟩
   | goto t=>
    obtain⟨C',H,U⟩:=V
    obtain⟨q1,q2,q3,q4⟩:=a2 (some (.goto t)) C' T H
    exact⟨_,_,q2,false,rfl,_,q4,.inr ⟨rfl,C',_,rfl,q1,hX _ _ _ _ _ U (by simp) (G C' T _ q1),q3⟩⟩
   | panic ch=>exact V.elim
   | outgrown=>exact V.elim
  | ret=>exact hp.elim
  | exit id=>exact hp.elim
  | goto t=>exact hp.elim
  | panic ch=>exact hp.elim
  | outgrown=>exact hp.elim
 ·exact⟨C0,rfl,b2,h0,hl⟩
 ·rintro e W' ⟨hv,C',O,⟨C,rfl,Z,hi,hr⟩ | ⟨pre,x,post,ao,C,c,rfl,Z,hi,hr⟩⟩
  ·exact⟨hv,C,_,_,O,Z,hr,by simp,.inl ⟨rfl,hi⟩⟩
  ·exact⟨hv,C,_,_,O,Z,hr,by simp,.inr ⟨c,pre,x,post,rfl,ao,hi⟩⟩
theorem Dj {α:Type} {g:Operand} {ps:Array Tmp} {assign body:Code} {Q:Exit→Act→World→Prop} {a:Act} {w:World}
  {gf:FuncId} {lb:Array Value} (hg:a.eval g=.func (.func gf) #[] lb) (eg:∀args w,(callFunc gf args).run P w=.ok (.enter gf args) w)
  {enc:α→Array Value} {xs:List α} {D:Nat→Prop} {W0:World} (hY:xG P gf lb enc xs D W0)
  (hD:∀k,D k→k<W0.heap.size∧w.heap[k]?=W0.heap[k]?) (hs:W0.heap.size≤w.heap.size) (a5:∀x,(enc x).size=ps.size)
  (I:List α→(Nat→Prop)→World→Prop) (X:Code→List α→(Nat→Prop)→World→Prop) (J:List α→α→Act→(Nat→Prop)→World→Prop)
  (hI:nv I) (hX:∀c,nv (X c)) (hJ:∀pre x a,nv (fun (_:Unit)=>J pre x a)) (T:Nat→Prop)
  (O:∀k,T k→k<w.heap.size∧¬ D k) (h0:I [] T w)
  (V:∀l pre x post C q,xs=pre++x::post→cF T C w q→I pre C q→¬ C l→w.heap.size≤l→(∃r,q.heap[l]?=some (.loop r)) →
   assign.wpIn (Fence.wide.inRound l) 0 P (_root_.Go.Exit.then (fun a1 G=>∃C1,cF C C1 q G∧J pre x a1 C1 G) (fun _ _ _=>False))
    { tmps:=(ps.zip (enc x)).foldl (fun t (p,v)=>t.setIfInBounds p v) a.tmps,defers:=[] } q)
  (aw:∀l pre x post C q a1,xs=pre++x::post→cF T C w q→J pre x a1 C q→¬ C l→w.heap.size≤l→(∃r,q.heap[l]?=some (.loop r)) →
   body.wpIn (Fence.wide.inRound l) 0 P (xH I X (pre++[x]) C q) a1 q)
  (ao:∀ (d:Nat) (C:Nat→Prop) (W:World),cF T C w W→I xs C W→w.heap.size≤d→¬ C d→W.heap[d]?=some (.deferred (some []))→Q .normal { a with defers:={ target:=.collected d,args:=#[] }::a.defers } W)
  (ag:∀ (d:Nat) (c:Code) (pre:List α) (x:α) (post:List α) (C:Nat→Prop) (W:World),xs=pre++x::post→cF T C w W→X c (pre++[x]) C W→w.heap.size≤d→¬ C d→W.heap[d]?=some (.deferred (some [])) →
   c.wpIn bn 0 P Q { a with defers:={ target:=.collected d,args:=#[] }::a.defers } W) :
  (Code.rangeFunc g ps assign body).wpIn bn 0 P Q a w:=by
 refine wpIn_rangeFunc ?_
 intro fn hfn
 obtain⟨q,M⟩:∃q,(w.alloc (.deferred (some []))).alloc (.loop { state:=.ready,pending:=none,fn,tmps:=a.tmps,params:=ps,assign,body,defers:=w.heap.size })=q:=⟨_,rfl⟩
 have a6:q.heap[w.heap.size+1]?=some (.loop { state:=.ready,pending:=none,fn,tmps:=a.tmps,params:=ps,assign,body,defers:=w.heap.size }):=by
  rw[← M];have:=eK (w.alloc (.deferred (some []))) (.loop { state:=.ready,pending:=none,fn,tmps:=a.tmps,params:=ps,assign,body,defers:=w.heap.size });rwa [World.size_alloc] at this
 have a7:q.heap[w.heap.size]?=some (.deferred (some [])):=by
  rw[← M];exact (fI _ _ _ (by simp)).trans (eK w _)
 have a4:Fr T w q:=by rw[← M];exact ((Fr.refl T w).alloc _).alloc _
 have hsz:q.heap.size=w.heap.size+2:=by rw[← M];simp
 have Z:∀k,k<w.heap.size→q.heap[k]?=w.heap[k]?:=fun k hk=>by rw[← M];exact (fI _ _ _ (by simp;omega)).trans (fI _ _ _ hk)
 have a8:I [] T q:=hI _ _ _ _ h0 a4.size (fun k hk=>Z k (O k hk).1)
 have H:∀ {C:Nat→Prop} {G:World},cF (fun k=>T k∨k=w.heap.size+1) (fun k=>C k∨k=w.heap.size+1) q G→¬ C (w.heap.size+1)→cF T C w G∧¬ C w.heap.size∧G.heap[w.heap.size]?=some (.deferred (some [])):=by
  intro C G h Y
  have hnd:¬ C w.heap.size:=fun hc=>by
   rcases h.2 _ (.inl hc) with (h' | h') | h'
   ·have:=(O _ h').1;omega
   ·omega
   ·omega
  refine⟨⟨a4.trans' h.1 (fun i hi hc=>hc.resolve_right (by omega)),fun k hk=>?_⟩,hnd,h.1.at a7 (fun hc=>?_)⟩
  ·have h2:=h.1.size
   rcases h.2 k (.inl hk) with (h' | h') | h'
   ·exact .inl h'
   ·exact absurd (h' ▸ hk) Y
   ·exact .inr (by omega)
  ·rcases hc with hc | hc
   ·have:=(O _ hc).1;omega
   ·omega
 refine⟨w.heap.size+1,[{ target:=.collected w.heap.size,args:=#[] }],q,{ target:=.fn (.func gf) lb,args:=#[.func (.yield (w.heap.size+1)) #[] #[]] },q,gf,
  #[.func (.yield (w.heap.size+1)) #[] #[]]++lb,q,?_,?_,?_,?_,fun h=>by simp[bn] at h,callsIn_wide.2 ?_⟩
 ·rw[← M];exact run_enterLoop_outer _ _ _ _ _
 ·simp only[resolve,hg]
  simp[go_sem]
 ·intro f' bb;trivial
 ·simp[invoke,go_sem,eg]
 ·refine (IH hY a5 I X J hI hX hJ T q (w.heap.size+1) a6 (fun h=>by have:=(O _ h).1;omega) (fun h=>by have:=(hD _ h).1;omega)
   (fun k hk=>⟨(hD k hk).1,(Z k (by have:=(hD k hk).1;omega)).trans (hD k hk).2⟩) (by omega) (fun k hk=>⟨by have:=(O k hk).1;omega,(O k hk).2⟩) a8 ?_ ?_).mono ?_
  ·rintro pre x post C G U E hi Y ⟨r,hr,_⟩
   exact V _ pre x post C G U (H E Y).1 hi Y (by omega) ⟨r,hr⟩
  ·rintro pre x post C G a1 U E hj Y ⟨r,hr,_⟩
   exact aw _ pre x post C G a1 U (H E Y).1 hj Y (by omega) ⟨r,hr⟩
  ·rintro e G ⟨⟨v,rfl⟩,C',st,pe,E,Y,hr,a0,h⟩
   obtain⟨q1,q2,q3⟩:=H E Y
   have a9:w.heap.size+1<G.heap.size:=ki hr
   have e1:∀o,cF T C' w (G.putObj (w.heap.size+1) o):=fun o=>⟨q1.1.putObj (.inr (by omega)) _,fun k hk=>by have:=q1.2 k hk;simpa using this⟩
   have a2:∀o,∀k,C' k→(G.putObj (w.heap.size+1) o).heap[k]?=G.heap[k]?:=fun o k hk=>dt (by rintro rfl;exact Y hk)
   have a3:∀o,(G.putObj (w.heap.size+1) o).heap[w.heap.size]?=some (.deferred (some [])):=fun o=>(dt (by omega)).trans q3
   rcases h with⟨rfl,hi⟩ | ⟨c,pre,x,post,rfl,U,hx⟩
   ·exact⟨none,_,run_endLoop (P:=P) hr a0,ao _ C' _ (e1 _) (hI _ _ _ _ hi (by simp) (a2 _)) (bJ _) q2 (a3 _)⟩
   ·exact⟨some c,_,run_endLoop (P:=P) hr a0,ag _ c pre x post C' _ U (e1 _) (hX _ _ _ _ _ hx (by simp) (a2 _)) (bJ _) q2 (a3 _)⟩
def mQ (l:List Nat):List Deferred:=l.map fun d=>{ target:=.collected d,args:=#[] }
theorem Dk {fn:Func} {tmps:Array Value} {R:Ending→World→Prop}:∀ (l:List Nat) (w:World),l.Nodup→(∀d∈l,w.heap[d]?=some (.deferred (some []))) →
  (∀w',Fr (fun k=>k∈l) w w'→w'.heap.size=w.heap.size→∃v,(results fn tmps).run P w'=.ok v w'∧R (.returned v) w') →
  LeavesInM bn 0 P fn tmps R (mQ l) .returning w
 | [],w,_,_,h=>by
  obtain⟨v,h1,h2⟩:=h w (Fr.refl _ _) rfl
  exact⟨v,h1,h2⟩
 | d::l,w,hn,hd,h=>by
  have hnd:=ix.1 hn
  refine⟨by simp,.inl ⟨d,_,rfl,run_takeDeferred (hd d (by simp)),?_⟩⟩
  refine Dk l _ hnd.2 (fun e he=>(dt (by rintro rfl;exact hnd.1 he)).trans (hd e (by simp[he]))) (fun w' q D=>?_)
  refine h w' ?_ (by rw[D];simp)
  exact ((Fr.refl _ _).putObj (.inl (by simp)) _).trans' q (fun i _ hi=>by simp[hi])
theorem tD {f:FuncId} {fn:Func} {c:Code} {args:Array Value} {w:World} {R:Ending→World→Prop}
  (hf:P.funcs[f]?=some fn) (l:fn.body=some c)
  (h:c.wpIn bn 0 P (bodyPostM bn 0 P fn R) { tmps:=args++eW (fn.ntmps - args.size) undef,defers:=[] } w):Calls P f args w R :=
 (callsIn_wide (n:=0)).1 (callsIn_of_wp_marks hf l trivial h)
end
theorem cF.sub {C C1 C2:Nat→Prop} {W W':World} (h:cF C C1 W W') (l:∀k,C2 k→C1 k):cF C C2 W W':=⟨h.1,fun k hk=>h.2 k (l k hk)⟩
theorem cF.below {C:Nat→Prop} {W W':World} (h:Below W.heap.size W W'):cF C C W W':=IG ((Fr.refl _ _).below h)
theorem nN {w:World} {b j:Nat} {cs:Array Value} {t:TypeId} {l:Nat×Nat} {v:Value} (h:w.heap[b]?=some (.cells cs t l)) (hv:cs[j]?=some v):w.cell? ⟨b,j,none⟩=some v:=by
 simp[World.cell?,h,hv]
theorem Dm {w:World} {b:Nat} {cs:Array Value} {t:TypeId} (h:w.heap[b]?=some (.cells cs t (0,0))) (j:Nat):w.frozen? ⟨b,j,none⟩=false:=by
 simp[lr,h]
section
variable {α:Type} {enc:α→List Value} {size:Nat}
theorem qF (hz:∀x,(enc x).length=size) (L:List α):(L.flatMap enc).length=L.length*size:=by
 induction L with
 | nil=>simp
 | cons x L l=>simp[l,hz,cT];omega
theorem zz (hz:∀x,(enc x).length=size):∀ (L:List α) (n j:Nat) (x:α),L[n]?=some x→j<size→(L.flatMap enc)[n*size+j]?=(enc x)[j]?
 | [],n,j,x,h,hj=>by simp at h
 | y::L,0,j,x,h,hj=>by
  simp at h;subst h
  simp only[aG,nr,cg]
  rw[fB (by rw[hz];exact hj)]
 | y::L,n+1,j,x,h,hj=>by
  simp at h
  simp only[aG]
  rw[iq (by rw[hz,cT];omega),hz]
  have:(n+1)*size+j - size=n*size+j:=by rw[cT];omega
  rw[this]
  exact zz hz L n j x h hj
theorem Dn (hz:∀x,(enc x).length=size):∀ (L:List α) (n j:Nat) (x y:α) (u:Value),L[n]?=some x→j<size→enc y=(enc x).set j u →
  (L.flatMap enc).set (n*size+j) u=(L.set n y).flatMap enc
 | [],n,j,x,y,u,h,hj,he=>by simp at h
 | z::L,0,j,x,y,u,h,hj,he=>by
  simp at h;subst h
  simp only[aG,nr,cg,List.set_cons_zero]
  rw[List.set_append_left _ _ (by rw[hz];exact hj),he]
 | z::L,n+1,j,x,y,u,h,hj,he=>by
  simp at h
  simp only[aG,List.set_cons_succ]
  rw[List.set_append_right _ _ (by rw[hz,cT];omega),hz]
  have:(n+1)*size+j - size=n*size+j:=by rw[cT];omega
  rw[this,Dn hz L n j x y u h hj he]
def Rw (enc:α→List Value) (w:World) (base:Nat) (e:TypeId) (size:Nat) (v:Value) (L:List α):Prop:=w.ownsRow base e size v L.length (L.flatMap enc)
theorem Rw.nil (w:World) (base:Nat) (e:TypeId):Rw enc w base e size (.slice none 0 0) ([]:List α):=qz w base e size
theorem Rw.shape {w:World} {base:Nat} {e:TypeId} {v:Value} {L:List α} (h:Rw enc w base e size v L) :
  (v=.slice none 0 0∧L=[])∨∃g cap,v=.slice (some ⟨g,0,none⟩) L.length cap∧base≤g∧g<w.heap.size∧L.length≤cap∧cap≤maxLen:=by
 rcases h.2 with⟨h1,h2⟩ | ⟨g,cap,D,h1,h2,q,l,h5,_⟩
 ·exact .inl ⟨h1,co h2⟩
 ·exact .inr ⟨g,cap,h1,h2,(cU.1 q).1,l,h5⟩
theorem Rw.cell {w:World} {base:Nat} {e:TypeId} {g cap:Nat} {L:List α} (hz:∀x,(enc x).length=size) (h:Rw enc w base e size (.slice (some ⟨g,0,none⟩) L.length cap) L)
  {n:Nat} {x:α} (hx:L[n]?=some x) {j:Nat} {u:Value} (hj:j<size) (hu:(enc x)[j]?=some u):w.cell? ⟨g,n*size+j,none⟩=some u:=by
 have q:n<L.length:=(au.1 hx).1
 have l:n*size+j<L.length*size:=by
  have:(n+1)*size≤L.length*size:=gP _ q
  rw[cT] at this;omega
 rw[World.ownsRow.cellAt h _ l,zz hz L n j x hx hj,hu]
theorem Rw.frozen {w:World} {base:Nat} {e:TypeId} {g n cap:Nat} {L:List α} (h:Rw enc w base e size (.slice (some ⟨g,0,none⟩) n cap) L) (l:n=L.length) (j:Nat):w.frozen? ⟨g,j,none⟩=false:=by
 subst l;exact World.ownsRow.frozenAt h j
theorem Rw.stored {w:World} {base:Nat} {e:TypeId} {g cap:Nat} {L:List α} (hz:∀x,(enc x).length=size) (h:Rw enc w base e size (.slice (some ⟨g,0,none⟩) L.length cap) L)
  {n:Nat} {x:α} (hx:L[n]?=some x) {j:Nat} (hj:j<size) (y:α) {u:Value} (he:enc y=(enc x).set j u) :
  Rw enc (w.setCell ⟨g,n*size+j,none⟩ u) base e size (.slice (some ⟨g,0,none⟩) L.length cap) (L.set n y)∧w.grownBy (w.setCell ⟨g,n*size+j,none⟩ u) (some g):=by
 have:=World.ownsRow.stored h (n*size+j) u
 refine⟨?_,this.2⟩
 have h1:=this.1
 rw[Dn hz L n j x y u hx hj he] at h1
 unfold Rw
 rw[List.length_set]
 exact h1
end
theorem cF.alloc {C C':Nat→Prop} {a w:World} (h:cF C C' a w) (o:Obj):cF C C' a (w.alloc o) :=
 ⟨h.1.alloc o,fun k hk=>(h.2 k hk).imp id (fun q=>⟨q.1,by simp;omega⟩)⟩
theorem cF.drew {C C':Nat→Prop} {a w:World} (h:cF C C' a w):cF C C' a w.drew:=⟨h.1.drew,h.2⟩
theorem cF.setCell {C C':Nat→Prop} {a w:World} (h:cF C C' a w) {p:Addr} (hp:C' p.block) (u:Value):cF C C' a (w.setCell p u):=by
 have l:(w.setCell p u).heap.size=w.heap.size:=by simp[lq]
 refine⟨h.1.setCell ?_ u,fun k hk=>by rw[l];exact h.2 k hk⟩
 rcases h.2 _ hp with h' | h'
 ·exact .inl h'
 ·exact .inr h'.1
theorem cF.toBelow {C C':Nat→Prop} {B:Nat} {w w':World} (h:cF C C' w w') (hB:B≤w.heap.size) (l:∀k,k<B→¬ C k):Below B w w':=h.1.toBelow hB l
theorem Do {C:Nat→Prop} {w w':World} (h:Below w.heap.size w w'):cF C C w w':=cF.below h
def gQ {α:Type} (enc:α→List Value) (e:TypeId) (size:Nat) (v:Value) (L:List α) (C:Nat→Prop) (w:World):Prop :=
 Rw enc w 0 e size v L∧C=(fun k=>v.ownBlock=some k)
section
variable {α:Type} {enc:α→List Value} {size:Nat} {e:TypeId} {v:Value} {L:List α} {C:Nat→Prop} {w w':World}
theorem gQ.local (h:gQ enc e size v L C w) (hk:∀k,C k→w'.heap[k]?=w.heap[k]?):gQ enc e size v L C w':=by
 obtain⟨h1,rfl⟩:=h
 refine⟨⟨h1.1,?_⟩,rfl⟩
 rcases h1.2 with q | ⟨g,cap,l,rfl,h5,D,rest⟩
 ·exact .inl q
 ·exact .inr ⟨g,cap,l,rfl,h5,(hk g rfl).trans D,rest⟩
theorem gQ.lt (h:gQ enc e size v L C w):∀k,C k→k<w.heap.size:=by
 obtain⟨h1,rfl⟩:=h
 exact fun k hk=>(eX h1 k hk).2
theorem gQ.nil:gQ enc e size (.slice none 0 0) ([]:List α) (fun _=>False) w:=⟨Rw.nil _ _ _,by funext k;simp[bS]⟩
theorem gQ.shape (h:gQ enc e size v L C w) :
  (v=.slice none 0 0∧L=[]∧C=fun _=>False)∨∃g cap,v=.slice (some ⟨g,0,none⟩) L.length cap∧g<w.heap.size∧L.length≤cap∧cap≤maxLen∧C=(fun k=>k=g):=by
 obtain⟨h1,rfl⟩:=h
 rcases h1.shape with⟨rfl,h2⟩ | ⟨g,cap,rfl,_,q,l,h5⟩
 ·exact .inl ⟨rfl,h2,by funext k;simp[bS]⟩
 ·exact .inr ⟨g,cap,rfl,q,l,h5,by funext k;simp[bS];exact⟨fun h=>h.symm,fun h=>h.symm⟩⟩
theorem gQ.cell {g cap n:Nat} (hz:∀x,(enc x).length=size) (h:gQ enc e size (.slice (some ⟨g,0,none⟩) n cap) L C w) (l:n=L.length) {i:Nat} {x:α} (hx:L[i]?=some x) {j:Nat} {u:Value} (hj:j<size) (hu:(enc x)[j]?=some u) :
  w.cell? ⟨g,i*size+j,none⟩=some u:=by subst l;exact h.1.cell hz hx hj hu
theorem gQ.frozen {g cap n:Nat} (h:gQ enc e size (.slice (some ⟨g,0,none⟩) n cap) L C w) (l:n=L.length) (j:Nat):w.frozen? ⟨g,j,none⟩=false:=h.1.frozen l j
end
theorem zA {P:Program} (w:World) (base:Nat) (t ty e:TypeId) (i:TypeInfo) (z:Value) (size bytes:Nat) (ht:P.underlying t=some (.slice e)) (hi:P.info? e=some i) (hz:i.zero=some z)
  (I:i.size=size) (Y:i.bytes=bytes)
  (v:Value) (n:Nat) (xs:List Value) (H:w.ownsRow base e size v n xs)
  (a:Addr) (m c:Nat) (l:List Value) (M:l.length=m*size) (D:∀j u,l[j]?=some u→w.cell? (a.add j)=some u) (h1:∀u∈l,u.oneCell'=true)
  (Z:n+m≤maxLen) (E:(n+m)*bytes≤140737488355328) {v':Value} {w':World}
  (q:(cL #[t,t] ty #[v,.slice (some a) m c]).run P w=.ok v' w'):∀g,v'.ownBlock=some g→v.ownBlock=some g∨(w.heap.size≤g):=by
 subst I
 subst Y
 have U:n+m≤9223372036854775807:=by simp only[maxLen] at Z;omega
 rcases H.2 with⟨rfl,rfl⟩ | ⟨g,cap,T,rfl,aw,hg,ag,ao,W,V⟩
 ·by_cases hm:m=0
  ·subst hm
   have hn:l=[]:=co (by simpa using M)
   subst hn
   have h:(cL #[t,t] ty #[.slice none 0 0,.slice (some a) 0 c]).run P w=.ok (.slice none 0 0) w:=by
    simp[cL,run_underlying ht,sizeOf,typeInfo,hi,iy,jT,loadCells,loadCellsFrom]
   rw[h] at q
   cases q
   simp[bS]
  ·have hr:=run_append_nil (P:=P) w t ty e i z ht hi hz a m c l M D (by omega) (by omega) (by have hb:=E;simp only[cg] at hb;omega)
   rw[hr] at q
   cases q
   intro g hg
   simp[bS] at hg
   exact .inr (by omega)
 ·by_cases G:n+m≤cap
  ·have O:n*i.size+l.length≤T.size:=by rw[M,W,← cT];exact gP _ G
   have hr:=run_append_room (P:=P) w t ty e i ht hi g n cap T hg a m c l M D h1 G O
   rw[hr] at q
   cases q
   intro g' J
   exact .inl (by simpa [bS] using J)
  ·have holds:∀j u,xs[j]?=some u→w.cell? ((⟨g,0,none⟩:Addr).add j)=some u:=H.cells (g:=g) rfl
   have hr:=run_append_grow (P:=P) w t ty e i z ht hi hz ⟨g,0,none⟩ n cap xs H.1 holds a m c l M D (by omega) (by omega) (growslice_fits (by omega) E)
   rw[hr] at q
   cases q
   intro g' J
   simp[bS] at J
   exact .inr (by omega)
theorem II {P:Program} (w:World) (base:Nat) (t u ty e:TypeId) (i:TypeInfo) (ht:P.underlying t=some (.slice e)) (hu:P.underlying u=some .string) (hi:P.info? e=some i) (hz:i.zero=some (.int .u8 0))
  (q:i.size=1) (H:i.bytes=1)
  (v:Value) (n:Nat) (xs:List Value) (D:w.ownsRow base e 1 v n xs) (s:ab)
  (U:n+s.size≤maxLen) (M:n+s.size≤140737488355328) {V:Value} {w':World}
  (l:(cL #[t,u] ty #[v,.string s]).run P w=.ok V w'):∀g,V.ownBlock=some g→v.ownBlock=some g∨(w.heap.size≤g):=by
 have J:n+s.size≤9223372036854775807:=by simp only[maxLen] at U;omega
 have Y:xs.length=n:=by simpa using D.1
 rcases D.2 with⟨rfl,rfl⟩ | ⟨g,cap,I,rfl,ao,hg,Z,ag,T,O⟩
 ·by_cases hm:s.size=0
  ·have hf:=run_firstCells_string (P:=P) w 1 s
   rw[hm] at hf
   have hn:strCells s=[]:=co (by rw[strCells_length];exact hm)
   have h:(cL #[t,u] ty #[.slice none 0 0,.string s]).run P w=.ok (.slice none 0 0) w:=by
    simp[cL,run_underlying ht,run_underlying hu,sizeOf,typeInfo,hi,q,iy,hm,hf]
   rw[h] at l
   cases l
   simp[bS]
  ·have hr:=run_append_nil_string (P:=P) w t u ty e i (.int .u8 0) ht hu hi hz s (by omega) (by omega) (by rw[H];omega)
   rw[hr] at l
   cases l
   intro g hg
   simp[bS] at hg
   exact .inr (by omega)
 ·by_cases E:n+s.size≤cap
  ·have W:I.size=cap:=by simpa using T
   have hr:=run_append_room_string (P:=P) w t u ty e i ht hu hi q g n cap I hg s E (by omega)
   rw[hr] at l
   cases l
   intro g' G
   exact .inl (by simpa [bS] using G)
  ·have holds:∀j u,xs[j]?=some u→w.cell? ((⟨g,0,none⟩:Addr).add j)=some u:=D.cells (g:=g) rfl
   have hr:=run_append_grow_string (P:=P) w t u ty e i (.int .u8 0) ht hu hi hz ⟨g,0,none⟩ n cap xs (by rw[q];omega) holds s (by omega) (by omega) (growslice_fits (by omega) (by rw[H];omega))
   rw[hr] at l
   cases l
   intro g' G
   simp[bS] at G
   exact .inr (by omega)
theorem xI {w w':World} {v l:Value} (hg:w.grownBy w' v.ownBlock) (D:∀g,l.ownBlock=some g→v.ownBlock=some g∨w.heap.size≤g) (q:∀g,l.ownBlock=some g→g<w'.heap.size) :
  cF (fun k=>v.ownBlock=some k) (fun k=>l.ownBlock=some k) w w' :=
 ⟨(Fr.refl _ _).grown hg (fun r hr=>.inl hr),fun k hk=>(D k hk).imp id (fun h=>⟨h,q k hk⟩)⟩
section
variable {F:Fence} {n:Nat} {P:Program}
theorem IJ {α:Type} {enc:α→List Value} {size:Nat} (w:World) (t ty e:TypeId) (i:TypeInfo) (z:Value) (bytes:Nat) (ht:P.underlying t=some (.slice e)) (hi:P.info? e=some i) (hz:i.zero=some z)
  (q:i.size=size) (I:i.bytes=bytes) (T:z.cells.size=size) (hsz:0<size) (H:∀x,(enc x).length=size) (h1:∀x,∀u∈enc x,u.oneCell'=true)
  (v:Value) (L:List α) (C:Nat→Prop) (l:gQ enc e size v L C w) (ys:List α) (b c:Nat)
  (e':TypeId) (fz:Nat×Nat) (hb:w.heap[b]?=some (.cells (ys.flatMap enc).toArray e' fz)) (hn:L.length+ys.length≤2147483648) (E:bytes≤65536) :
  ∃G w',(cL #[t,t] ty #[v,.slice (some ⟨b,0,none⟩) ys.length c]).run P w=.ok G w'∧∃C',gQ enc e size G (L++ys) C' w'∧cF C C' w w':=by
 obtain⟨l,rfl⟩:=l
 have V:(ys.flatMap enc).length=ys.length*size:=qF H ys
 have D:∀j u,(ys.flatMap enc)[j]?=some u→w.cell? ((⟨b,0,none⟩:Addr).add j)=some u:=by
  intro j u hu
  have M:(⟨b,0,none⟩:Addr).add j=⟨b,j,none⟩:=by unfold pf;split <;> simp_all
  rw[M,nN hb (v:=u) (by simpa using hu)]
 have O:∀u∈ys.flatMap enc,u.oneCell'=true:=by
  intro u hu
  obtain⟨x,hx,hu⟩:=fm.1 hu
  exact h1 x u hu
 have J:(L.length+ys.length)*bytes≤140737488355328:=by
  have:(L.length+ys.length)*bytes≤2147483648*65536:=Nat.mul_le_mul (by omega) E
  omega
 obtain⟨G,w',hr,Z,Y,_⟩:=run_append_own (P:=P) w 0 t ty e i z size bytes ht hi hz q I T hsz v L.length (L.flatMap enc) l ⟨b,0,none⟩ ys.length c (ys.flatMap enc) V D O (by simp[maxLen];omega) J (cH _)
 have U:=zA (P:=P) w 0 t ty e i z size bytes ht hi hz q I v L.length (L.flatMap enc) l ⟨b,0,none⟩ ys.length c (ys.flatMap enc) V D O (by simp[maxLen];omega) J hr
 have W:Rw enc w' 0 e size G (L++ys):=by
  unfold Rw;rw[ah,dW];exact Z
 exact⟨G,w',hr,_,⟨W,rfl⟩,xI Y U (fun g hg=>(eX W g hg).2)⟩
end
theorem Dp (a b:ab):strCells (a++b)=strCells a++strCells b:=by
 unfold strCells;rw[ByteArray.data_append];simp
def jY (e:TypeId) (v:Value) (b:ab) (C:Nat→Prop) (w:World):Prop:=w.ownsRow 0 e 1 v b.size (strCells b)∧C=(fun k=>v.ownBlock=some k)
section
variable {e:TypeId} {v:Value} {b:ab} {C:Nat→Prop} {w w':World}
theorem jY.local (h:jY e v b C w) (hk:∀k,C k→w'.heap[k]?=w.heap[k]?):jY e v b C w':=by
 obtain⟨h1,rfl⟩:=h
 refine⟨⟨h1.1,?_⟩,rfl⟩
 rcases h1.2 with q | ⟨g,cap,l,rfl,h5,D,rest⟩
 ·exact .inl q
 ·exact .inr ⟨g,cap,l,rfl,h5,(hk g rfl).trans D,rest⟩
theorem jY.lt (h:jY e v b C w):∀k,C k→k<w.heap.size:=by
 obtain⟨h1,rfl⟩:=h
 exact fun k hk=>(eX h1 k hk).2
theorem jY.ext {D l:Nat→Prop} (h:jY e v b C w) (hx:cF D l w w') (hd:∀k,C k→¬ D k):jY e v b C w' :=
 h.local (fun k hk=>hx.1.keep k (h.lt k hk) (hd k hk))
theorem jY.nil:jY e (.slice none 0 0) ⟨#[]⟩ (fun _=>False) w:=⟨qz w 0 e 1,by funext k;simp[bS]⟩
theorem jY.shape (h:jY e v b C w) :
  (v=.slice none 0 0∧b=⟨#[]⟩∧C=fun _=>False)∨∃g cap l,v=.slice (some ⟨g,0,none⟩) b.size cap∧g<w.heap.size∧b.size≤cap∧cap≤maxLen∧C=(fun k=>k=g)∧w.heap[g]?=some (.cells l e (0,0)):=by
 obtain⟨h1,rfl⟩:=h
 rcases h1.2 with⟨rfl,h2⟩ | ⟨g,cap,l,rfl,h2,q,D,h5,_⟩
 ·exact .inl ⟨rfl,by apply _root_.ByteArray.ext;exact lD h2,by funext k;simp[bS]⟩
 ·exact .inr ⟨g,cap,l,rfl,(cU.1 q).1,D,h5,by funext k;simp[bS];exact⟨fun h=>h.symm,fun h=>h.symm⟩,q⟩
theorem jY.conv {P:Program} (h:jY e v b C w) (src dst:TypeId) (l:P.underlying src=some (.slice e)) (he:P.underlying e=some (.int .u8)) (hd:P.underlying dst=some .string) :
  (convert src dst v).run P w=.ok (.string b) w:=by
 obtain⟨h,-⟩:=h
 rcases h.2 with⟨rfl,h2⟩ | ⟨g,cap,E,rfl,_,_,_⟩
 ·have D:b=⟨#[]⟩:=by
   apply _root_.ByteArray.ext;exact lD h2
  rw[D];exact run_convert_nil_bytes w src dst e 0 l he hd
 ·have q:b.data.toList.length=b.size:=by rw[dp];rfl
  have:=run_convert_bytes_back (P:=P) w src dst e ⟨g,0,none⟩ cap b.data.toList l he hd (fun j hj=>by
   refine World.ownsRow.cells h rfl j _ ?_
   unfold strCells;rw[bV,aP hj];rfl)
  rw[q] at this
  rw[this]
end
section
variable {F:Fence} {n:Nat} {P:Program}
theorem Dq (w:World) (t u ty e:TypeId) (i:TypeInfo) (ht:P.underlying t=some (.slice e)) (hu:P.underlying u=some .string) (hi:P.info? e=some i) (hz:i.zero=some (.int .u8 0))
  (q:i.size=1) (E:i.bytes=1) (v:Value) (b:ab) (C:Nat→Prop) (l:jY e v b C w) (s:ab) (H:b.size+s.size≤140737488355328) :
  ∃D w',(cL #[t,u] ty #[v,.string s]).run P w=.ok D w'∧∃C',jY e D (b++s) C' w'∧cF C C' w w':=by
 obtain⟨l,rfl⟩:=l
 obtain⟨D,w',hr,M,J,_⟩:=run_append_own_string (P:=P) w 0 t u ty e i ht hu hi hz q E v b.size (strCells b) l s (by simp[maxLen];omega) H (cH _)
 have G:=II (P:=P) w 0 t u ty e i ht hu hi hz q E v b.size (strCells b) l s (by simp[maxLen];omega) H hr
 have I:w'.ownsRow 0 e 1 D (b++s).size (strCells (b++s)):=by rw[Dp,aK];exact M
 exact⟨D,w',hr,_,⟨I,rfl⟩,xI J G (fun g hg=>(eX I g hg).2)⟩
theorem zl5 (w:World) {ops:Array Oper} {rest:List Oper} {o:Oper} {a:Act} {Q:Exit→Act→World→Prop} (E:o.guard=none) (sl x:Operand) (t u:TypeId)
  (I:o.op=.call { callee:=.builtin .append,args:=#[sl,x],argTypes:=#[t,u] })
  (e:TypeId) (i:TypeInfo) (ht:P.underlying t=some (.slice e)) (hu:P.underlying u=some .string) (hi:P.info? e=some i) (hz:i.zero=some (.int .u8 0))
  (l:i.size=1) (G:i.bytes=1) (v:Value) (b:ab) (C:Nat→Prop) (H:a.eval sl=v) (q:jY e v b C w) (s:ab) (hx:a.eval x=.string s)
  (J:b.size+s.size≤140737488355328)
  (h:∀D w' C',jY e D (b++s) C' w'→cF C C' w w'→wpList P ops Q rest (a.put o.dst D) w'):wpList P ops Q (o::rest) a w:=by
 refine wpList_plain E fun K M=>?_
 obtain⟨D,w',hr,C',h2,O⟩:=Dq (P:=P) w t u o.type e i ht hu hi hz l G v b C q s J
 unfold Oper.wp execOp
 simp only[I,resolve,invoke,builtin,ak,io,ci,eI,aE,eu,H,hx,hr]
 exact M _ _ (h D w' C' h2 O)
theorem IK (w:World) (t ty e:TypeId) (i:TypeInfo) (ht:P.underlying t=some (.slice e)) (hi:P.info? e=some i) (hz:i.zero=some (.int .u8 0))
  (D:i.size=1) (H:i.bytes=1) (v:Value) (b:ab) (C:Nat→Prop) (q:jY e v b C w) (ys:ab) (l c:Nat) (Y:TypeId) (W:Nat×Nat)
  (V:w.heap[l]?=some (.cells (strCells ys).toArray Y W)) (Z:b.size+ys.size≤140737488355328) :
  ∃G w',(cL #[t,t] ty #[v,.slice (some ⟨l,0,none⟩) ys.size c]).run P w=.ok G w'∧∃C',jY e G (b++ys) C' w'∧cF C C' w w':=by
 obtain⟨q,rfl⟩:=q
 have M:(strCells ys).length=ys.size*1:=by rw[strCells_length];omega
 have E:∀j u,(strCells ys)[j]?=some u→w.cell? ((⟨l,0,none⟩:Addr).add j)=some u:=by
  intro j u hu
  have I:(⟨l,0,none⟩:Addr).add j=⟨l,j,none⟩:=by unfold pf;split <;> simp_all
  rw[I,nN V (v:=u) (by simpa using hu)]
 obtain⟨G,w',hr,U,T,_⟩:=run_append_own (P:=P) w 0 t ty e i (.int .u8 0) 1 1 ht hi hz D H rfl (by omega) v b.size (strCells b) q ⟨l,0,none⟩ ys.size c (strCells ys) M E (strCells_oneCell ys) (by simp[maxLen];omega) (by omega) (cH _)
 have J:=zA (P:=P) w 0 t ty e i (.int .u8 0) 1 1 ht hi hz D H v b.size (strCells b) q ⟨l,0,none⟩ ys.size c (strCells ys) M E (strCells_oneCell ys) (by simp[maxLen];omega) (by omega) hr
 have O:w'.ownsRow 0 e 1 G (b++ys).size (strCells (b++ys)):=by rw[Dp,aK];exact U
 exact⟨G,w',hr,_,⟨O,rfl⟩,xI T J (fun g hg=>(eX O g hg).2)⟩
def iR (o:Oper):List Nat:=(o.after.toList.filter (Region.binds .any)).map (·.on)
def fM (F:Fence) (n:Nat) (P:Program) (ops:Array Oper) (Q:Exit→Act→World→Prop) (Inv:(Nat→Prop)→Act→World→Prop):List Oper→Nat→Prop
 | [],_=>True
 | o::rest,i=>(∀D a w,¬ D i→(∀j∈iR o,D j)→Inv D a w→wpListIn F n P ops (_root_.Go.Exit.then (Inv (fun j=>D j∨j=i)) Q) [o] a w)∧fM F n P ops Q Inv rest (i+1)
theorem fM.get {ops:Array Oper} {Q:Exit→Act→World→Prop} {Inv:(Nat→Prop)→Act→World→Prop}:∀ {l:List Oper} {k:Nat},fM F n P ops Q Inv l k→∀i o,l[i]?=some o →
  (∀D a w,¬ D (k+i)→(∀j∈iR o,D j)→Inv D a w→wpListIn F n P ops (_root_.Go.Exit.then (Inv (fun j=>D j∨j=k+i)) Q) [o] a w)
 | [],_,_,i,o,ho=>by simp at ho
 | x::l,k,h,0,o,ho=>by simp at ho;subst ho;exact h.1
 | x::l,k,h,i+1,o,ho=>by
  have:=fM.get h.2 i o (by simpa using ho)
  rwa [show k+1+i=k+(i+1) by omega] at this
theorem pn {ops:Array Oper} {Q:Exit→Act→World→Prop} {o:Oper} {K E:Act→World→Prop} {a:Act} {w:World} (h:∀a w,K a w→E a w)
  (l:wpListIn F n P ops (_root_.Go.Exit.then K Q) [o] a w):wpListIn F n P ops (_root_.Go.Exit.then E Q) [o] a w:=by
 simp only[wpListIn] at l ⊢
 split
 ·rename_i D
  rw[ay D] at l
  unfold ob at l ⊢
  refine⟨l.1,?_⟩
  have l:=l.2
  generalize (o.semAt F.round a.eval).run P w=r at *
  cases r with
  | ok x w'=>
   cases x <;> simp only[fZ] at l ⊢ <;>
    first
     | exact h _ _ l
     | exact⟨l.1,kC l.2 (fun e q he=>by cases e <;> first | exact h _ _ he | exact he)⟩
     | exact⟨l.1,lE l.2 (fun _ _ he=>h _ _ he)⟩
     | exact⟨l.1,kD l.2 (fun e q he=>by cases e <;> first | exact h _ _ he | exact he)⟩
     | exact l
  | halt x w'=>cases x <;> simp only[fZ] at l ⊢ <;> exact l
 ·rename_i D
  rw[ar D] at l
  exact⟨l.1,h _ _ l.2⟩
theorem IL {ops:Array Oper} {Q:Exit→Act→World→Prop} {i:Nat} {o:Oper} {K:Act→World→Prop} {a:Act} {w:World} (E:ops[i]?=some o)
  (h:wpListIn F n P ops (_root_.Go.Exit.then K Q) [o] a w):wpOpIn F n P ops Q i K a w:=by
 unfold wpOpIn
 rw[E]
 simp only[wpListIn] at h
 show (if _ then _ else _)
 split
 ·rename_i D
  rw[ay D] at h
  have l:=h
  unfold ob at l ⊢
  refine⟨l.1,?_⟩
  have l:=l.2
  generalize (o.semAt F.round a.eval).run P w=r at *
  cases r with
  | ok x w'=>
   cases x <;> simp only[fZ] at l ⊢ <;>
    first
     | exact l
     | exact⟨l.1,kC l.2 (fun e q he=>by cases e <;> exact he)⟩
     | exact⟨l.1,lE l.2 (fun _ _ he=>he)⟩
     | exact⟨l.1,kD l.2 (fun e q he=>by cases e <;> exact he)⟩
  | halt x w'=>cases x <;> simp only[fZ] at l ⊢ <;> exact l
 ·rename_i D
  rw[ar D] at h
  exact h
theorem IM (m j:Nat):(eW m false).getD j false=false:=by
 simp only[eR];split <;> simp
theorem Dt:∀ (l:List Bool) (i:Nat),l[i]?=some false→((l.set i true).filter id).length=(l.filter id).length+1
 | [],i,h=>by simp at h
 | x::l,0,h=>by simp at h;subst h;simp
 | x::l,i+1,h=>by
  have:=Dt l i (by simpa using h)
  cases x <;> simp[this]
theorem IP (A:Array Bool) (i:Nat) (l:i<A.size) (h:A.getInternal i l=false):((A.setIfInBounds i true).toList.filter id).length=(A.toList.filter id).length+1:=by
 rw[Array.toList_setIfInBounds]
 refine Dt _ _ ?_
 have q:A[i]=false:=h
 simp[l,q]
theorem IQ {ops:Array Oper} {Q:Exit→Act→World→Prop} {Inv:(Nat→Prop)→Act→World→Prop}
  (I:(ops.toList.zipIdx.all fun (o,i)=>(iR o).all fun j=>decide (j<i))=true) (Z:fM F n P ops Q Inv ops.toList 0)
  (G:∀D a w,(∀i<ops.size,D i)→Inv D a w→Q .normal a w):∀ (zbH:Nat) (l:Array Bool) (a:Act) (w:World),
  l.size=ops.size→(ops.size≤zbH+(l.toList.filter id).length)→Inv (fun j=>l.getD j false=true) a w→wpAnyIn F n P .any ops Q zbH l a w:=by
 have T:∀ (l:Array Bool),l.size=ops.size→Region.ready .any ops l=[]→∀i<ops.size,l.getD i false=true:=by
  intro l hsz hr i
  induction i using Nat.strongRecOn with
  | _ i Y=>
   intro hi
   rcases hb:l.getD i false with _ | _
   ·exfalso
    have a3:l.getD i true=false:=by
     have I:i<l.size:=by omega
     simp only[eR,I,dif_pos] at hb ⊢
     exact hb
    have:i∈Region.ready .any ops l:=by
     refine mem_ready.2 ⟨a3,ops[i],ej hi,fun e he a2=>?_⟩
     have h1:=bz.1 I (ops[i],i) (by
      rw[List.mem_zipIdx_iff_getElem?];simp[ej hi])
     have h2:=bz.1 h1 e.on (by
      unfold iR
      exact aW.2 ⟨e,cp.2 ⟨by simpa using he,a2⟩,rfl⟩)
     have W:e.on<i:=by simpa using h2
     exact Y e.on W (by omega)
    rw[hr] at this
    cases this
   ·rfl
 intro zbH
 induction zbH with
 | zero=>
  intro l a w hsz hf hi
  have ao:(l.toList.filter id).length=l.toList.length:=by
   have:=List.length_filter_le id l.toList
   simp only[dp] at *
   omega
  have hall:∀b∈l.toList,id b=true:=List.length_filter_eq_length_iff.1 ao
  have q:∀i<ops.size,l.getD i false=true:=by
   intro i hi
   have E:i<l.size:=by omega
   simp only[eR,E,dif_pos]
   exact hall _ (by simp)
  refine⟨?_,G _ a w q hi⟩
  refine List.eq_nil_iff_forall_not_mem.2 fun i hm=>?_
  have:=(mem_ready.1 hm).1
  have h2:i<ops.size:=by
   obtain⟨o,O,_⟩:=(mem_ready.1 hm).2
   exact (cU.1 O).1
  have W:=q i h2
  have E:i<l.size:=by omega
  simp only[eR,E,dif_pos] at this W
  have h4:l[i]=false:=this
  have h5:l[i]=true:=W
  rw[h4] at h5;cases h5
 | succ zbH Y=>
  intro l a w hsz hf hi
  refine⟨fun hr=>G _ a w (T l hsz hr) hi,fun i hm=>?_⟩
  obtain⟨J,o,O,V⟩:=mem_ready.1 hm
  have a4:i<ops.size:=(cU.1 O).1
  have E:i<l.size:=by omega
  have ag:¬ l.getD i false=true:=by
   simp only[eR,E,dif_pos] at J ⊢
   show ¬ l[i]=true
   have h4:l[i]=false:=J
   rw[h4];simp
  have H:=Z.get i o (by simpa using O) (fun j=>l.getD j false=true) a w (by simpa using ag) (fun j hj=>by
   obtain⟨e,he,rfl⟩:=aW.1 (show j∈((o.after.toList.filter (Region.binds .any)).map (·.on)) from hj)
   obtain⟨a1,a0⟩:=cp.1 he
   exact V e (by simpa using a1) a0) hi
  refine wpOpIn_mono (fun a' w' U=>?_) (IL O H)
  refine Y _ a' w' (by simp[hsz]) ?_ ?_
  ·have h1:=IP l i E (by simpa only[eR,E,dif_pos] using J)
   omega
  ·have he:(fun j=>(l.setIfInBounds i true).getD j false=true)=(fun j=>l.getD j false=true∨j=0+i):=by
    funext j
    apply propext
    by_cases M:j=i
    ·subst M
     simp[eR,E]
    ·have aw:i≠j:=fun h=>M h.symm
     simp only[cg,M,or_false]
     rw[getD_set_ne false aw]
   rw[he]
   exact U
theorem zB {id:Nat} {ops:Array Oper} {Q:Exit→Act→World→Prop} {a:Act} {w:World} (hm:P.follows .mixedOrders=true)
  (E:(ops.toList.zipIdx.all fun (o,i)=>(iR o).all fun j=>decide (j<i))=true)
  (Inv:(Nat→Prop)→Act→World→Prop) (h0:Inv (fun _=>False) a w.drew) (q:fM F n P ops Q Inv ops.toList 0)
  (l:∀D a w,(∀i<ops.size,D i)→Inv D a w→Q .normal a w):(Code.region id ops true).wpIn F n P Q a w:=by
 refine wpIn_region_any hm (IQ E q l ops.size _ a _ (by simp) (by omega) ?_)
 have he:(fun j=>(eW ops.size false).getD j false=true)=(fun _=>False):=by
  funext j
  rw[IM];simp
 rw[he]
 exact h0
def Clo (ops:Array Oper) (D:Nat→Prop):Prop:=∀i o,ops[i]?=some o→D i→∀j∈iR o,D j
theorem Clo.add {ops:Array Oper} {D:Nat→Prop} {i:Nat} {o:Oper} (h:Clo ops D) (E:ops[i]?=some o) (hd:∀j∈iR o,D j):Clo ops (fun j=>D j∨j=i):=by
 intro k q l hk j hj
 rcases hk with hk | rfl
 ·exact .inl (h k q l hk j hj)
 ·rw[E] at l;cases l;exact .inl (hd j hj)
end
structure Asn where
 P:(Nat→Prop)→World→Prop
 lt:∀ {C w},P C w→∀k,C k→k<w.heap.size
 loc:∀ {C w w'},P C w→w.heap.size≤w'.heap.size→(∀k,C k→w'.heap[k]?=w.heap[k]?)→P C w'
def cn:Asn:=⟨fun C _=>∀k,¬ C k,fun h k hk=>absurd hk (h k),fun h _ _=>h⟩
def obj (b:Nat) (o:Obj):Asn :=
 ⟨fun C w=>(∀k,C k↔k=b)∧w.heap[b]?=some o,fun h k hk=>(h.1 k).1 hk ▸ ki h.2,fun h _ hk=>⟨h.1,(hk b ((h.1 b).2 rfl)).trans h.2⟩⟩
def cells (b:Nat) (l:List Value) (t:TypeId):Asn:=obj b (.cells l.toArray t (0,0))
def zAj (p:Prop):Asn:=⟨fun C _=>(∀k,¬ C k)∧p,fun h k hk=>absurd hk (h.1 k),fun h _ _=>h⟩
def aN:List Asn→(Nat→Prop)→World→Prop
 | [],C,_=>∀k,¬ C k
 | A::L,C,w=>∃C1 C2,A.P C1 w∧aN L C2 w∧(∀k,C1 k→¬ C2 k)∧(∀k,C k↔C1 k∨C2 k)
theorem aN.lt:∀ {L:List Asn} {C:Nat→Prop} {w:World},aN L C w→∀k,C k→k<w.heap.size
 | [],C,w,h,k,hk=>absurd hk (h k)
 | A::L,C,w,⟨C1,C2,h1,h2,_,h4⟩,k,hk=>by
  rcases (h4 k).1 hk with h | h
  ·exact A.lt h1 k h
  ·exact aN.lt h2 k h
theorem aN.loc:∀ {L:List Asn} {C:Nat→Prop} {w w':World},aN L C w→w.heap.size≤w'.heap.size→(∀k,C k→w'.heap[k]?=w.heap[k]?)→aN L C w'
 | [],C,w,w',h,_,_=>h
 | A::L,C,w,w',⟨C1,C2,h1,h2,h3,h4⟩,hs,hk=>
  ⟨C1,C2,A.loc h1 hs (fun k h=>hk k ((h4 k).2 (.inl h))),aN.loc h2 hs (fun k h=>hk k ((h4 k).2 (.inr h))),h3,h4⟩
theorem aN.congr {L:List Asn} {C C':Nat→Prop} {w:World} (h:aN L C w) (hc:∀k,C' k↔C k):aN L C' w:=by
 have:C'=C:=funext fun k=>propext (hc k)
 rw[this];exact h
def zgL (L:List Asn):Asn:=⟨aN L,aN.lt,aN.loc⟩
def ap (L As R:List Asn):Prop:=∀C w,aN L C w→∃C1 C2,aN As C1 w∧aN R C2 w∧(∀k,C1 k→¬ C2 k)∧(∀k,C k↔C1 k∨C2 k)
theorem aN.take:∀ {L:List Asn} {k:Nat} {A:Asn} {C:Nat→Prop} {w:World},L[k]?=some A→aN L C w →
  ∃C1 C2,A.P C1 w∧aN (L.set k cn) C2 w∧(∀k,C1 k→¬ C2 k)∧(∀k,C k↔C1 k∨C2 k)
 | B::L,0,A,C,w,hk,⟨C1,C2,h1,h2,h3,h4⟩=>by
  simp at hk;subst hk
  exact⟨C1,C2,h1,⟨fun _=>False,C2,fun _ h=>h,h2,fun _ h=>h.elim,fun k=>by simp⟩,h3,h4⟩
 | B::L,k+1,A,C,w,hk,⟨C1,C2,h1,h2,h3,h4⟩=>by
  obtain⟨G,l,E,D,q,g4⟩:=aN.take (L:=L) (k:=k) (by simpa using hk) h2
  refine⟨G,fun j=>C1 j∨l j,E,⟨C1,l,h1,D,fun j h h'=>h3 j h ((g4 j).2 (.inr h')),fun j=>_root_.Iff.rfl⟩,fun j h h'=>?_,fun j=>?_⟩
  ·rcases h' with h' | h'
   ·exact h3 j h' ((g4 j).2 (.inl h))
   ·exact q j h h'
  ·rw[h4,g4];exact or_left_comm
theorem aN.put:∀ {L:List Asn} {k:Nat} {A:Asn} {C1 C2 C:Nat→Prop} {w:World},k<L.length→A.P C1 w→aN (L.set k cn) C2 w→(∀k,C1 k→¬ C2 k)→(∀k,C k↔C1 k∨C2 k)→aN (L.set k A) C w
 | B::L,0,A,C1,C2,C,w,hk,hA,⟨D1,D2,g1,g2,g3,g4⟩,h3,h4=>by
  have e:∀k,C2 k↔D2 k:=fun k=>by rw[g4];constructor;exact fun h=>h.resolve_left (g1 k);exact .inr
  exact⟨C1,C2,hA,g2.congr e,h3,h4⟩
 | B::L,k+1,A,C1,C2,C,w,hk,hA,⟨D1,D2,g1,g2,g3,g4⟩,h3,h4=>by
  refine⟨D1,fun j=>C1 j∨D2 j,g1,aN.put (L:=L) (k:=k) (by simpa using hk) hA g2 (fun j h h'=>h3 j h ((g4 j).2 (.inr h'))) (fun j=>_root_.Iff.rfl),fun j h h'=>?_,fun j=>?_⟩
  ·rcases h' with h' | h'
   ·exact h3 j h' ((g4 j).2 (.inl h))
   ·exact g3 j h h'
  ·rw[h4,g4];exact or_left_comm
theorem ap.nil {L:List Asn}:ap L [] L:=fun C w h=>⟨fun _=>False,C,fun _ h=>h,h,fun _ h=>h.elim,fun k=>by simp⟩
theorem ap.cons {L As R:List Asn} {k:Nat} {A:Asn} (hk:L[k]?=some A) (h:ap (L.set k cn) As R):ap L (A::As) R:=by
 intro C w hL
 obtain⟨C1,C2,h1,h2,l,D⟩:=aN.take hk hL
 obtain⟨q,I,H,G,E,g4⟩:=h C2 w h2
 refine⟨fun j=>C1 j∨q j,I,⟨C1,q,h1,H,fun j h h'=>l j h ((g4 j).2 (.inl h')),fun j=>_root_.Iff.rfl⟩,G,fun j h h'=>?_,fun j=>?_⟩
 ·rcases h with h | h
  ·exact l j h ((g4 j).2 (.inr h'))
  ·exact E j h h'
 ·rw[D,g4,or_assoc]
theorem IR {L As Bs R:List Asn} {k:Nat} (hk:L[k]?=some (zgL As)) (h:ap (L.set k cn) Bs R):ap L (As++Bs) R:=by
 intro C w hL
 obtain⟨C1,C2,h1,h2,l,M⟩:=aN.take hk hL
 obtain⟨I,H,E,D,q,g4⟩:=h C2 w h2
 have G:∀ {A B:List Asn} {C1 C2:Nat→Prop} {w:World},aN A C1 w→aN B C2 w→(∀k,C1 k→¬ C2 k)→aN (A++B) (fun k=>C1 k∨C2 k) w:=by
  intro A
  induction A with
  | nil=>intro B C1 C2 w h1 h2 l;exact h2.congr (fun k=>⟨fun h=>h.resolve_left (h1 k),.inr⟩)
  | cons A L J=>
   rintro B C1 C2 w ⟨I,H,E,D,q,g4⟩ h2 l
   exact⟨I,fun k=>H k∨C2 k,E,J D h2 (fun k h=>l k ((g4 k).2 (.inr h))),fun k h h'=>h'.elim (q k h) (l k ((g4 k).2 (.inl h))),fun k=>by show C1 k∨C2 k↔_;rw[g4,or_assoc]⟩
 refine⟨fun j=>C1 j∨I j,H,G h1 E (fun j h h'=>l j h ((g4 j).2 (.inl h'))),D,fun j h h'=>?_,fun j=>?_⟩
 ·rcases h with h | h
  ·exact l j h ((g4 j).2 (.inr h'))
  ·exact q j h h'
 ·rw[M,g4,or_assoc]
theorem lR {L As:List Asn} {k:Nat} (hk:L[k]?=some (zgL As)):ap L As (L.set k cn):=by
 have:=IR hk ap.nil
 rwa [aQ] at this
theorem ap.consS {L As Bs q R:List Asn} (h1:ap L As q) (h2:ap q Bs R):ap L (zgL As::Bs) R:=by
 intro C w hL
 obtain⟨C1,C2,a1,J,l,I⟩:=h1 C w hL
 obtain⟨D,M,H,G,E,g4⟩:=h2 C2 w J
 refine⟨fun j=>C1 j∨D j,M,⟨C1,D,a1,H,fun j h h'=>l j h ((g4 j).2 (.inl h')),fun j=>_root_.Iff.rfl⟩,G,fun j h h'=>?_,fun j=>?_⟩
 ·rcases h with h | h
  ·exact l j h ((g4 j).2 (.inr h'))
  ·exact E j h h'
 ·rw[I,g4,or_assoc]
def xJ (L:List Asn):List Nat→List Asn
 | []=>L
 | k::ks=>xJ (L.set k cn) ks
def oX (L:List Asn):List Nat→Option (List Asn)
 | []=>some []
 | k::ks=>match L[k]?,oX L ks with
  | some A,some As=>some (A::As)
  | _,_=>none
def tE:List Nat→Bool
 | []=>true
 | k::ks=>!ks.contains k&&tE ks
theorem zC {L:List Asn} {k:Nat} {B:Asn}:∀ {ks:List Nat},ks.contains k=false→oX (L.set k B) ks=oX L ks
 | [],_=>rfl
 | j::ks,h=>by
  simp only[fV,cd] at h
  have l:k≠j:=by have:=h.1;simp at this;exact this
  simp only[oX,zC (ks:=ks) h.2,pg l]
theorem aH {L As:List Asn}:∀ (ks:List Nat),oX L ks=some As→tE ks=true→ap L As (xJ L ks):=by
 intro ks
 induction ks generalizing L As with
 | nil=>intro h _;simp only[oX,fC] at h;subst h;exact ap.nil
 | cons k ks l=>
  intro h hd
  simp only[tE,aR,cN] at hd
  simp only[oX] at h
  split at h
  ·rename_i A q h1 h2
   cases h
   exact ap.cons h1 (l (by rw[zC hd.1];exact h2) hd.2)
  ·cases h
theorem aN.append:∀ {A B:List Asn} {C1 C2:Nat→Prop} {w:World},aN A C1 w→aN B C2 w→(∀k,C1 k→¬ C2 k)→aN (A++B) (fun k=>C1 k∨C2 k) w
 | [],B,C1,C2,w,h1,h2,h3=>h2.congr (fun k=>⟨fun h=>h.resolve_left (h1 k),.inr⟩)
 | A::L,B,C1,C2,w,⟨D1,D2,g1,g2,g3,g4⟩,h2,h3=>
  ⟨D1,fun k=>D2 k∨C2 k,g1,aN.append g2 h2 (fun k h=>h3 k ((g4 k).2 (.inr h))),fun k h h'=>h'.elim (g3 k h) (h3 k ((g4 k).2 (.inl h))),fun k=>by show C1 k∨C2 k↔_;rw[g4,or_assoc]⟩
def Holds (w0:World) (K:Nat→Prop) (L:List Asn) (w:World):Prop:=∃C,aN L C w∧cF K C w0 w
section
variable {w0 w w':World} {K:Nat→Prop} {L As R:List Asn} {A B:Asn} {k:Nat}
theorem Holds.split (h:Holds w0 K L w) (G:ap L As R):∃C1,aN As C1 w∧∀Bs l w',cF C1 l w w'→aN Bs l w'→Holds w0 K (R++Bs) w':=by
 obtain⟨C,hL,hx⟩:=h
 obtain⟨C1,C2,h1,h2,E,q⟩:=G C w hL
 refine⟨C1,h1,fun Bs l w' he hB=>?_⟩
 have hsz:=he.1.size
 have D:aN R C2 w':=h2.loc hsz (fun k hk=>he.1.keep k (h2.lt k hk) (fun h=>E k h hk))
 have hd:∀k,C2 k→¬ l k:=fun k hk h'=>by
  rcases he.2 k h' with h | h
  ·exact E k h hk
  ·have:=h2.lt k hk;omega
 refine⟨_,D.append hB hd,hx.1.trans' he.1 (fun i hi hc=>?_),fun k hk=>?_⟩
 ·rcases hx.2 i ((q i).2 (.inl hc)) with h | h
  ·exact h
  ·omega
 ·have:=hx.1.size
  rcases hk with hk | hk
  ·rcases hx.2 k ((q k).2 (.inr hk)) with h | h
   ·exact .inl h
   ·exact .inr (by omega)
  ·rcases he.2 k hk with h | h
   ·rcases hx.2 k ((q k).2 (.inl h)) with h | h
    ·exact .inl h
    ·exact .inr (by omega)
   ·exact .inr (by omega)
theorem Holds.splitX (h:Holds w0 K L w) (G:ap L As R):∃C1,cF K C1 w0 w∧aN As C1 w∧∀Bs l w',cF C1 l w w'→aN Bs l w'→Holds w0 K (R++Bs) w':=by
 obtain⟨C,hL,hx⟩:=h
 obtain⟨C1,C2,h1,h2,E,q⟩:=G C w hL
 refine⟨C1,⟨hx.1,fun k hk=>hx.2 k ((q k).2 (.inl hk))⟩,h1,fun Bs l w' he hB=>?_⟩
 have hsz:=he.1.size
 have D:aN R C2 w':=h2.loc hsz (fun k hk=>he.1.keep k (h2.lt k hk) (fun h=>E k h hk))
 have hd:∀k,C2 k→¬ l k:=fun k hk h'=>by
  rcases he.2 k h' with h | h
  ·exact E k h hk
  ·have:=h2.lt k hk;omega
 refine⟨_,D.append hB hd,hx.1.trans' he.1 (fun i hi hc=>?_),fun k hk=>?_⟩
 ·rcases hx.2 i ((q i).2 (.inl hc)) with h | h
  ·exact h
  ·omega
 ·have:=hx.1.size
  rcases hk with hk | hk
  ·rcases hx.2 k ((q k).2 (.inr hk)) with h | h
   ·exact .inl h
   ·exact .inr (by omega)
  ·rcases he.2 k hk with h | h
   ·rcases hx.2 k ((q k).2 (.inl h)) with h | h
    ·exact .inl h
    ·exact .inr (by omega)
   ·exact .inr (by omega)
theorem Holds.focus (h:Holds w0 K L w) (hk:L[k]?=some A):∃C1,A.P C1 w∧∀B l w',cF C1 l w w'→B.P l w'→Holds w0 K (L.set k B) w':=by
 obtain⟨C,hL,hx⟩:=h
 obtain⟨C1,C2,h1,h2,G,D⟩:=aN.take hk hL
 refine⟨C1,h1,fun B l w' he hB=>?_⟩
 have q:k<L.length:=(au.1 hk).1
 have hsz:=he.1.size
 have E:aN (L.set k cn) C2 w':=h2.loc hsz (fun k hk=>he.1.keep k (h2.lt k hk) (fun h=>G k h hk))
 have hd:∀k,l k→¬ C2 k:=fun k h' hk=>by
  rcases he.2 k h' with h | h
  ·exact G k h hk
  ·have:=h2.lt k hk;omega
 refine⟨_,aN.put q hB E hd (fun k=>_root_.Iff.rfl),hx.1.trans' he.1 (fun i hi hc=>?_),fun k hk=>?_⟩
 ·rcases hx.2 i ((D i).2 (.inl hc)) with h | h
  ·exact h
  ·omega
 ·have:=hx.1.size
  rcases hk with hk | hk
  ·rcases he.2 k hk with h | h
   ·rcases hx.2 k ((D k).2 (.inl h)) with h | h
    ·exact .inl h
    ·exact .inr (by omega)
   ·exact .inr (by omega)
  ·rcases hx.2 k ((D k).2 (.inr hk)) with h | h
   ·exact .inl h
   ·exact .inr (by omega)
theorem Holds.obj {b:Nat} {o:Obj} (h:Holds w0 K L w) (hk:L[k]?=some (obj b o)):w.heap[b]?=some o:=by
 obtain⟨C1,h1,_⟩:=h.focus hk;exact h1.2
theorem Holds.cell {b j:Nat} {l:List Value} {t:TypeId} {v:Value} (h:Holds w0 K L w) (hk:L[k]?=some (cells b l t)) (hj:l[j]?=some v):w.cell? ⟨b,j,none⟩=some v :=
 nN (h.obj hk) (by simpa using hj)
theorem Holds.drew (h:Holds w0 K L w):Holds w0 K L w.drew:=by
 obtain⟨C,h1,h2⟩:=h
 exact⟨C,h1.loc (bJ _) (fun _ _=>rfl),h2.drew⟩
theorem Holds.grow {Bs:List Asn} {C':Nat→Prop} (h:Holds w0 K L w) (hx:cF (fun _=>False) C' w w') (hB:aN Bs C' w'):Holds w0 K (L++Bs) w':=by
 obtain⟨C1,h1,h2⟩:=h.split (ap.nil (L:=L))
 exact h2 Bs C' w' (by
  have:C1=fun _=>False:=funext fun k=>propext ⟨fun h=>absurd h (h1 k),fun h=>h.elim⟩
  rw[this];exact hx) hB
theorem aN.one {C:Nat→Prop} (h:A.P C w):aN [A] C w:=⟨C,fun _=>False,h,fun _ h=>h,fun _ _ h=>h,fun k=>by simp⟩
theorem Holds.alloc (h:Holds w0 K L w) (o:Obj):Holds w0 K (L++[Go.Proofs.YtifpjbgnikjglaaGreatDoor.obj w.heap.size o]) (w.alloc o):=by
 refine h.grow (C':=fun k=>k=w.heap.size) ⟨(Fr.refl _ _).alloc _,fun k hk=>.inr ⟨by omega,by simp;omega⟩⟩ (aN.one ⟨fun k=>_root_.Iff.rfl,eK w o⟩)
theorem Holds.setCell {b j:Nat} {l l':List Value} {t:TypeId} {v:Value} (h:Holds w0 K L w) (hk:L[k]?=some (cells b l t)) (q:l.set j v=l'):Holds w0 K (L.set k (cells b l' t)) (w.setCell ⟨b,j,none⟩ v):=by
 obtain⟨C1,h1,h2⟩:=h.focus hk
 refine h2 _ C1 _ ((cF.refl _ _).setCell ((h1.1 b).2 rfl) v) ⟨h1.1,?_⟩
 subst q
 have:=h1.2
 simp[lq,this,Array.getElem?_modify]
theorem Holds.weaken {L':List Asn} (h:Holds w0 K L w) (l:ap L L' R):Holds w0 K L' w:=by
 obtain⟨C,hL,hx⟩:=h
 obtain⟨C1,C2,h1,h2,D,q⟩:=l C w hL
 exact⟨C1,h1,hx.1,fun k hk=>hx.2 k ((q k).2 (.inl hk))⟩
def oY (A B:Asn):Prop:=∀C w,A.P C w→B.P C w
theorem Holds.ent (h:Holds w0 K L w) (hk:L[k]?=some A) (he:oY A B):Holds w0 K (L.set k B) w:=by
 obtain⟨C1,h1,h2⟩:=h.focus hk
 exact h2 B C1 w (cF.refl _ _) (he _ _ h1)
theorem Holds.rewE {l:Asn} (h:Holds w0 K L w) (hk:L[k]?=some A) (he:A=l):Holds w0 K (L.set k l) w:=by
 subst he
 obtain⟨C1,h1,h2⟩:=h.focus hk
 exact h2 A C1 w (cF.refl _ _) h1
theorem Holds.starCons {j:Nat} {X:List Asn} (h:Holds w0 K L w) (hk:L[k]?=some A) (hj:L[j]?=some (zgL X)) (q:k≠j):Holds w0 K ((L.set k cn).set j (zgL (A::X))) w:=by
 obtain⟨C,hL,hx⟩:=h
 obtain⟨C1,C2,h1,h2,D,G⟩:=aN.take hk hL
 have l:(L.set k cn)[j]?=some (zgL X):=by rw[pg q];exact hj
 obtain⟨E,M,J,I,H,g4⟩:=aN.take l h2
 refine⟨C,aN.put (C1:=fun i=>C1 i∨E i) (C2:=M) (au.1 l).1 ⟨C1,E,h1,J,fun i a b=>D i a ((g4 i).2 (.inl b)),fun i=>_root_.Iff.rfl⟩ I (fun i a b=>?_) (fun i=>?_),hx⟩
 ·rcases a with a | a
  ·exact D i a ((g4 i).2 (.inr b))
  ·exact H i a b
 ·rw[G,g4,or_assoc]
theorem Holds.star0 (h:Holds w0 K L w):Holds w0 K (L++[zgL []]) w:=by
 obtain⟨C,hL,hx⟩:=h
 exact⟨_,hL.append (aN.one (A:=zgL []) (C:=fun _=>False) (fun _ h=>h)) (fun _ _ h=>h),hx.1,fun k hk=>hx.2 k (hk.resolve_right (fun h=>h))⟩
end
def At (N:Nat) (dfs:List Deferred) (σ:List (Nat×Value)) (a:Act):Prop:=a.tmps.size=N∧a.defers=dfs∧∀t v,σ.lookup t=some v→a.tmps.getD t undef=v
def ev (σ:List (Nat×Value)):Operand→Option Value
 | .tmp t=>σ.lookup t
 | .const v=>some v
 | .func f=>some (.func (.func f) #[] #[])
 | .global _=>none
theorem At.ev {N:Nat} {dfs:List Deferred} {σ:List (Nat×Value)} {a:Act} (h:At N dfs σ a) {x:Operand} {v:Value} (hx:ev σ x=some v):a.eval x=v:=by
 cases x <;> simp[Go.Proofs.YtifpjbgnikjglaaGreatDoor.ev] at hx
 ·exact h.2.2 _ _ hx
 ·exact hx
 ·exact hx
theorem At.put {N:Nat} {dfs:List Deferred} {σ:List (Nat×Value)} {a:Act} (h:At N dfs σ a) {d:Nat} (hd:d<N) (v:Value):At N dfs ((d,v)::σ) (a.put (some d) v):=by
 refine⟨by simp[Act.put,h.1],h.2.1,fun t u ht=>?_⟩
 simp only[dD] at ht
 split at ht
 ·rename_i e
  have:t=d:=by simpa using e
  subst this;cases ht
  have h1:=h.1
  simp[Act.put,eR,h1,hd]
 ·rename_i e
  have:t≠d:=by simpa using e
  rw[← h.2.2 t u ht]
  have D:¬ d=t:=fun h=>this h.symm
  show (a.tmps.setIfInBounds d v).getD t undef=_
  by_cases q:t<a.tmps.size
  ·have l:t<(a.tmps.setIfInBounds d v).size:=by simpa using q
   unfold eR
   rw[dif_pos l,dif_pos q]
   show (a.tmps.setIfInBounds d v)[t]=a.tmps[t]
   exact Array.getElem_setIfInBounds_ne q D
  ·have l:¬ t<(a.tmps.setIfInBounds d v).size:=by simpa using q
   unfold eR
   rw[dif_neg l,dif_neg q]
def po (σ σ':List (Nat×Value)):Prop:=∀a N dfs,At N dfs σ a→At N dfs σ' a
theorem qG {σ:List (Nat×Value)}:po σ []:=fun a N dfs h=>⟨h.1,h.2.1,fun t v ht=>by cases ht⟩
theorem zD {σ σ':List (Nat×Value)} {t:Nat} {v:Value} (h:σ.lookup t=some v) (q:po σ σ'):po σ ((t,v)::σ'):=fun a N dfs l=>by
 refine⟨l.1,l.2.1,fun s u hu=>?_⟩
 simp only[dD] at hu
 split at hu
 ·rename_i e
  have:s=t:=by simpa using e
  subst this;cases hu
  exact l.2.2 _ _ h
 ·exact (q a N dfs l).2.2 s u hu
theorem Du {σ:List (Nat×Value)}:po σ σ:=fun a N dfs h=>h
class br (F:Fence):Prop where
 fn:∀f,F.fn f
 depth:F.depth=none
 calls:∀ {P:Program} {f:FuncId} {args:Array Value} {w:World} {R:Ending→World→Prop},Calls P f args w R→CallsIn F 0 P f args w R
 rounds:∀ {P:Program} {l:Nat} {f:FuncId} {tmps:Array Value} {assign body:Code} {w:World} {R:Ending→World→Prop},RoundIn bn 0 P l f tmps assign body w R→RoundIn F 0 P l f tmps assign body w R
instance:br bn:=⟨fun _=>trivial,rfl,fun h=>callsIn_wide.2 h,fun h=>h⟩
instance (l:Nat):br (Fence.wide.inRound l):=⟨fun _=>trivial,rfl,fun h=>CallsIn.inRound l (callsIn_wide.2 h),fun h=>h⟩
def TO (F:Fence) (P:Program) (w0:World) (K:Nat→Prop) (N:Nat) (dfs:List Deferred) (ops:Array Oper) (Q:Exit→Act→World→Prop) (rest:List Oper) (σ:List (Nat×Value)) (L:List Asn):Prop :=
 ∀a w,At N dfs σ a→Holds w0 K L w→wpListIn F 0 P ops Q rest a w
def TC (F:Fence) (P:Program) (w0:World) (K:Nat→Prop) (N:Nat) (dfs:List Deferred) (Q:Exit→Act→World→Prop) (c:Code) (σ:List (Nat×Value)) (L:List Asn):Prop :=
 ∀a w,At N dfs σ a→Holds w0 K L w→c.wpIn F 0 P Q a w
def TX (w0:World) (K:Nat→Prop) (N:Nat) (dfs:List Deferred) (Q:Exit→Act→World→Prop) (e:Exit) (σ:List (Nat×Value)) (L:List Asn):Prop :=
 ∀a w,At N dfs σ a→Holds w0 K L w→Q e a w
def St (w0:World) (K:Nat→Prop) (N:Nat) (dfs:List Deferred) (σ:List (Nat×Value)) (L:List Asn) (a:Act) (w:World):Prop:=At N dfs σ a∧Holds w0 K L w
def gd (ops:Array Oper) (σ:List (Nat×Value)):Option (Nat×Bool)→Option Bool
 | none=>some true
 | some (j,b)=>match (ops[j]?).bind (·.dst) with
  | some t=>match σ.lookup t with
   | some (.bool c)=>some (c==b)
   | some (.tuple _)=>some false
   | _=>none
  | none=>none
def kj (P:Program) (t:TypeId):Prop:=∃d,P.underlying t=some d∧d.isRow=false
def nO (P:Program) (t:TypeId) (n:Nat):Prop:=∃d,P.underlying t=some d∧d.isRow=true∧(P.info? t).map (·.size)=some n
def bD (P:Program) (t:TypeId) (n:Nat):Prop:=(P.info? t).map (·.size)=some n
def bZ (P:Program) (t:TypeId) (cs:List Value):Prop:=(P.info? t).bind (fun i=>i.zero.map (·.cells.toList))=some cs
def jx (P:Program) (t:TypeId) (f off:Nat):Prop:=∃fs fd,P.underlying t=some (.struct fs)∧fs[f]?=some fd∧fd.offset=off∧(P.info? fd.type).map (fun i=>i.size != 0)=some true
theorem bD.some {P:Program} {t:TypeId} {n:Nat} (h:bD P t n):∃i,P.info? t=some i∧i.size=n:=by
 unfold bD at h;cases hi:P.info? t with
 | none=>simp[hi] at h
 | some i=>exact⟨i,rfl,by simpa [hi] using h⟩
theorem bZ.some {P:Program} {t:TypeId} {cs:List Value} (h:bZ P t cs):∃i z,P.info? t=some i∧i.zero=some z∧z.cells.toList=cs:=by
 unfold bZ at h;cases hi:P.info? t with
 | none=>simp[hi] at h
 | some i=>
  cases hz:i.zero with
  | none=>simp[hi,hz] at h
  | some z=>exact⟨i,z,rfl,hz,by simpa [hi,hz] using h⟩
section
variable {F:Fence} {P:Program} {w0:World} {K:Nat→Prop} {N:Nat} {dfs:List Deferred} {ops:Array Oper} {Q:Exit→Act→World→Prop} {rest:List Oper} {σ σ':List (Nat×Value)} {L L' R As Bs:List Asn} {o:Oper} {v:Value}
 {d:Nat} {t:TypeId} {op:Op} {ty:TypeId} {pos:String} {aft:Array Edge} {g:Option (Nat×Bool)} {x y z:Operand} {c c1 c2:Code} {k:Nat} {A B:Asn}
theorem Dv {a:Act} {N:Nat} (q:a.tmps.size=N) {t:Nat} {b:Bool} (h:a.tmps.getD t undef=.bool b):a.tmps[t]?=some (.bool b):=by
 unfold eR at h
 split at h
 ·rename_i l
  have h':a.tmps[t]=.bool b:=h
  simp[l,h']
 ·simp[undef] at h
theorem sF {a:Act} (q:At N dfs σ a) (hg:gd ops σ o.guard=some true):jU o (yielded ops a.tmps)=true:=by
 unfold gd at hg
 unfold jU
 split at hg
 ·rename_i e;rw[e]
 ·rename_i j b e
  rw[e]
  split at hg
  ·rename_i t ht
   split at hg
   ·rename_i c hc
    simp only[fC] at hg
    have l:c=b:=by simpa using hg
    subst l
    have h1:=Dv q.1 (q.2.2 _ _ hc)
    simp[yielded,ht,h1]
   ·cases hg
   ·cases hg
  ·cases hg
theorem IU {a:Act} {t:Nat} {vs:Array Value} (h:a.tmps.getD t undef=.tuple vs):∀b,a.tmps[t]?≠some (.bool b):=by
 intro b l
 rw[mz,l] at h
 cases h
theorem IV {a:Act} (l:At N dfs σ a) (hg:gd ops σ o.guard=some false):jU o (yielded ops a.tmps)=false:=by
 unfold gd at hg
 unfold jU
 split at hg
 ·cases hg
 ·rename_i j b e
  rw[e]
  split at hg
  ·rename_i t ht
   split at hg
   ·rename_i c hc
    simp only[fC] at hg
    have h1:=Dv l.1 (l.2.2 _ _ hc)
    simp[yielded,ht,h1]
    simpa using hg
   ·rename_i vs hc
    have h1:=IU (l.2.2 _ _ hc)
    have h2:yielded ops a.tmps j=none:=by
     unfold yielded
     rw[ht]
     show (match a.tmps[t]? with | some (.bool b)=>some b | _=>none)=none
     split
     ·rename_i b q;exact absurd q (h1 b)
     ·rfl
    simp[h2]
   ·cases hg
  ·cases hg
theorem nw [br F] (hg:gd ops σ o.guard=some true) (hnd:∀c,o.op≠.defer c)
  (h:∀a w,At N dfs σ a→Holds w0 K L w→∃v w',(execOp a.eval o).run P w=.ok (.value v) w'∧wpListIn F 0 P ops Q rest (a.put o.dst v) w'):TO F P w0 K N dfs ops Q (o::rest) σ L:=by
 intro a w l q
 obtain⟨v,w',h1,h2⟩:=h a w l q
 simp only[wpListIn,sF l hg,if_true]
 refine⟨fun f _=>br.fn f,?_⟩
 rw[gJ F _ _ hnd,h1]
 exact h2
theorem xK [br F] (hg:gd ops σ o.guard=some true) (hnd:∀c,o.op≠.defer c)
  (h:∀a w,At N dfs σ a→Holds w0 K L w→∃w',(execOp a.eval o).run P w=.ok .skip w'∧wpListIn F 0 P ops Q rest (a.put o.dst undef) w'):TO F P w0 K N dfs ops Q (o::rest) σ L:=by
 intro a w l q
 obtain⟨w',h1,h2⟩:=h a w l q
 simp only[wpListIn,sF l hg,if_true]
 refine⟨fun f _=>br.fn f,?_⟩
 rw[gJ F _ _ hnd,h1]
 exact h2
theorem iS [br F] (hg:gd ops σ g=some true) (hd:d<N) (hnd:∀c,op≠.defer c)
  (hr:∀a w,At N dfs σ a→Holds w0 K L w→(execOp a.eval ⟨some d,op,ty,pos,aft,g⟩).run P w=.ok (.value v) w)
  (h:TO F P w0 K N dfs ops Q rest ((d,v)::σ) L):TO F P w0 K N dfs ops Q (⟨some d,op,ty,pos,aft,g⟩::rest) σ L :=
 nw hg hnd fun a w q l=>⟨v,w,hr a w q l,h _ _ (q.put hd v) l⟩
theorem IW [br F] (hg:gd ops σ g=some false) (hd:d<N) (h:TO F P w0 K N dfs ops Q rest ((d,undef)::σ) L):TO F P w0 K N dfs ops Q (⟨some d,op,ty,pos,aft,g⟩::rest) σ L:=by
 intro a w l q
 simp only[wpListIn,IV (o:=⟨some d,op,ty,pos,aft,g⟩) l hg]
 exact⟨fun f _=>br.fn f,h _ _ (l.put hd undef) q⟩
theorem bU (h:TX w0 K N dfs Q .normal σ L):TO F P w0 K N dfs ops Q [] σ L:=fun a w q l=>h a w q l
theorem Dw (q:po σ σ') (h:TO F P w0 K N dfs ops Q rest σ' L):TO F P w0 K N dfs ops Q rest σ L:=fun a w D l=>h a w (q _ _ _ D) l
theorem pp (hk:L[k]?=some A) (he:oY A B) (h:TO F P w0 K N dfs ops Q rest σ (L.set k B)):TO F P w0 K N dfs ops Q rest σ L:=fun a w q l=>h a w q (l.ent hk he)
theorem zE [br F] (hg:gd ops σ g=some true) (hd:d<N) (hx:ev σ x=some v) (h:TO F P w0 K N dfs ops Q rest ((d,v)::σ) L):TO F P w0 K N dfs ops Q (⟨some d,.move x,ty,pos,aft,g⟩::rest) σ L :=
 iS hg hd (by simp) (fun a w l q=>by simp[execOp,l.ev hx]) h
theorem IX [br F] (hg:gd ops σ g=some true) (hd:d<N) (hx:ev σ x=some v) (h:TO F P w0 K N dfs ops Q rest ((d,v)::σ) L):TO F P w0 K N dfs ops Q (⟨some d,.assign x,ty,pos,aft,g⟩::rest) σ L :=
 iS hg hd (by simp) (fun a w l q=>by simp[execOp,l.ev hx]) h
theorem Dx [br F] {b:Bool} (hg:gd ops σ g=some true) (hd:d<N) (hc:ev σ x=some (.bool b)) (hv:ev σ (if b then y else z)=some v) (h:TO F P w0 K N dfs ops Q rest ((d,v)::σ) L) :
  TO F P w0 K N dfs ops Q (⟨some d,.pick x y z,ty,pos,aft,g⟩::rest) σ L :=
 iS hg hd (by simp) (fun a w l q=>by
  have h1:=l.ev hc
  have h2:=l.ev hv
  cases b <;> simp_all [execOp,asBool]) h
theorem kl [br F] {b:BinOp} {D:TypeId} {l v2:Value} (hg:gd ops σ g=some true) (hd:d<N) (hx:ev σ x=some l) (hy:ev σ y=some v2)
  (E:∀w:World,(do eqGuard b t x y l v2;binOp b t l v2:Sem Value).run P w=.ok v w) (h:TO F P w0 K N dfs ops Q rest ((d,v)::σ) L) :
  TO F P w0 K N dfs ops Q (⟨some d,.binOp b t x y D,ty,pos,aft,g⟩::rest) σ L :=
 iS hg hd (by simp) (fun a w q G=>by
  have:=E w
  simp only[execOp,q.ev hx,q.ev hy,ak] at this ⊢
  rw[this];rfl) h
theorem jq [br F] {b:UnOp} {l:Value} (hg:gd ops σ g=some true) (hd:d<N) (hx:ev σ x=some l)
  (q:∀w:World,(Op.unary b l).run P w=.ok v w) (h:TO F P w0 K N dfs ops Q rest ((d,v)::σ) L) :
  TO F P w0 K N dfs ops Q (⟨some d,.unOp b t x,ty,pos,aft,g⟩::rest) σ L :=
 iS hg hd (by simp) (fun a w D E=>by
  simp only[execOp,D.ev hx,ak,q w];rfl) h
theorem jr [br F] {s:TypeId} {l:Value} (hg:gd ops σ g=some true) (hd:d<N) (hx:ev σ x=some l)
  (q:∀w:World,(convert s t l).run P w=.ok v w) (h:TO F P w0 K N dfs ops Q rest ((d,v)::σ) L) :
  TO F P w0 K N dfs ops Q (⟨some d,.convert s t x,ty,pos,aft,g⟩::rest) σ L :=
 iS hg hd (by simp) (fun a w D E=>by
  simp only[execOp,D.ev hx,ak,q w];rfl) h
theorem cf [br F] {b off l:Nat} {f fo:Nat} (hf:jx P t f fo) (hg:gd ops σ g=some true) (hd:d<N) (hx:ev σ x=some (.pointer (some ⟨b,off,none⟩))) (D:off+fo=l)
  (h:TO F P w0 K N dfs ops Q rest ((d,.pointer (some ⟨b,l,none⟩))::σ) L) :
  TO F P w0 K N dfs ops Q (⟨some d,.fieldAddr t x f,ty,pos,aft,g⟩::rest) σ L:=by
 subst D
 obtain⟨fs,q,hu,hf,rfl,hz⟩:=hf
 obtain⟨i,hi,hz⟩:∃i,P.info? q.type=some i∧i.size≠0:=by
  cases hi:P.info? q.type with
  | none=>simp[hi] at hz
  | some i=>exact⟨i,rfl,by simpa [hi] using hz⟩
 refine iS hg hd (by simp) (fun a w E G=>?_) h
 simp[execOp,E.ev hx,Instr.fieldAt,ak,run_underlying hu,hf,el,fieldPlace,sizeOf,typeInfo,hi,hz,ie]
theorem fS [br F] {f:Nat} {vs:Array Value} (hg:gd ops σ g=some true) (hd:d<N) (hx:ev σ x=some (.tuple vs)) (hv:vs[f]?=some v) (h:TO F P w0 K N dfs ops Q rest ((d,v)::σ) L) :
  TO F P w0 K N dfs ops Q (⟨some d,.extract x f,ty,pos,aft,g⟩::rest) σ L :=
 iS hg hd (by simp) (fun a w l q=>by simp[execOp,l.ev hx,Instr.extract,hv]) h
theorem ny [br F] {l v2:Value} (hg:gd ops σ g=some true) (hd:d<N) (hx:ev σ x=some l) (hy:ev σ y=some v2)
  (D:∀w:World,(iC t l v2).run P w=.ok v w) (h:TO F P w0 K N dfs ops Q rest ((d,v)::σ) L) :
  TO F P w0 K N dfs ops Q (⟨some d,.index t x y,ty,pos,aft,g⟩::rest) σ L :=
 iS hg hd (by simp) (fun a w q E=>by simp only[execOp,q.ev hx,q.ev hy,ak,D w];rfl) h
def evO (σ:List (Nat×Value)):Option Operand→Option (Option Value)
 | none=>some none
 | some x=>(ev σ x).map some
theorem At.evO {a:Act} (h:At N dfs σ a) {x:Option Operand} {v:Option Value} (hx:evO σ x=some v):x.map a.eval=v:=by
 cases x with
 | none=>simpa [Go.Proofs.YtifpjbgnikjglaaGreatDoor.evO] using hx
 | some x=>
  simp only[Go.Proofs.YtifpjbgnikjglaaGreatDoor.evO,cM] at hx
  obtain⟨u,hu,rfl⟩:=hx
  simp[h.ev hu]
theorem iz [br F] {E:Value} {lo hi:Option Operand} {G hv:Option Value} (hg:gd ops σ g=some true) (hd:d<N) (hx:ev σ x=some E) (l:evO σ lo=some G) (q:evO σ hi=some hv)
  (H:∀w:World,(gK t E G hv none).run P w=.ok v w) (h:TO F P w0 K N dfs ops Q rest ((d,v)::σ) L) :
  TO F P w0 K N dfs ops Q (⟨some d,.slice t x lo hi none,ty,pos,aft,g⟩::rest) σ L :=
 iS hg hd (by simp) (fun a w D I=>by simp only[execOp,D.ev hx,D.evO l,D.evO q,Option.map_none,ak,H w];rfl) h
def evP (σ:List (Nat×Value)):List (Nat×Operand)→Option (List (Nat×Value))
 | []=>some []
 | (i,x)::r=>match ev σ x,evP σ r with
  | some v,some l=>some ((i,v)::l)
  | _,_=>none
theorem At.evP {a:Act} (h:At N dfs σ a):∀ {ps:List (Nat×Operand)} {vs:List (Nat×Value)},evP σ ps=some vs→ps.map (fun (i,x)=>(i,a.eval x))=vs
 | [],vs,hx=>by simpa [Go.Proofs.YtifpjbgnikjglaaGreatDoor.evP] using hx
 | (i,x)::r,vs,hx=>by
  simp only[Go.Proofs.YtifpjbgnikjglaaGreatDoor.evP] at hx
  split at hx
  ·rename_i v l h1 h2
   cases hx
   simp[h.ev h1,At.evP h h2]
  ·cases hx
def evL (σ:List (Nat×Value)):List Operand→Option (List Value)
 | []=>some []
 | x::r=>match ev σ x,evL σ r with
  | some v,some l=>some (v::l)
  | _,_=>none
theorem At.evL {a:Act} (h:At N dfs σ a):∀ {ps:List Operand} {vs:List Value},evL σ ps=some vs→ps.map a.eval=vs
 | [],vs,hx=>by simpa [Go.Proofs.YtifpjbgnikjglaaGreatDoor.evL] using hx
 | x::r,vs,hx=>by
  simp only[Go.Proofs.YtifpjbgnikjglaaGreatDoor.evL] at hx
  split at hx
  ·rename_i v l h1 h2
   cases hx
   simp[h.ev h1,At.evL h h2]
  ·cases hx
theorem eU [br F] {ps:List (Nat×Operand)} {vs:List (Nat×Value)} (hg:gd ops σ g=some true) (hd:d<N) (hx:evP σ ps=some vs)
  (l:∀w:World,(Instr.build t vs.toArray).run P w=.ok v w) (h:TO F P w0 K N dfs ops Q rest ((d,v)::σ) L) :
  TO F P w0 K N dfs ops Q (⟨some d,.build t ps.toArray,ty,pos,aft,g⟩::rest) σ L :=
 iS hg hd (by simp) (fun a w q D=>by
  have:=l w
  simp only[execOp,eI,q.evP hx,ak,this];rfl) h
theorem tF [br F] {fn:Fn} {x1 x2:List Operand} {q l:List Value} (hg:gd ops σ g=some true) (hd:d<N) (h1:evL σ x1=some q) (h2:evL σ x2=some l)
  (h:TO F P w0 K N dfs ops Q rest ((d,.func fn q.toArray l.toArray)::σ) L) :
  TO F P w0 K N dfs ops Q (⟨some d,.makeFunc fn x1.toArray x2.toArray,ty,pos,aft,g⟩::rest) σ L :=
 iS hg hd (by simp) (fun a w D E=>by simp[execOp,Instr.makeFunc,D.evL h1,D.evL h2]) h
theorem fX [br F] {a0:Addr} (hg:gd ops σ g=some true) (hd:d<N) (hx:ev σ x=some (.pointer (some a0))) (h:TO F P w0 K N dfs ops Q rest ((d,.pointer (some a0))::σ) L) :
  TO F P w0 K N dfs ops Q (⟨some d,.nilCheck x,ty,pos,aft,g⟩::rest) σ L :=
 iS hg hd (by simp) (fun a w l q=>by simp[execOp,l.ev hx]) h
theorem jy [br F] (hg:gd ops σ g=some true) (hd:d<N) (hx:ev σ x=some v)
  (h:∀b,TO F P w0 K N dfs ops Q rest ((d,.pointer (some ⟨b,0,none⟩))::σ) (L++[cells b v.cells.toList t])):TO F P w0 K N dfs ops Q (⟨some d,.box t x,ty,pos,aft,g⟩::rest) σ L :=
 nw hg (by simp) fun a w l q=>⟨.pointer (some ⟨w.heap.size,0,none⟩),w.alloc (.cells v.cells t),by simp[execOp,l.ev hx,Instr.box,newVar,newRow,ak],h _ _ _ (l.put hd _) (by simpa [cells] using q.alloc (.cells v.cells t (0,0)))⟩
theorem IY [br F] (l:∀w,Holds w0 K L w→v.oneCell'=true) (hg:gd ops σ g=some true) (hd:d<N) (hx:ev σ x=some v)
  (h:∀b,TO F P w0 K N dfs ops Q rest ((d,.pointer (some ⟨b,0,none⟩))::σ) (L++[cells b [v] t])):TO F P w0 K N dfs ops Q (⟨some d,.box t x,ty,pos,aft,g⟩::rest) σ L :=
 nw hg (by simp) fun a w E D=>⟨.pointer (some ⟨w.heap.size,0,none⟩),w.alloc (.cells v.cells t),by simp[execOp,E.ev hx,Instr.box,newVar,newRow,ak],h _ _ _ (E.put hd _) (by
  have q:v.cells=#[v]:=by have:=l w D;cases v <;> simp_all [oN,mJ]
  rw[q];simpa [cells] using D.alloc (.cells #[v] t (0,0)))⟩
theorem eN [br F] {cs:List Value} (hz:bZ P t cs) (hg:gd ops σ g=some true) (hd:d<N)
  (h:∀b,TO F P w0 K N dfs ops Q rest ((d,.pointer (some ⟨b,0,none⟩))::σ) (L++[cells b cs t])):TO F P w0 K N dfs ops Q (⟨some d,.alloc t,ty,pos,aft,g⟩::rest) σ L:=by
 obtain⟨i,q,hi,l,rfl⟩:=hz.some
 exact nw hg (by simp) fun a w E D=>⟨.pointer (some ⟨w.heap.size,0,none⟩),w.alloc (.cells q.cells t),by simp[execOp,Instr.alloc,zeroValue,typeInfo,hi,l,newVar,newRow,ak],h _ _ _ (E.put hd _) (by simpa [cells] using D.alloc (.cells q.cells t (0,0)))⟩
theorem bF [br F] {b j:Nat} {l:List Value} {e:TypeId} (E:kj P t) (hg:gd ops σ g=some true) (hd:d<N) (hx:ev σ x=some (.pointer (some ⟨b,j,none⟩))) (hk:L[k]?=some (cells b l e)) (hj:l[j]?=some v)
  (h:TO F P w0 K N dfs ops Q rest ((d,v)::σ) L):TO F P w0 K N dfs ops Q (⟨some d,.load t x,ty,pos,aft,g⟩::rest) σ L:=by
 obtain⟨dd,hu,hr⟩:=E
 exact iS hg hd (by simp) (fun a w D q=>by
  have hc:=q.cell hk hj
  cases dd <;> simp_all [execOp,D.ev hx,jF,el,loadVar,isAgg,ak,run_underlying hu]) h
theorem gM [br F] {b j n:Nat} {l cs:List Value} {e:TypeId} (H:nO P t n) (hg:gd ops σ g=some true) (hd:d<N) (hx:ev σ x=some (.pointer (some ⟨b,j,none⟩))) (hk:L[k]?=some (cells b l e))
  (q:(l.drop j).take n=cs) (E:cs.length=n) (h:TO F P w0 K N dfs ops Q rest ((d,.agg cs.toArray)::σ) L) :
  TO F P w0 K N dfs ops Q (⟨some d,.load t x,ty,pos,aft,g⟩::rest) σ L:=by
 subst E
 obtain⟨dd,hu,hr,hi⟩:=H
 exact iS hg hd (by simp) (fun a w G D=>by
  have hc:w.rangeAt b j cs:=fun i u hu=>by
   refine D.cell hk ?_
   rw[← q] at hu
   rw[ir] at hu
   split at hu
   ·rw[fW] at hu;exact hu
   ·cases hu
  simp only[execOp,G.ev hx,ak,run_loadAt_mid w b j t cs dd hc hu hr hi];rfl) h
theorem ef [br F] {b j:Nat} {l l':List Value} {e:TypeId} {u:Value} (I:bD P t 1) (hg:gd ops σ g=some true) (hx:ev σ x=some (.pointer (some ⟨b,j,none⟩))) (hy:ev σ y=some v)
  (hk:L[k]?=some (cells b l e)) (hj:l[j]?=some u) (q:∀w,Holds w0 K L w→v.oneCell'=true) (H:l.set j v=l')
  (h:TO F P w0 K N dfs ops Q rest σ (L.set k (cells b l' e))):TO F P w0 K N dfs ops Q (⟨none,.store t x y,ty,pos,aft,g⟩::rest) σ L:=by
 obtain⟨i,hi,hsz⟩:=I.some
 exact xK hg (by simp) fun a w G D=>⟨_,by
  have h1:=q w D
  have hc:=D.cell hk hj
  have hf:w.frozen? ⟨b,j,none⟩=false:=by simp[lr,D.obj hk]
  have E:v.cells=#[v]:=by cases v <;> simp_all [oN,mJ]
  simp[execOp,G.ev hx,G.ev hy,Instr.storeAt,el,storeVar,sizeOf,typeInfo,hi,hsz,E,storeCells,ak,run_store _ _ _ _ _ h1,hc,hf,ie],h _ _ G (D.setCell hk H)⟩
def pq (l:List Value) (j:Nat):List Value→List Value
 | []=>l
 | v::vs=>pq (l.set j v) (j+1) vs
theorem rC:∀ (vs l:List Value) (j:Nat),(pq l j vs).length=l.length
 | [],l,j=>rfl
 | v::vs,l,j=>by simp[pq,rC vs]
theorem Holds.setCells {b:Nat} {e:TypeId} (q:k<L.length):∀ (vs:List Value) (j:Nat) (l:List Value) (w:World),Holds w0 K (L.set k (cells b l e)) w→Holds w0 K (L.set k (cells b (pq l j vs) e)) (w.setCells b j vs)
 | [],j,l,w,h=>h
 | v::vs,j,l,w,h=>by
  have hk:(L.set k (cells b l e))[k]?=some (cells b l e):=by simp[q]
  have:=h.setCell (j:=j) (v:=v) hk rfl
  rw[List.set_set] at this
  simp only[World.setCells,pq]
  exact Holds.setCells q vs (j+1) _ _ this
theorem Dy {α:Type} {L:List α} {k:Nat} {A:α} (hk:L[k]?=some A):L.set k A=L:=by
 apply ls
 intro i
 rw[rq]
 split
 ·rename_i e
  subst e
  rw[hk]
  simp[(au.1 hk).1]
 ·rfl
theorem eH [br F] {b j n:Nat} {l l' vs:List Value} {e:TypeId} (J:bD P t n) (hg:gd ops σ g=some true) (hx:ev σ x=some (.pointer (some ⟨b,j,none⟩))) (hy:ev σ y=some (.agg vs.toArray))
  (hk:L[k]?=some (cells b l e)) (G:vs.length=n) (hj:j+n≤l.length) (h1:vs.all (·.oneCell')=true) (H:pq l j vs=l')
  (h:TO F P w0 K N dfs ops Q rest σ (L.set k (cells b l' e))):TO F P w0 K N dfs ops Q (⟨none,.store t x y,ty,pos,aft,g⟩::rest) σ L:=by
 subst H;subst G
 have q:k<L.length:=(au.1 hk).1
 refine xK hg (by simp) fun a w E D=>⟨w.setCells b j vs,?_,h _ _ E (Holds.setCells q vs j l w (by rw[Dy hk];exact D))⟩
 have ht:w.there b j vs.toArray.size:=fun i hi=>by
  have I:i<vs.length:=by simpa using hi
  have hc:=D.cell hk (aP (show j+i<l.length by omega))
  exact⟨by rw[hc];rfl,by simp[lr,D.obj hk]⟩
 simp only[execOp,E.ev hx,E.ev hy,ak,run_storeAt_mid w b j t vs.toArray ht (by simpa [bD] using J) (by simpa using h1)];rfl
end
def Ro (w0:World) (K:Nat→Prop) (RO:List (Nat×Obj)):Prop:=∀p∈RO,w0.heap[p.1]?=some p.2∧¬ K p.1
theorem Ro.nil {w0:World} {K:Nat→Prop}:Ro w0 K []:=fun p hp=>by cases hp
theorem Holds.ro {w0 w:World} {K:Nat→Prop} {L:List Asn} {RO:List (Nat×Obj)} (h:Holds w0 K L w) (hr:Ro w0 K RO) {i b:Nat} {o:Obj} (hi:RO[i]?=some (b,o)):w.heap[b]?=some o:=by
 obtain⟨C,_,hx⟩:=h
 obtain⟨h1,h2⟩:=hr _ (aJ hi)
 exact hx.1.at h1 h2
def Dz {β:Type} (w0:World) (K:Nat→Prop) (N:Nat) (dfs:List Deferred) (I:β→Prop) (σf:β→List (Nat×Value)) (Lf:β→List Asn) (a:Act) (w:World):Prop:=∃b,I b∧St w0 K N dfs (σf b) (Lf b) a w
def DA {β:Type} (w0:World) (K:Nat→Prop) (N:Nat) (I:β→Prop) (df:β→List Deferred) (σf:β→List (Nat×Value)) (Lf:β→List Asn) (μ:β→Nat) (b:β) (a:Act) (w:World):Prop:=∃b',I b'∧μ b'<μ b∧St w0 K N (df b') (σf b') (Lf b') a w
section
variable {F:Fence} {P:Program} {w0:World} {K:Nat→Prop} {N:Nat} {dfs:List Deferred} {ops:Array Oper} {Q:Exit→Act→World→Prop} {rest:List Oper} {σ σ':List (Nat×Value)} {L L' R As Bs:List Asn} {o:Oper} {v:Value}
 {d:Nat} {t:TypeId} {op:Op} {ty:TypeId} {pos:String} {aft:Array Edge} {g:Option (Nat×Bool)} {x y z:Operand} {c c1 c2:Code} {k:Nat} {A B:Asn} {RO:List (Nat×Obj)}
theorem ct {id:Nat} {l:List Oper} (h:TO F P w0 K N dfs l.toArray Q l σ L):TC F P w0 K N dfs Q (.region id l.toArray false) σ L:=fun a w D q=>wpIn_region_lit (h a w D q)
theorem cm (h:TC F P w0 K N dfs (_root_.Go.Exit.then (c2.wpIn F 0 P Q) Q) c1 σ L):TC F P w0 K N dfs Q (.seq c1 c2) σ L:=fun a w q l=>wpIn_seq (h a w q l)
theorem bH (h:TX w0 K N dfs Q .normal σ L):TC F P w0 K N dfs Q .skip σ L:=fun a w q l=>wpIn_skip (h a w q l)
theorem dZ {id:Nat} (h:TX w0 K N dfs Q (.exit id) σ L):TC F P w0 K N dfs Q (.exit id) σ L:=fun a w q l=>wpIn_exit (h a w q l)
theorem bI (h:TX w0 K N dfs Q .ret σ L):TC F P w0 K N dfs Q .ret σ L:=fun a w q l=>wpIn_ret (h a w q l)
theorem DB {l:Nat} (h:TX w0 K N dfs Q .normal σ L):TC F P w0 K N dfs Q (.label l) σ L:=fun a w D q=>wpIn_label (h a w D q)
theorem cy {id:Nat} (h:TC F P w0 K N dfs (jf id Q) c σ L):TC F P w0 K N dfs Q (.block id c) σ L:=fun a w q l=>wpIn_block (h a w q l)
theorem iH (hc:ev σ x=some (.bool true)) (h:TC F P w0 K N dfs Q c1 σ L):TC F P w0 K N dfs Q (.cond x c1 c2) σ L:=fun a w l q=>wpIn_cond_true (l.ev hc) (h a w l q)
theorem eQ (hc:ev σ x=some (.bool false)) (h:TC F P w0 K N dfs Q c2 σ L):TC F P w0 K N dfs Q (.cond x c1 c2) σ L:=fun a w l q=>wpIn_cond_false (l.ev hc) (h a w l q)
theorem IZ {b:Bool} (hc:ev σ x=some (.bool b)) (ht:b=true→TC F P w0 K N dfs Q c1 σ L) (hf:b=false→TC F P w0 K N dfs Q c2 σ L):TC F P w0 K N dfs Q (.cond x c1 c2) σ L :=
 fun a w l q=>wpIn_cond_split (l.ev hc) (fun h=>ht h a w l q) (fun h=>hf h a w l q)
theorem I0 {s:Nat} {b:Bool} (l:σ.lookup s=some (.bool b)) (ht:b=true→TO F P w0 K N dfs ops Q rest ((s,.bool true)::σ) L) (hf:b=false→TO F P w0 K N dfs ops Q rest ((s,.bool false)::σ) L) :
  TO F P w0 K N dfs ops Q rest σ L:=by
 cases b with
 | true=>exact Dw (zD l Du) (ht rfl)
 | false=>exact Dw (zD l Du) (hf rfl)
theorem cz (h:TC F P w0 K N dfs Q c σ L):TX w0 K N dfs (_root_.Go.Exit.then (c.wpIn F 0 P Q) Q) .normal σ L:=h
theorem cA {id:Nat} {q:Act→World→Prop} (h:TX w0 K N dfs Q (.exit id) σ L):TX w0 K N dfs (_root_.Go.Exit.then q Q) (.exit id) σ L:=h
theorem bT {q:Act→World→Prop} (h:TX w0 K N dfs Q .ret σ L):TX w0 K N dfs (_root_.Go.Exit.then q Q) .ret σ L:=h
theorem cw {id:Nat} (h:TX w0 K N dfs Q .normal σ L):TX w0 K N dfs (jf id Q) .normal σ L:=h
theorem cE {id:Nat} (h:TX w0 K N dfs Q .ret σ L):TX w0 K N dfs (jf id Q) .ret σ L:=h
theorem ed {id:Nat} (h:TX w0 K N dfs Q .normal σ L):TX w0 K N dfs (jf id Q) (.exit id) σ L:=fun a w q l=>by
 show (if id=id then Q .normal a w else Q (.exit id) a w);rw[ay rfl];exact h a w q l
theorem vz {id l:Nat} (q:l≠id) (h:TX w0 K N dfs Q (.exit l) σ L):TX w0 K N dfs (jf id Q) (.exit l) σ L:=fun a w E D=>by
 show (if l=id then Q .normal a w else Q (.exit l) a w);rw[ar q];exact h a w E D
theorem I1 (I:Nat→Act→World→Prop) (m:Nat) {a:Act} {w:World} (H:I m a w)
  (round:∀m a w,I m a w→c.wpIn F 0 P (_root_.Go.Exit.then (fun G w'=>∃l<m,I l G w') Q) a w):(Code.loop c).wpIn F 0 P Q a w:=by
 refine wpIn_loop (fun a w=>∃m,I m a w) (fun a w=>leastOf (fun m=>I m a w)) ⟨m,H⟩ fun a w J=>?_
 obtain⟨h1,h2⟩:=leastOf_spec J
 refine wpIn_mono (round _ a w h1) fun e G w' E=>?_
 cases e with
 | normal=>
  obtain⟨l,q,D⟩:=E
  exact⟨⟨l,D⟩,Nat.lt_of_le_of_lt ((leastOf_spec ⟨l,D⟩).2 l D) q⟩
 | _=>exact E
theorem fh {β:Type} (I:β→Prop) (q:β→List Deferred) (l:β→List (Nat×Value)) (D:β→List Asn) (μ:β→Nat) (b0:β) (T:I b0) (hd:dfs=q b0) (H:po σ (l b0)) (hL:ap L (D b0) R)
  (round:∀b,I b→TC F P w0 K N (q b) (_root_.Go.Exit.then (DA w0 K N I q l D μ b) Q) c (l b) (D b)):TC F P w0 K N dfs Q (.loop c) σ L:=fun a w O J=>by
 subst hd
 refine I1 (fun m a w=>∃b,I b∧μ b=m∧St w0 K N (q b) (l b) (D b) a w) (μ b0) ⟨b0,T,rfl,H _ _ _ O,J.weaken hL⟩ ?_
 rintro m a w ⟨b,M,rfl,h1,h2⟩
 refine wpIn_mono (round b M a w h1 h2) fun e W w' E=>?_
 cases e with
 | normal=>obtain⟨G,V,U,h5⟩:=E;exact⟨μ G,U,G,V,rfl,h5⟩
 | _=>exact E
theorem ff {β:Type} {I:β→Prop} {D:β→List Deferred} {q:β→List (Nat×Value)} {E:β→List Asn} {μ:β→Nat} {b:β} (l:β) (O:I l) (H:μ l<μ b) (hd:dfs=D l) (G:po σ (q l)) (hL:ap L (E l) R) :
  TX w0 K N dfs (_root_.Go.Exit.then (DA w0 K N I D q E μ b) Q) .normal σ L:=fun a w M J=>by
 subst hd
 exact⟨l,O,H,G _ _ _ M,J.weaken hL⟩
theorem rD {l:Asn} (hk:L[k]?=some A) (he:A=l) (h:TO F P w0 K N dfs ops Q rest σ (L.set k l)):TO F P w0 K N dfs ops Q rest σ L:=fun a w D q=>h a w D (q.rewE hk he)
theorem pY {e:Exit} {j:Nat} {X:List Asn} (hk:L[k]?=some A) (hj:L[j]?=some (zgL X)) (l:k≠j) (h:TX w0 K N dfs Q e σ ((L.set k cn).set j (zgL (A::X)))):TX w0 K N dfs Q e σ L:=fun a w D q=>h a w D (q.starCons hk hj l)
theorem qH (h:TC F P w0 K N dfs Q c σ (L++[zgL []])):TC F P w0 K N dfs Q c σ L:=fun a w q l=>h a w q l.star0
theorem xL [br F] {b j i:Nat} {l:List Value} {e:TypeId} {H:Nat×Nat} (hr:Ro w0 K RO) (G:kj P t) (hg:gd ops σ g=some true) (hd:d<N) (hx:ev σ x=some (.pointer (some ⟨b,j,none⟩)))
  (hi:RO[i]?=some (b,.cells l.toArray e H)) (hj:l[j]?=some v)
  (h:TO F P w0 K N dfs ops Q rest ((d,v)::σ) L):TO F P w0 K N dfs ops Q (⟨some d,.load t x,ty,pos,aft,g⟩::rest) σ L:=by
 obtain⟨dd,hu,q⟩:=G
 exact iS hg hd (by simp) (fun a w E D=>by
  have hc:w.cell? ⟨b,j,none⟩=some v:=nN (D.ro hr hi) (by simpa using hj)
  cases dd <;> simp_all [execOp,E.ev hx,jF,el,loadVar,isAgg,ak,run_underlying hu]) h
def Fn (P:Program) (f:FuncId) (vs:List Value) (As:List Asn) {β:Type} (V:β→Value) (Bs:β→List Asn):Prop :=
 ∀w C,aN As C w→Calls P f vs.toArray w fun e w'=>∃x:β,e=.returned (V x)∧∃C',aN (Bs x) C' w'∧cF C C' w w'
def vA (P:Program) (f:FuncId) (vs:List Value) (As:List Asn) {β:Type} (V:β→Value) (Bs:β→List Asn) (w:World) (C:Nat→Prop):Prop :=
 aN As C w→Calls P f vs.toArray w fun e w'=>∃x:β,e=.returned (V x)∧∃C',aN (Bs x) C' w'∧cF C C' w w'
def dO (P:Program) (f:FuncId) (vs:List Value) (v:Value):Prop:=∀w,Calls P f vs.toArray w fun e w'=>e=.returned v∧Below w.heap.size w w'
theorem nP {f:FuncId} {vs:List Value} {v:Value} (h:∀w,Calls P f vs.toArray w fun e w'=>e=.returned v∧w=w'):dO P f vs v:=fun w=>(h w).mono fun e w' ⟨h1,h2⟩=>⟨h1,h2 ▸ Below.refl _ _⟩
theorem dO.fn {f:FuncId} {vs:List Value} {v:Value} (h:dO P f vs v):Fn P f vs [] (fun _:Unit=>v) (fun _=>[]):=fun w C l=>
 (h w).mono fun e w' ⟨h1,h2⟩=>⟨(),h1,C,l,Do h2⟩
theorem Fn.p {f:FuncId} {vs:List Value} {v:Value} (h:Fn P f vs [] (fun _:Unit=>v) (fun _=>[])):dO P f vs v:=fun w=>
 (h w (fun _=>False) (fun _ h=>h)).mono fun e w' ⟨_,h1,C',h2,l⟩=>⟨h1,l.toBelow (bJ _) (fun _ _ h=>h)⟩
theorem I2 [br F] {xs:List Operand} {D:Array TypeId} {f:FuncId} {first cap:Array Value} {vs l:List Value} {β:Type} {V:β→Value} {Bs:β→List Asn} {dst:Option Nat}
  (hg:gd ops σ g=some true) (hx:ev σ x=some (.func (.func f) first cap)) (H:evL σ xs=some vs) (hv:first.toList++vs++cap.toList=l)
  (E:∀args w,(callFunc f args).run P w=.ok (.enter f args) w) (U:∀w C,cF K C w0 w→vA P f l As V Bs w C) (T:ap L As R)
  (h:∀b a w M,M=a.put dst (V b)→At N dfs σ a→Holds w0 K (R++Bs b) w→wpListIn F 0 P ops Q rest M w) :
  TO F P w0 K N dfs ops Q (⟨dst,.call { callee:=.value x,args:=xs.toArray,argTypes:=D },ty,pos,aft,g⟩::rest) σ L:=by
 intro a w G O
 simp only[wpListIn,sF (o:=⟨dst,.call { callee:=.value x,args:=xs.toArray,argTypes:=D },ty,pos,aft,g⟩) G hg,if_true]
 refine⟨fun f _=>br.fn f,?_⟩
 have h1:(execOp a.eval ⟨dst,.call { callee:=.value x,args:=xs.toArray,argTypes:=D },ty,pos,aft,g⟩).run P w=.ok (.enter f l.toArray) w:=by
  have e:first++vs.toArray++cap=l.toArray:=by rw[← hv];simp
  simp only[execOp,resolve,eI,G.evL H,G.ev hx,kM,ak,io,ci,invoke,e,E]
 rw[gJ F _ _ (by simp),h1]
 refine⟨(fun h=>by rw[br.depth (F:=F)] at h;cases h),?_⟩
 obtain⟨C1,I,hA,q⟩:=O.splitX T
 refine br.calls ((U w C1 I hA).mono ?_)
 rintro e w' ⟨b,rfl,C',hB,J⟩
 exact h b a w' _ rfl G (q _ _ _ J hB)
theorem DC [br F] {xs:List Operand} {E:Array TypeId} {f:FuncId} {first cap:Array Value} {vs l:List Value} {β:Type} {V:β→Value} {Bs:β→List Asn} {dst:Option Nat}
  (hg:gd ops σ g=some true) (hx:ev σ x=some (.func (.func f) first cap)) (D:evL σ xs=some vs) (hv:first.toList++vs++cap.toList=l)
  (q:∀args w,(callFunc f args).run P w=.ok (.enter f args) w) (I:Fn P f l As V Bs) (H:ap L As R)
  (h:∀b a w G,G=a.put dst (V b)→At N dfs σ a→Holds w0 K (R++Bs b) w→wpListIn F 0 P ops Q rest G w) :
  TO F P w0 K N dfs ops Q (⟨dst,.call { callee:=.value x,args:=xs.toArray,argTypes:=E },ty,pos,aft,g⟩::rest) σ L :=
 I2 hg hx D hv q (fun w C _=>I w C) H h
theorem fY [br F] {xs:List Operand} {G:Array TypeId} {f:FuncId} {first cap:Array Value} {vs l:List Value} {β:Type} {V:β→Value} {Bs:β→List Asn}
  (hg:gd ops σ g=some true) (hd:d<N) (hx:ev σ x=some (.func (.func f) first cap)) (D:evL σ xs=some vs) (hv:first.toList++vs++cap.toList=l)
  (q:∀args w,(callFunc f args).run P w=.ok (.enter f args) w) (M:Fn P f l As V Bs) (I:ap L As R)
  (h:∀b,TO F P w0 K N dfs ops Q rest ((d,V b)::σ) (R++Bs b)) :
  TO F P w0 K N dfs ops Q (⟨some d,.call { callee:=.value x,args:=xs.toArray,argTypes:=G },ty,pos,aft,g⟩::rest) σ L :=
 DC hg hx D hv q M I fun b a w O E J H=>by subst E;exact h b _ _ (J.put hd _) H
theorem dq [br F] {xs:List Operand} {G:Array TypeId} {f:FuncId} {first cap:Array Value} {vs l:List Value}
  (hg:gd ops σ g=some true) (hd:d<N) (hx:ev σ x=some (.func (.func f) first cap)) (D:evL σ xs=some vs) (hv:first.toList++vs++cap.toList=l)
  (q:∀args w,(callFunc f args).run P w=.ok (.enter f args) w) (J:dO P f l v) (h:TO F P w0 K N dfs ops Q rest ((d,v)::σ) L) :
  TO F P w0 K N dfs ops Q (⟨some d,.call { callee:=.value x,args:=xs.toArray,argTypes:=G },ty,pos,aft,g⟩::rest) σ L :=
 DC hg hx D hv q J.fn ap.nil fun b a w M E I H=>by
  subst E
  rw[aQ] at H
  exact h _ _ (I.put hd _) H
def YC (P:Program) (l:Nat) {α:Type} (enc:α→List Value) (xs:List α) (I X:List α→Asn) (w0:World) (K:Nat→Prop):Prop :=
 ∀pre x post C W1,xs=pre++x::post→cF K C w0 W1→(I pre).P C W1 →
  zy P l (enc x).toArray W1 fun b W2=>∃C',cF C C' W1 W2∧((b=true∧(I (pre++[x])).P C' W2)∨(b=false∧(X (pre++[x])).P C' W2))
theorem Holds.focus' {w:World} (h:Holds w0 K L w) (hk:L[k]?=some A):∃C1,cF K C1 w0 w∧A.P C1 w∧∀B l w',cF C1 l w w'→B.P l w'→Holds w0 K (L.set k B) w':=by
 obtain⟨C1,h1,h2⟩:=h.focus hk
 have h':=h
 obtain⟨C,hL,hx⟩:=h'
 obtain⟨J,H,I,E,G,g4⟩:=aN.take hk hL
 refine⟨J,⟨hx.1,fun j hj=>hx.2 j ((g4 j).2 (.inl hj))⟩,I,?_⟩
 intro B l w' he hB
 have q:k<L.length:=(au.1 hk).1
 have hsz:=he.1.size
 have D:aN (L.set k cn) H w':=E.loc hsz (fun k hk=>he.1.keep k (E.lt k hk) (fun h=>G k h hk))
 have hd:∀k,l k→¬ H k:=fun k h' hk=>by
  rcases he.2 k h' with h | h
  ·exact G k h hk
  ·have:=E.lt k hk;omega
 refine⟨_,aN.put q hB D hd (fun k=>_root_.Iff.rfl),hx.1.trans' he.1 (fun i hi hc=>?_),fun k hk=>?_⟩
 ·rcases hx.2 i ((g4 i).2 (.inl hc)) with h | h
  ·exact h
  ·omega
 ·have:=hx.1.size
  rcases hk with hk | hk
  ·rcases he.2 k hk with h | h
   ·rcases hx.2 k ((g4 k).2 (.inl h)) with h | h
    ·exact .inl h
    ·exact .inr (by omega)
   ·exact .inr (by omega)
  ·rcases hx.2 k ((g4 k).2 (.inr hk)) with h | h
   ·exact .inl h
   ·exact .inr (by omega)
theorem I3 [br F] {xs:List Operand} {E:Array TypeId} {l:Nat} {α:Type} {enc:α→List Value} {zs:List α} {I X:List α→Asn} {dst:Option Nat} (hy:YC P l enc zs I X w0 K)
  (hg:gd ops σ g=some true) (hx:ev σ x=some (.func (.yield l) #[] #[])) {pre:List α} {e:α} {post:List α} (hz:zs=pre++e::post) (T:evL σ xs=some (enc e))
  (hk:L[k]?=some (I pre))
  (ht:∀a w O,O=a.put dst (.bool true)→At N dfs σ a→Holds w0 K (L.set k (I (pre++[e]))) w→wpListIn F 0 P ops Q rest O w)
  (hf:∀a w O,O=a.put dst (.bool false)→At N dfs σ a→Holds w0 K (L.set k (X (pre++[e]))) w→wpListIn F 0 P ops Q rest O w) :
  TO F P w0 K N dfs ops Q (⟨dst,.call { callee:=.value x,args:=xs.toArray,argTypes:=E },ty,pos,aft,g⟩::rest) σ L:=by
 intro a w M U
 simp only[wpListIn,sF (o:=⟨dst,.call { callee:=.value x,args:=xs.toArray,argTypes:=E },ty,pos,aft,g⟩) M hg,if_true]
 refine⟨fun f _=>br.fn f,?_⟩
 obtain⟨C1,J,hi,q⟩:=U.focus' hk
 obtain⟨fn,tmps,assign,body,H,D⟩:=hy pre e post C1 w hz J hi
 have h1:(execOp a.eval ⟨dst,.call { callee:=.value x,args:=xs.toArray,argTypes:=E },ty,pos,aft,g⟩).run P w=.ok (.round l fn tmps assign body) w:=by
  simp only[execOp,resolve,eI,M.evL T,M.ev hx,kM,ak,io,ci,invoke,Array.empty_append,H]
 rw[gJ F _ _ (by simp),h1]
 refine⟨(fun h=>by rw[br.depth (F:=F)] at h;cases h),?_⟩
 have hr:RoundIn F 0 P l fn tmps assign body w _:=br.rounds D
 refine hr.mono ?_
 rintro V w' ⟨b,rfl,C',G,h | h⟩
 ·obtain⟨rfl,h⟩:=h
  exact ht a w' _ rfl M (q _ _ _ G h)
 ·obtain⟨rfl,h⟩:=h
  exact hf a w' _ rfl M (q _ _ _ G h)
theorem sG [br F] {xs:List Operand} {H:Array TypeId} {l:Nat} {α:Type} {enc:α→List Value} {zs:List α} {I X:List α→Asn} (hy:YC P l enc zs I X w0 K)
  (hg:gd ops σ g=some true) (hd:d<N) (hx:ev σ x=some (.func (.yield l) #[] #[])) {pre:List α} {e:α} {post:List α} (hz:zs=pre++e::post) (D:evL σ xs=some (enc e))
  (hk:L[k]?=some (I pre)) (ht:TO F P w0 K N dfs ops Q rest ((d,.bool true)::σ) (L.set k (I (pre++[e])))) (hf:TO F P w0 K N dfs ops Q rest ((d,.bool false)::σ) (L.set k (X (pre++[e])))) :
  TO F P w0 K N dfs ops Q (⟨some d,.call { callee:=.value x,args:=xs.toArray,argTypes:=H },ty,pos,aft,g⟩::rest) σ L :=
 I3 hy hg hx hz D hk (fun a w J q G E=>by subst q;exact ht _ _ (G.put hd _) E) (fun a w J q G E=>by subst q;exact hf _ _ (G.put hd _) E)
end
def qI (vs:List Value):List (Nat×Value):=vs.zipIdx.map fun p=>(p.2,p.1)
theorem DD:∀ (vs:List Value) (k t:Nat) (v:Value),((vs.zipIdx k).map fun p=>(p.2,p.1)).lookup t=some v→k≤t∧vs[t - k]?=some v
 | [],k,t,v,h=>by simp at h
 | u::vs,k,t,v,h=>by
  simp only[List.zipIdx_cons,aE,dD] at h
  split at h
  ·rename_i e
   have:t=k:=by simpa using e
   subst this;cases h
   simp
  ·rename_i e
   have l:t≠k:=by simpa using e
   obtain⟨h1,h2⟩:=DD vs (k+1) t v h
   refine⟨by omega,?_⟩
   rw[show t - k=(t - (k+1))+1 by omega]
   simpa using h2
theorem tG {N:Nat} (vs:List Value) (E:vs.length≤N):At N [] (qI vs) { tmps:=vs.toArray++eW (N - vs.toArray.size) undef,defers:=[] }:=by
 refine⟨by simp;omega,rfl,fun t v h=>?_⟩
 obtain⟨_,h2⟩:=DD vs 0 t v h
 have l:vs[t]?=some v:=by simpa using h2
 have q:t<vs.length:=(au.1 l).1
 have D:(vs.toArray++eW (N - vs.toArray.size) undef)[t]?=some v:=by
  rw[Array.getElem?_append_left (by simpa using q)];simpa using l
 rw[mz,D];rfl
def FR (P:Program) {β:Type} (V:β→Value) (Bs:β→List Asn) (w0:World) (K:Nat→Prop) (e:Ending) (w:World):Prop:=∃x:β,e=.returned (V x)∧Holds w0 K (Bs x) w
section
variable {F:Fence} {P:Program} {w0:World} {K:Nat→Prop} {N:Nat} {dfs:List Deferred} {ops:Array Oper} {Q:Exit→Act→World→Prop} {rest:List Oper} {σ σ':List (Nat×Value)} {L L' R As Bs:List Asn} {o:Oper} {v:Value}
 {d:Nat} {t:TypeId} {op:Op} {ty:TypeId} {pos:String} {aft:Array Edge} {g:Option (Nat×Bool)} {x y z:Operand} {c c1 c2:Code} {k:Nat} {A B:Asn} {RO:List (Nat×Obj)}
theorem Fn.intro {f:FuncId} {fn:Func} {vs:List Value} {β:Type} {V:β→Value} {Bs:β→List Asn} (hf:P.funcs[f]?=some fn) (q:fn.body=some c) (l:fn.ntmps=N) (D:vs.length≤N)
  (h:∀w0 K,TC bn P w0 K N [] (bodyPostM bn 0 P fn (FR P V Bs w0 K)) c (qI vs) As):Fn P f vs As V Bs:=by
 subst l
 intro w C hA
 refine (tD hf q (h w C _ w (tG vs D) ⟨C,hA,cF.refl _ _⟩)).mono ?_
 rintro e w' ⟨x,rfl,C',hB,hx⟩
 exact⟨x,rfl,C',hB,hx⟩
theorem vA.intro {f:FuncId} {fn:Func} {vs:List Value} {β:Type} {V:β→Value} {Bs:β→List Asn} {w:World} {C:Nat→Prop} (hf:P.funcs[f]?=some fn) (q:fn.body=some c) (l:fn.ntmps=N) (D:vs.length≤N)
  (h:TC bn P w C N [] (bodyPostM bn 0 P fn (FR P V Bs w C)) c (qI vs) As):vA P f vs As V Bs w C:=by
 subst l
 intro hA
 refine (tD hf q (h _ w (tG vs D) ⟨C,hA,cF.refl _ _⟩)).mono ?_
 rintro e w' ⟨x,rfl,C',hB,hx⟩
 exact⟨x,rfl,C',hB,hx⟩
theorem dO.intro {f:FuncId} {fn:Func} {vs:List Value} (hf:P.funcs[f]?=some fn) (q:fn.body=some c) (l:fn.ntmps=N) (D:vs.length≤N)
  (h:∀w0 K,TC bn P w0 K N [] (bodyPostM bn 0 P fn (FR P (fun _:Unit=>v) (fun _=>[]) w0 K)) c (qI vs) []):dO P f vs v:=Fn.p (Fn.intro hf q l D h)
inductive me (P:Program) (σ:List (Nat×Value)) (L:List Asn):ResultVar→Value→Prop
 | tmp {t:Nat} {v:Value} (h:σ.lookup t=some v):me P σ L (.tmp t) v
 | cell {s b:Nat} {t:TypeId} {k:Nat} {v:Value} {e:TypeId} (hT:kj P t) (hs:σ.lookup s=some (.pointer (some ⟨b,0,none⟩))) (hk:L[k]?=some (cells b [v] e)):me P σ L (.cell s t) v
 | cells {s b n:Nat} {t:TypeId} {k:Nat} {cs:List Value} {e:TypeId} (hT:nO P t n) (hs:σ.lookup s=some (.pointer (some ⟨b,0,none⟩))) (hk:L[k]?=some (Go.Proofs.YtifpjbgnikjglaaGreatDoor.cells b cs e)) (hn:cs.length=n):me P σ L (.cell s t) (.agg cs.toArray)
inductive iD (P:Program) (σ:List (Nat×Value)) (L:List Asn):List ResultVar→List Value→Prop
 | nil:iD P σ L [] []
 | cons {r:ResultVar} {rs:List ResultVar} {v:Value} {vs:List Value} (h:me P σ L r v) (hs:iD P σ L rs vs):iD P σ L (r::rs) (v::vs)
def rF:List Value→Value
 | [v]=>v
 | vs=>.tuple vs.toArray
def sH (tmps:Array Value):ResultVar→Sem Value
 | .tmp t=>pure (tmps.getD t undef)
 | .cell a t=>do loadVar t (← asAddr (tmps.getD a undef))
theorem me.run {r:ResultVar} (h:me P σ L r v) {a:Act} {w:World} (l:At N dfs σ a) (q:Holds w0 K L w):(sH a.tmps r).run P w=.ok v w:=by
 cases h with
 | tmp h=>simp[sH,l.2.2 _ _ h]
 | @cell s b t k v e hT hs hk=>
  obtain⟨dd,hu,hr⟩:=hT
  have hc:=q.cell hk (j:=0) (v:=v) rfl
  have:=l.2.2 _ _ hs
  cases dd <;> simp_all [sH,asAddr,loadVar,isAgg,ak,run_underlying hu]
 | @cells s b n t k cs e hT hs hk hn=>
  subst hn
  obtain⟨dd,hu,hr,hi⟩:=hT
  have hc:w.rangeAt b 0 cs:=fun i u hu=>q.cell hk (by simpa using hu)
  have:=l.2.2 _ _ hs
  simp[sH,asAddr,ak,this,run_loadVar_mid w b 0 t cs dd hc hu hr hi]
theorem iD.run {rs:List ResultVar} {vs:List Value} (h:iD P σ L rs vs) {a:Act} {w:World} (D:At N dfs σ a) (q:Holds w0 K L w):(rs.mapM (sH a.tmps)).run P w=.ok vs w:=by
 induction h with
 | nil=>simp
 | cons h E l=>simp[List.mapM_cons,ak,h.run D q,l]
theorem vB {fn:Func} {rs:List ResultVar} {vs:List Value} (l:fn.results=rs.toArray) (h:iD P σ L rs vs) {a:Act} {w:World} (D:At N dfs σ a) (q:Holds w0 K L w):(results fn a.tmps).run P w=.ok (rF vs) w:=by
 have h1:=h.run D q
 have h2:(fn.results.mapM (sH a.tmps)).run P w=.ok vs.toArray w:=by
  rw[l,List.mapM_toArray,map_eq_pure_bind,ak,h1];rfl
 have E:results fn a.tmps=(do let vs ← fn.results.mapM (sH a.tmps);pure (if h:vs.size=1 then vs[0] else .tuple vs)):=rfl
 rw[E,ak,h2]
 rcases vs with _ | ⟨v,_ | ⟨u,vs⟩⟩
 ·rfl
 ·rfl
 ·simp[rF]
theorem eO {fn:Func} {rs:List ResultVar} {vs:List Value} {β:Type} {V:β→Value} {Bs:β→List Asn} {e:Exit} (b:β) (he:e=.ret∨e=.normal) (q:fn.results=rs.toArray) (l:iD P σ L rs vs) (hv:rF vs=V b) (G:ap L (Bs b) R) :
  TX w0 K N [] (bodyPostM F 0 P fn (FR P V Bs w0 K)) e σ L:=by
 intro a w E D
 have h1:=vB q l E D
 have h2:LeavesInM F 0 P fn a.tmps (FR P V Bs w0 K) a.defers .returning w:=by
  rw[E.2.1]
  exact⟨rF vs,h1,b,by rw[hv],D.weaken G⟩
 rcases he with rfl | rfl <;> exact h2
def eZ (d:Nat):Asn:=obj d (.deferred (some []))
theorem aN.marks {w:World}:∀ {ds:List Nat} {C:Nat→Prop},aN (ds.map eZ) C w→ds.Nodup∧(∀d∈ds,w.heap[d]?=some (.deferred (some [])))∧∀k,C k↔k∈ds
 | [],C,h=>⟨List.nodup_nil,by simp,fun k=>by simp;exact h k⟩
 | d::ds,C,⟨C1,C2,h1,h2,h3,h4⟩=>by
  obtain⟨D,q,l⟩:=aN.marks h2
  have hd:∀k,C1 k↔k=d:=h1.1
  refine⟨ix.2 ⟨fun hm=>h3 d ((hd d).2 rfl) ((l d).2 hm),D⟩,?_,fun k=>by rw[h4,hd,l];simp⟩
  intro e he
  rcases bE.1 he with rfl | he
  ·exact h1.2
  ·exact q e he
theorem zF {fn:Func} {tmps:Array Value} {E:Ending→World→Prop} (ds:List Nat) {w:World} (hm:ap L (ds.map eZ) L') (G:Holds w0 K L w)
  (h:∀w',Holds w0 K L' w'→∃v,(results fn tmps).run P w'=.ok v w'∧E (.returned v) w'):LeavesInM bn 0 P fn tmps E (mQ ds) .returning w:=by
 obtain⟨C,hL,hx⟩:=G
 obtain⟨C1,C2,h1,h2,H,q⟩:=hm C w hL
 obtain⟨J,I,D⟩:=aN.marks h1
 refine Dk ds w J I fun w' hf hsz=>h w' ?_
 refine⟨C2,h2.loc (by omega) (fun j hj=>hf.keep j (h2.lt j hj) (fun l=>H j ((D j).2 l) hj)),hx.1.trans' hf (fun i hi l=>?_),fun j hj=>?_⟩
 ·rcases hx.2 i ((q i).2 (.inl ((D i).2 l))) with h | h
  ·exact h
  ·omega
 ·rcases hx.2 j ((q j).2 (.inr hj)) with h | h
  ·exact .inl h
  ·exact .inr (by omega)
theorem lS {fn:Func} {rs:List ResultVar} {vs:List Value} {β:Type} {V:β→Value} {Bs:β→List Asn} {e:Exit} (ds:List Nat) (b:β) (he:e=.ret∨e=.normal) (hm:ap L (ds.map eZ) L') (D:fn.results=rs.toArray)
  (q:iD P σ L' rs vs) (hv:rF vs=V b) (H:ap L' (Bs b) R):TX w0 K N (mQ ds) (bodyPostM bn 0 P fn (FR P V Bs w0 K)) e σ L:=by
 intro a w E G
 have h2:LeavesInM bn 0 P fn a.tmps (FR P V Bs w0 K) a.defers .returning w:=by
  rw[E.2.1]
  exact zF ds hm G fun w' l=>⟨rF vs,vB D q E l,b,by rw[hv],l.weaken H⟩
 rcases he with rfl | rfl <;> exact h2
def qJ (P:Program) (gf:FuncId) (caps:List Value) {α:Type} (enc:α→List Value) (xs:List α) (RO:List (Nat×Obj)):Prop :=
 ∀w,(∀p∈RO,w.heap[p.1]?=some p.2)→xG P gf caps.toArray (fun x=>(enc x).toArray) xs (fun k=>∃p∈RO,p.1=k) w
def tH (I:(Nat→Prop)→World→Prop) (hI:∀C W W',I C W→W.heap.size≤W'.heap.size→(∀k,C k→W'.heap[k]?=W.heap[k]?)→I C W'):Asn :=
 ⟨fun C w=>I C w∧∀k,C k→k<w.heap.size,fun h=>h.2,fun h hs hk=>⟨hI _ _ _ h.1 hs hk,fun k hC=>eA (h.2 k hC) hs⟩⟩
def FY {α:Type} (xs:List α) (I X:List α→Asn) (w0:World) (K:Nat→Prop) (e:Ending) (w:World):Prop :=
 (∃v,e=.returned v)∧(Holds w0 K [I xs] w∨∃pre x post,xs=pre++x::post∧Holds w0 K [X (pre++[x])] w)
theorem qJ.intro {gf:FuncId} {fn:Func} {q:List Value} {α:Type} {enc:α→List Value} {xs:List α} (hf:P.funcs[gf]?=some fn) (hb:fn.body=some c) (hn:fn.ntmps=N) (hN:q.length+1≤N)
  (h:∀l w0 K (I X:List α→Asn),Ro w0 K RO→YC P l enc xs I X w0 K →
   TC bn P w0 K N [] (bodyPostM bn 0 P fn (FY xs I X w0 K)) c (qI (.func (.yield l) #[] #[]::q)) [I []]):qJ P gf q enc xs RO:=by
 subst hn
 intro w U l I X C0 W hD hsz H V O hy h0
 have T:Ro W C0 RO:=fun p hp=>⟨(hD p.1 ⟨p,hp,rfl⟩).2.trans (U p hp),fun hc=>(H _ hc).2 ⟨p,hp,rfl⟩⟩
 have:=h l W C0 (fun pre=>tH (I pre) (fun C W W'=>V pre C W W')) (fun pre=>tH (X pre) (fun C W W'=>O pre C W W')) T (fun pre x post C W1 D he hi=>by
  obtain⟨f1,t1,a1,b1,M,J⟩:=hy pre x post C W1 D he hi.1
  refine⟨f1,t1,a1,b1,M,J.mono ?_⟩
  rintro e w2 ⟨b,rfl,C',hx,hc⟩
  have E:∀k,C' k→k<w2.heap.size:=fun k hk=>by
   have:=hx.1.size
   rcases hx.2 k hk with h | h
   ·have:=hi.2 k h;omega
   ·exact h.2
  exact⟨b,rfl,C',hx,hc.imp (fun h=>⟨h.1,h.2,E⟩) (fun h=>⟨h.1,h.2,E⟩)⟩)
 have hs:(Value.func (.yield l) #[] #[]::q).toArray=#[.func (.yield l) #[] #[]]++q.toArray:=by simp
 rw[← hs]
 refine (tD hf hb (this _ W (tG _ (by simpa using hN)) ⟨C0,aN.one ⟨h0,fun k hk=>(H k hk).1⟩,cF.refl _ _⟩)).mono ?_
 rintro e w' ⟨he,G⟩
 refine⟨he,?_⟩
 rcases G with⟨C',G,hx⟩ | ⟨pre,x,post,D,C',G,hx⟩
 ·obtain⟨C1,C2,Z,Y,_,g4⟩:=G
  have:C'=C1:=funext fun k=>propext (by rw[g4];exact⟨fun h=>h.resolve_right (Y k),.inl⟩)
  subst this
  exact⟨C',hx,.inl Z.1⟩
 ·obtain⟨C1,C2,Z,Y,_,g4⟩:=G
  have:C'=C1:=funext fun k=>propext (by rw[g4];exact⟨fun h=>h.resolve_right (Y k),.inl⟩)
  subst this
  exact⟨C',hx,.inr ⟨pre,x,post,D,Z.1⟩⟩
theorem tI {fn:Func} {α:Type} {xs:List α} {I X:List α→Asn} {e:Exit} (ds:List Nat) (he:e=.ret∨e=.normal) (hm:ap L (ds.map eZ) L') (q:fn.results=#[]) (hA:I xs=A) (G:ap L' [A] R) :
  TX w0 K N (mQ ds) (bodyPostM bn 0 P fn (FY xs I X w0 K)) e σ L:=by
 subst hA
 intro a w D E
 have h2:LeavesInM bn 0 P fn a.tmps (FY xs I X w0 K) a.defers .returning w:=by
  rw[D.2.1]
  exact zF ds hm E fun w' l=>⟨_,vB (rs:=[]) q .nil D l,⟨_,rfl⟩,.inl (l.weaken G)⟩
 rcases he with rfl | rfl <;> exact h2
theorem sI {fn:Func} {α:Type} {xs:List α} {I X:List α→Asn} {e:Exit} (ds:List Nat) (pre:List α) (x:α) (post:List α) (q:xs=pre++x::post) (he:e=.ret∨e=.normal) (hm:ap L (ds.map eZ) L') (D:fn.results=#[]) (H:ap L' [X (pre++[x])] R) :
  TX w0 K N (mQ ds) (bodyPostM bn 0 P fn (FY xs I X w0 K)) e σ L:=by
 intro a w E G
 have h2:LeavesInM bn 0 P fn a.tmps (FY xs I X w0 K) a.defers .returning w:=by
  rw[E.2.1]
  exact zF ds hm G fun w' l=>⟨_,vB (rs:=[]) D .nil E l,⟨_,rfl⟩,.inr ⟨pre,x,post,q,l.weaken H⟩⟩
 rcases he with rfl | rfl <;> exact h2
def RQ {α β γ:Type} (Inv:List α→β→Prop) (LI:List α→β→List Asn) (X:Code→List α→γ→Prop) (LX:Code→List α→γ→List Asn) (pre:List α) (w1:World) (K1:Nat→Prop):Exit→Act→World→Prop
 | .normal,_,w=>∃b,Inv pre b∧Holds w1 K1 (LI pre b) w
 | .ret,_,w=>∃b,X .ret pre b∧Holds w1 K1 (LX .ret pre b) w
 | .exit id,_,w=>∃b,X (.exit id) pre b∧Holds w1 K1 (LX (.exit id) pre b) w
 | .goto l,_,w=>∃b,X (.goto l) pre b∧Holds w1 K1 (LX (.goto l) pre b) w
 | .panic _,_,_=>False
 | .outgrown,_,_=>False
section
variable {α β γ:Type} {Inv:List α→β→Prop} {LI:List α→β→List Asn} {X:Code→List α→γ→Prop} {LX:Code→List α→γ→List Asn} {pre:List α}
theorem kP (b:β) (h:Inv pre b) (q:ap L (LI pre b) R):TX w0 K N dfs (RQ Inv LI X LX pre w0 K) .normal σ L:=fun a w D l=>⟨b,h,l.weaken q⟩
theorem lJ (b:γ) (h:X .ret pre b) (q:ap L (LX .ret pre b) R):TX w0 K N dfs (RQ Inv LI X LX pre w0 K) .ret σ L:=fun a w D l=>⟨b,h,l.weaken q⟩
theorem I4 {id:Nat} (b:γ) (h:X (.exit id) pre b) (q:ap L (LX (.exit id) pre b) R):TX w0 K N dfs (RQ Inv LI X LX pre w0 K) (.exit id) σ L:=fun a w D l=>⟨b,h,l.weaken q⟩
end
def vC (ps:List Nat) (vs:List Value) (σ:List (Nat×Value)):List (Nat×Value):=(ps.zip vs).foldl (fun σ p=>p::σ) σ
theorem At.zip {a:Act} (h:At N dfs σ a) (ps:List Nat) (vs:List Value) (hp:∀p∈ps,p<N):At N [] (vC ps vs σ) { tmps:=(ps.toArray.zip vs.toArray).foldl (fun t p=>t.setIfInBounds p.1 p.2) a.tmps,defers:=[] }:=by
 have key:∀ (l:List (Nat×Value)) (σ:List (Nat×Value)) (D:Array Value),(∀p∈l,p.1<N)→At N [] σ { tmps:=D,defers:=[] } →
   At N [] (l.foldl (fun σ p=>p::σ) σ) { tmps:=l.foldl (fun t p=>t.setIfInBounds p.1 p.2) D,defers:=[] }:=by
  intro l
  induction l with
  | nil=>intro σ D _ h;exact h
  | cons p l G=>
   intro σ D hp h
   simp only[List.foldl_cons]
   exact G _ _ (fun q H=>hp q (aq _ H)) (h.put (hp p (aB ..)) p.2)
 have:=key (ps.zip vs) σ a.tmps (fun p E=>hp _ (List.of_mem_zip E).1) ⟨h.1,rfl,h.2.2⟩
 simpa [vC] using this
theorem Holds.split2 {w:World} (h:Holds w0 K L w) (G:ap L As R):∃C1 C2,aN As C1 w∧aN R C2 w∧(∀k,C1 k→¬ C2 k)∧cF K C1 w0 w∧∀Bs l w',cF C1 l w w'→aN Bs l w'→Holds w0 K (R++Bs) w':=by
 have h0:=h
 obtain⟨C,hL,hx⟩:=h
 obtain⟨C1,C2,h1,h2,D,q⟩:=G C w hL
 refine⟨C1,C2,h1,h2,D,⟨hx.1,fun k hk=>hx.2 k ((q k).2 (.inl hk))⟩,fun Bs l w' he hB=>?_⟩
 have hsz:=he.1.size
 have E:aN R C2 w':=h2.loc hsz (fun k hk=>he.1.keep k (h2.lt k hk) (fun h=>D k h hk))
 have hd:∀k,C2 k→¬ l k:=fun k hk h'=>by
  rcases he.2 k h' with h | h
  ·exact D k h hk
  ·have:=h2.lt k hk;omega
 refine⟨_,E.append hB hd,hx.1.trans' he.1 (fun i hi hc=>?_),fun k hk=>?_⟩
 ·rcases hx.2 i ((q i).2 (.inl hc)) with h | h
  ·exact h
  ·omega
 ·have:=hx.1.size
  rcases hk with hk | hk
  ·rcases hx.2 k ((q k).2 (.inr hk)) with h | h
   ·exact .inl h
   ·exact .inr (by omega)
  ·rcases he.2 k hk with h | h
   ·rcases hx.2 k ((q k).2 (.inl h)) with h | h
    ·exact .inl h
    ·exact .inr (by omega)
   ·exact .inr (by omega)
def nb (R:List Asn) (RO:List (Nat×Obj)):List (Nat×Obj)→Prop
 | []=>True
 | p::ps=>((∃k:Nat,R[k]?=some (obj p.1 p.2))∨∃k:Nat,RO[k]?=some p)∧nb R RO ps
theorem nb.mem {R:List Asn} {RO:List (Nat×Obj)}:∀ {D:List (Nat×Obj)},nb R RO D→∀p∈D,((∃k:Nat,R[k]?=some (obj p.1 p.2))∨∃k:Nat,RO[k]?=some p)
 | [],_,p,hp=>by cases hp
 | q::D,h,p,hp=>by
  rcases bE.1 hp with rfl | hp
  ·exact h.1
  ·exact nb.mem h.2 p hp
theorem aN.mem {b:Nat} {o:Obj}:∀ {R:List Asn} {C:Nat→Prop} {w:World} {k:Nat},R[k]?=some (obj b o)→aN R C w→w.heap[b]?=some o∧C b:=by
 intro R C w k hk h
 obtain⟨C1,C2,h1,_,_,l⟩:=aN.take hk h
 exact⟨h1.2,(l b).2 (.inl ((h1.1 b).2 rfl))⟩
theorem Ro.snoc {RO:List (Nat×Obj)} {b:Nat} {o:Obj} (h:Ro w0 K RO) (q:w0.heap[b]?=some o) (l:¬ K b):Ro w0 K (RO++[(b,o)]):=fun p hp=>by
 rcases bO.1 hp with hp | hp
 ·exact h p hp
 ·rw[List.mem_singleton.1 hp];exact⟨q,l⟩
section
variable {α β γ δ:Type}
theorem sJ {gf:FuncId} {M:List Value} {enc:α→List Value} {xs:List α} {D:List (Nat×Obj)} {ps:List Nat} {assign body:Code} (a0:Ro w0 K RO)
  (hg:ev σ x=some (.func (.func gf) #[] M.toArray)) (a5:∀args w,(callFunc gf args).run P w=.ok (.enter gf args) w) (hY:qJ P gf M enc xs D)
  (Inv:List α→β→Prop) (LI:List α→β→List Asn) (X:Code→List α→γ→Prop) (LX:Code→List α→γ→List Asn) (σJ:List α→α→β→δ→List (Nat×Value)) (LJ:List α→α→β→δ→List Asn) (b0:β)
  (h0:Inv [] b0) (hs:ap L (LI [] b0) R) (hD:nb R RO D) (a7:∀x,(enc x).length=ps.length) (a8:∀p∈ps,p<N)
  (J:∀l r pre e post b O V,xs=pre++e::post→cF K V w0 O→Ro O V (RO++[(l,.loop r)])→Inv pre b →
   TC (Fence.wide.inRound l) P O V N [] (_root_.Go.Exit.then (fun a w=>∃j,St O V N [] (σJ pre e b j) (LJ pre e b j) a w) (fun _ _ _=>False)) assign (vC ps (enc e) σ) (LI pre b))
  (aw:∀l r pre e post b j O V,xs=pre++e::post→cF K V w0 O→Ro O V (RO++[(l,.loop r)])→Inv pre b→TC (Fence.wide.inRound l) P O V N [] (RQ Inv LI X LX (pre++[e]) O V) body (σJ pre e b j) (LJ pre e b j))
  (ao:∀d b,Inv xs b→TX w0 K N ({ target:=.collected d,args:=#[] }::dfs) Q .normal σ (R++(LI xs b++[eZ d])))
  (ag:∀d c pre e post b,xs=pre++e::post→X c (pre++[e]) b→TC bn P w0 K N ({ target:=.collected d,args:=#[] }::dfs) Q c σ (R++(LX c (pre++[e]) b++[eZ d]))) :
  TC bn P w0 K N dfs Q (.rangeFunc x ps.toArray assign body) σ L:=by
 intro a w ha hw
 obtain⟨C1,C2,g1,g2,g3,gx,I⟩:=hw.split2 hs
 have a2:∀p∈D,w.heap[p.1]?=some p.2∧¬ C1 p.1:=fun p hp=>by
  rcases hD.mem p hp with⟨k,hk⟩ | ⟨k,hk⟩
  ·obtain⟨h1,h2⟩:=aN.mem hk g2
   exact⟨h1,fun h=>g3 _ h h2⟩
  ·refine⟨hw.ro a0 hk,fun h=>?_⟩
   obtain⟨h1,h2⟩:=a0 _ (aJ hk)
   rcases gx.2 _ h with h | h
   ·exact h2 h
   ·have:=ki h1;omega
 have a4:=g1.lt
 have Y:∀ {C:Nat→Prop} {W:World},cF K C w0 W→Ro W C RO:=fun {C W} hx p hp=>by
  obtain⟨h1,h2⟩:=a0 p hp
  refine⟨hx.1.at h1 h2,fun h=>?_⟩
  rcases hx.2 _ h with h | h
  ·exact h2 h
  ·have:=ki h1;omega
 refine Dj (gf:=gf) (lb:=M.toArray) (ha.ev hg) a5 (hY w (fun p hp=>(a2 p hp).1)) (fun k ⟨p,hp,hk⟩=>⟨hk ▸ ki (a2 p hp).1,rfl⟩) (bJ _) (fun e=>by simp[a7])
  (fun pre C W=>∃b,Inv pre b∧aN (LI pre b) C W) (fun c pre C W=>∃b,X c pre b∧aN (LX c pre b) C W)
  (fun pre e a1 C W=>∃b j,Inv pre b∧At N [] (σJ pre e b j) a1∧aN (LJ pre e b j) C W) ?_ ?_ ?_ C1 (fun k hk=>⟨a4 k hk,fun⟨p,hp,e⟩=>(a2 p hp).2 (e ▸ hk)⟩) ⟨b0,h0,g1⟩ ?_ ?_ ?_ ?_
 ·rintro pre C W W' ⟨b,h1,h2⟩ hs hk;exact⟨b,h1,h2.loc hs hk⟩
 ·rintro c pre C W W' ⟨b,h1,h2⟩ hs hk;exact⟨b,h1,h2.loc hs hk⟩
 ·rintro pre e a1 _ C W W' ⟨b,j,h1,h2,U⟩ hs hk;exact⟨b,j,h1,h2,U.loc hs hk⟩
 ·rintro l pre e post C W1 G q ⟨b,Z,hi⟩ hn hl ⟨r,hr⟩
  have H:cF K C w0 W1:=gx.trans q
  refine wpIn_mono (J l r pre e post b W1 C G H ((Y H).snoc hr hn) Z _ W1 (ha.zip ps (enc e) a8) ⟨C,hi,cF.refl _ _⟩) ?_
  rintro ex a' w' T
  cases ex with
  | normal=>
   obtain⟨j,hj,C',bb,a6⟩:=T
   exact⟨C',a6,b,j,Z,hj,bb⟩
  | _=>exact T
 ·rintro l pre e post C W1 a1 G q ⟨b,j,Z,a9,hi⟩ hn hl ⟨r,hr⟩
  have H:cF K C w0 W1:=gx.trans q
  refine wpIn_mono (aw l r pre e post b j W1 C G H ((Y H).snoc hr hn) Z a1 W1 a9 ⟨C,hi,cF.refl _ _⟩) ?_
  rintro ex a' w' T
  cases ex with
  | normal=>obtain⟨b',h1,C',h2,U⟩:=T;exact⟨C',U,b',h1,h2⟩
  | ret=>obtain⟨b',h1,C',h2,U⟩:=T;exact⟨C',U,b',h1,h2⟩
  | exit id=>obtain⟨b',h1,C',h2,U⟩:=T;exact⟨C',U,b',h1,h2⟩
  | goto id=>obtain⟨b',h1,C',h2,U⟩:=T;exact⟨C',U,b',h1,h2⟩
  | panic _=>exact T
  | outgrown=>exact T
 ·rintro d C W q ⟨b,Z,hi⟩ hd a3 E
  refine ao d b Z _ W ⟨ha.1,by rw[← ha.2.1],ha.2.2⟩ (I _ (fun k=>C k∨k=d) W ⟨q.1,fun k hk=>?_⟩ ?_)
  ·rcases hk with hk | rfl
   ·exact q.2 k hk
   ·exact .inr ⟨hd,ki E⟩
  ·exact hi.append (aN.one ⟨fun k=>_root_.Iff.rfl,E⟩) (fun k hk e=>a3 (e ▸ hk))
 ·rintro d c pre e post C W G q ⟨b,Z,hi⟩ hd a3 E
  refine ag d c pre e post b G Z _ W ⟨ha.1,by rw[← ha.2.1],ha.2.2⟩ (I _ (fun k=>C k∨k=d) W ⟨q.1,fun k hk=>?_⟩ ?_)
  ·rcases hk with hk | rfl
   ·exact q.2 k hk
   ·exact .inr ⟨hd,ki E⟩
  ·exact hi.append (aN.one ⟨fun k=>_root_.Iff.rfl,E⟩) (fun k hk e=>a3 (e ▸ hk))
end
end
def iE:List Nat→Bool
 | []=>true
 | x::l=>!l.contains x&&iE l
theorem tJ:∀ {l:List Nat},iE l=true→l.Nodup
 | [],_=>List.nodup_nil
 | x::l,h=>by
  simp only[iE,aR,cN] at h
  exact ix.2 ⟨by have:=h.1;simpa using this,tJ h.2⟩
open Classical in
noncomputable def dl (D:Nat→Prop):List (Nat×Nat×Value)→List (Nat×Value)
 | []=>[]
 | (i,t,v)::r=>if D i then (t,v)::dl D r else dl D r
theorem zG {D:Nat→Prop} {σ:List (Nat×Value)}:∀ {l:List (Nat×Nat×Value)} {m i t:Nat} {v:Value},(l.map (fun p=>p.2.1)).Nodup→l[m]?=some (i,t,v)→D i→(dl D l++σ).lookup t=some v
 | [],m,i,t,v,_,hm,_=>by simp at hm
 | (i',t',v')::r,0,i,t,v,hu,hm,hd=>by
  simp at hm
  obtain⟨rfl,rfl,rfl⟩:=hm
  simp[dl,hd]
 | (i',t',v')::r,m+1,i,t,v,hu,hm,hd=>by
  simp only[aE,ix] at hu
  have q:r[m]?=some (i,t,v):=by simpa using hm
  have G:=zG (σ:=σ) hu.2 q hd
  have E:(t==t')=false:=by
   have:t∈r.map (fun p=>p.2.1):=aW.2 ⟨_,aJ q,rfl⟩
   simp;rintro rfl;exact hu.1 this
  simp only[dl]
  split
  ·simp only[bp,dD,E];exact G
  ·exact G
theorem ja {D:Nat→Prop} {σ:List (Nat×Value)} {l:List (Nat×Nat×Value)} {m i t:Nat} {v:Value} (hu:iE (l.map (fun p=>p.2.1))=true) (hm:l[m]?=some (i,t,v)) (hd:D i):(dl D l++σ).lookup t=some v:=zG (tJ hu) hm hd
theorem dE {D:Nat→Prop} {σ:List (Nat×Value)} {t:Nat} {v:Value}:∀ {l:List (Nat×Nat×Value)},(l.map (fun p=>p.2.1)).contains t=false→σ.lookup t=some v→(dl D l++σ).lookup t=some v
 | [],_,h=>h
 | (i',t',v')::r,hc,h=>by
  simp only[aE,fV,cd] at hc
  have q:=dE (D:=D) hc.2 h
  simp only[dl]
  split
  ·simp only[bp,dD,hc.1];exact q
  ·exact q
theorem DE {D:Nat→Prop} {σ:List (Nat×Value)} {t:Nat}:∀ {l:List (Nat×Nat×Value)},(l.map (fun p=>p.2.1)).contains t=false→(dl D l++σ).lookup t=σ.lookup t
 | [],_=>rfl
 | (i',t',v')::r,hc=>by
  simp only[aE,fV,cd] at hc
  have q:=DE (D:=D) (σ:=σ) hc.2
  simp only[dl]
  split
  ·simp only[bp,dD,hc.1];exact q
  ·exact q
theorem DF {D:Nat→Prop} {σ:List (Nat×Value)} {q:List (Nat×Nat×Value)} {m i t:Nat} {v:Value} (hu:(q.map (fun p=>p.2.1)).Nodup) (hi:(q.map (fun p=>p.1)).Nodup) (hm:q[m]?=some (i,t,v)) :
  po ((t,v)::(dl D q++σ)) (dl (fun j=>D j∨j=i) q++σ):=by
 have key:∀ (l:List (Nat×Nat×Value)) (s:Nat) (u:Value),(∀p∈l,p.1=i→p.2.1=t∧p.2.2=v)→(∀p∈l,p.2.1=t→p.1=i)→(Go.Proofs.YtifpjbgnikjglaaGreatDoor.dl (fun j=>D j∨j=i) l++σ).lookup s=some u→s≠t→(Go.Proofs.YtifpjbgnikjglaaGreatDoor.dl D l++σ).lookup s=some u:=by
  intro l
  induction l with
  | nil=>intro s u _ _ h _;exact h
  | cons p l I=>
   obtain⟨V,U,Z⟩:=p
   intro s u h1 h2 h E
   have I:=fun h=>I s u (fun p hp=>h1 p (aq _ hp)) (fun p hp=>h2 p (aq _ hp)) h E
   simp only[Go.Proofs.YtifpjbgnikjglaaGreatDoor.dl] at h ⊢
   by_cases hd:D V
   ·rw[ay (.inl hd)] at h
    rw[ay hd]
    simp only[bp,dD] at h ⊢
    split at h
    ·exact h
    ·exact I h
   ·rw[ar hd]
    by_cases H:V=i
    ·rw[ay (.inr H)] at h
     obtain⟨Y,_⟩:=h1 _ (aB ..) H
     have W:U=t:=Y
     simp only[bp,dD] at h
     split at h
     ·rename_i e
      exact absurd ((by simpa using e:s=U).trans W) E
     ·exact I h
    ·rw[ar (by rintro (h | h);exact hd h;exact H h)] at h
     exact I h
 have h1:∀p∈q,p.1=i→p.2.1=t∧p.2.2=v:=by
  intro p hp e
  obtain⟨n,J⟩:=gD.1 hp
  have e1:(q.map (fun p=>p.1))[n]?=some i:=by simp[J,e]
  have e2:(q.map (fun p=>p.1))[m]?=some i:=by simp[hm]
  have T:n<(q.map (fun p=>p.1)).length:=(au.1 e1).1
  have:=(rr T hi).1 (e1.trans e2.symm)
  subst this
  rw[J] at hm;cases hm;exact⟨rfl,rfl⟩
 have h2:∀p∈q,p.2.1=t→p.1=i:=by
  intro p hp e
  obtain⟨n,J⟩:=gD.1 hp
  have e1:(q.map (fun p=>p.2.1))[n]?=some t:=by simp[J,e]
  have e2:(q.map (fun p=>p.2.1))[m]?=some t:=by simp[hm]
  have T:n<(q.map (fun p=>p.2.1)).length:=(au.1 e1).1
  have:=(rr T hu).1 (e1.trans e2.symm)
  subst this
  rw[J] at hm;cases hm;rfl
 intro a N dfs M
 refine⟨M.1,M.2.1,fun s u O=>?_⟩
 by_cases G:s=t
 ·subst G
  have:=zG (σ:=σ) (D:=fun j=>D j∨j=i) hu hm (.inr rfl)
  rw[this] at O;cases O
  exact M.2.2 _ _ (by simp[dD])
 ·refine M.2.2 s u ?_
  have E:(s==t)=false:=by simpa using G
  simp only[dD,E]
  exact key q s u h1 h2 O G
theorem DG {D:Nat→Prop} {i:Nat}:∀ {l:List (Nat×Nat×Value)},(l.map (fun p=>p.1)).contains i=false→dl (fun j=>D j∨j=i) l=dl D l
 | [],_=>rfl
 | (i',t',v')::r,hc=>by
  simp only[aE,fV,cd] at hc
  have E:=DG (D:=D) hc.2
  have q:¬ i'=i:=by have:=hc.1;simp at this;exact fun h=>this h.symm
  simp only[dl,E]
  by_cases hd:D i'
  ·rw[ay (.inl hd),ay hd]
  ·rw[ar hd,ar (by rintro (h | h);exact hd h;exact q h)]
theorem tK:∀ {D:Nat→Prop} {l:List (Nat×Nat×Value)},(∀p∈l,D p.1)→dl D l=l.map (fun p=>p.2)
 | D,[],_=>rfl
 | D,(i',t',v')::r,h=>by
  simp only[dl,aE]
  rw[ay (h _ (aB ..)),tK (fun p hp=>h p (aq _ hp))]
theorem xM:∀ {l:List (Nat×Nat×Value)},dl (fun _=>False) l=[]
 | []=>rfl
 | (i',t',v')::r=>by simp[dl,xM]
def tL (acc:List (List Nat)) (o:Oper):List (List Nat):=acc++[(iR o++(iR o).flatMap (fun j=>acc.getD j [])).eraseDups]
def pZ (l:List Oper):List (List Nat):=l.foldl tL []
def tM (l:List Oper) (n:Nat):Bool:=((pZ l).zipIdx.drop n).all fun p=>(List.range p.2).all fun j=>p.1.contains j
def DH (full:List Oper) (acc:List (List Nat)):Prop :=
 ∀i o,i<acc.length→full[i]?=some o→∀j∈acc.getD i [],∀ (D:Nat→Prop),(∀k o',full[k]?=some o'→D k→∀j∈iR o',D j)→(∀j∈iR o,D j)→D j
theorem zH:∀ (l done:List Oper) (acc:List (List Nat)),acc.length=done.length→DH (done++l) acc→(l.foldl tL acc).length=(done++l).length∧DH (done++l) (l.foldl tL acc)
 | [],done,acc,hl,hB=>⟨by simpa using hl,hB⟩
 | o::l,done,acc,hl,hB=>by
  have:=zH l (done++[o]) (tL acc o) (by simp[tL,hl]) (by
   rw[aM]
   intro i T hi H j hj D O hd
   unfold tL at hi hj
   by_cases E:i<acc.length
   ·rw[cC,fB E] at hj
    exact hB i T E H j (by rw[cC];exact hj) D O hd
   ·have M:i=acc.length:=by simp at hi;omega
    subst M
    have G:o=T:=by rw[hl] at H;simpa using H
    subst G
    rw[cC] at hj
    simp only[List.getElem?_concat_length,Option.getD_some,List.mem_eraseDups,bO,fm] at hj
    rcases hj with hj | ⟨k,hk,hj⟩
    ·exact hd j hj
    ·have J:=hd k hk
     by_cases I:k<acc.length
     ·obtain⟨ok,q⟩:∃ok,(done++o::l)[k]?=some ok:=⟨_,aP (by simp;omega)⟩
      exact hB k ok I q j hj D O (O k ok q J)
     ·rw[cC,gE (by omega)] at hj
      simp at hj)
  rwa [aM] at this
theorem zJ (l:List Oper):(pZ l).length=l.length:=(zH l [] [] rfl (fun i o h=>by simp at h)).1
theorem DI (l:List Oper) (i:Nat) (o:Oper) (E:l[i]?=some o):∀j∈(pZ l).getD i [],∀ (D:Nat→Prop),(∀k q,l[k]?=some q→D k→∀j∈iR q,D j)→(∀j∈iR o,D j)→D j :=
 (zH l [] [] rfl (fun i o h=>by simp at h)).2 i o (by have:=zJ l;unfold pZ at this;rw[this];exact (au.1 E).1) E
section
variable {F:Fence} {P:Program} {w0:World} {K:Nat→Prop} {N:Nat} {dfs:List Deferred} {Q:Exit→Act→World→Prop} {σ:List (Nat×Value)} {L:List Asn}
def bM (F:Fence) (P:Program) (w0:World) (K:Nat→Prop) (N:Nat) (dfs:List Deferred) (Q:Exit→Act→World→Prop) (ops:Array Oper) (σ:List (Nat×Value)) (L:List Asn) (vals:List (Nat×Nat×Value)):List Oper→Nat→Prop
 | [],_=>True
 | o::rest,i=>(∀D:Nat→Prop,¬ D i→(∀j∈iR o,D j)→Clo ops D→iE (vals.map (fun p=>p.2.1))=true→iE (vals.map (fun p=>p.1))=true →
   TO F P w0 K N dfs ops (_root_.Go.Exit.then (fun a w=>At N dfs (dl (fun j=>D j∨j=i) vals++σ) a∧Holds w0 K L w) Q) [o] (dl D vals++σ) L)∧bM F P w0 K N dfs Q ops σ L vals rest (i+1)
theorem bM.nil {ops:Array Oper} {l:List (Nat×Nat×Value)} {i:Nat}:bM F P w0 K N dfs Q ops σ L l [] i:=trivial
theorem bR {ops:Array Oper} {l:List (Nat×Nat×Value)} {o:Oper} {rest:List Oper} {i:Nat} (h:∀D:Nat→Prop,¬ D i→(∀j∈iR o,D j)→Clo ops D→iE (l.map (fun p=>p.2.1))=true→iE (l.map (fun p=>p.1))=true →
   TO F P w0 K N dfs ops (_root_.Go.Exit.then (fun a w=>At N dfs (dl (fun j=>D j∨j=i) l++σ) a∧Holds w0 K L w) Q) [o] (dl D l++σ) L) (q:bM F P w0 K N dfs Q ops σ L l rest (i+1)) :
  bM F P w0 K N dfs Q ops σ L l (o::rest) i:=⟨h,q⟩
theorem bM.get {ops:Array Oper} {q:List (Nat×Nat×Value)}:∀ {l:List Oper} {k:Nat},bM F P w0 K N dfs Q ops σ L q l k→∀i o,l[i]?=some o→∀D:Nat→Prop,¬ D (k+i)→(∀j∈iR o,D j)→Clo ops D→iE (q.map (fun p=>p.2.1))=true→iE (q.map (fun p=>p.1))=true →
   TO F P w0 K N dfs ops (_root_.Go.Exit.then (fun a w=>At N dfs (dl (fun j=>D j∨j=k+i) q++σ) a∧Holds w0 K L w) Q) [o] (dl D q++σ) L
 | [],k,_,i,o,h=>by simp at h
 | x::l,k,h,0,o,ho=>by simp at ho;subst ho;exact h.1
 | x::l,k,h,i+1,o,ho=>by
  have:=bM.get h.2 i o (by simpa using ho)
  rwa [show k+1+i=k+(i+1) by omega] at this
theorem vD {ops:Array Oper} {l:List (Nat×Nat×Value)} {D:Nat→Prop} (m:Nat) {i t:Nat} {v:Value} (hu:iE (l.map (fun p=>p.2.1))=true) (hi:iE (l.map (fun p=>p.1))=true) (hm:l[m]?=some (i,t,v)) :
  TO F P w0 K N dfs ops (_root_.Go.Exit.then (fun a w=>At N dfs (Go.Proofs.YtifpjbgnikjglaaGreatDoor.dl (fun j=>D j∨j=i) l++σ) a∧Holds w0 K L w) Q) [] ((t,v)::(Go.Proofs.YtifpjbgnikjglaaGreatDoor.dl D l++σ)) L:=fun a w E q=>⟨DF (tJ hu) (tJ hi) hm _ _ _ E,q⟩
theorem I5 {ops:Array Oper} {l:List (Nat×Nat×Value)} {D:Nat→Prop} {i:Nat} (h:(l.map (fun p=>p.1)).contains i=false) :
  TO F P w0 K N dfs ops (_root_.Go.Exit.then (fun a w=>At N dfs (dl (fun j=>D j∨j=i) l++σ) a∧Holds w0 K L w) Q) [] (dl D l++σ) L:=fun a w E q=>⟨by rw[DG h];exact E,q⟩
theorem jb {ops:Array Oper} {S:List (Nat×Value)} {j t:Nat} {b:Bool} (hj:(ops[j]?).bind (·.dst)=some t) (h:S.lookup t=some (.bool b)):gd ops S (some (j,b))=some true:=by
 simp[gd,hj,h]
theorem RA {ops:Array Oper} {S:List (Nat×Value)} {j t:Nat} {b:Bool} (hj:(ops[j]?).bind (·.dst)=some t) (h:S.lookup t=some (.bool (!b))):gd ops S (some (j,b))=some false:=by
 simp[gd,hj,h]
theorem RC {ops:Array Oper} {S:List (Nat×Value)} {j t:Nat} {b:Bool} (hj:(ops[j]?).bind (·.dst)=some t) (h:S.lookup t=some undef):gd ops S (some (j,b))=some false:=by
 simp[gd,hj,h,undef]
theorem I6 {id:Nat} {pre tail:List Oper} (E:List (Nat×Nat×Value)) (hm:P.follows .mixedOrders=true)
  (a7:((pre++tail).zipIdx.all fun (o,i)=>(iR o).all fun j=>decide (j<i))=true) (hT:tM (pre++tail) pre.length=true)
  (hval:E.all (fun p=>decide (p.1<pre.length))=true) (hu:iE (E.map (fun p=>p.2.1))=true) (hi:iE (E.map (fun p=>p.1))=true)
  (ao:bM F P w0 K N dfs Q (pre++tail).toArray σ L E pre 0)
  (O:TO F P w0 K N dfs (pre++tail).toArray Q tail (E.map (fun p=>p.2)++σ) L):TC F P w0 K N dfs Q (.region id (pre++tail).toArray true) σ L:=by
 intro a w ha hw
 have a2:∀ (D:Nat→Prop),Clo (pre++tail).toArray D→∀i o,pre.length≤i→(pre++tail)[i]?=some o→(∀j∈iR o,D j)→∀j<i,D j:=by
  intro D G i o hi M hd j hj
  have aw:=zJ (pre++tail)
  have a0:i<(pZ (pre++tail)).length:=by rw[aw];exact (au.1 M).1
  have h1:=bz.1 hT ((pZ (pre++tail))[i],i) (by
   rw[gD]
   refine⟨i - pre.length,?_⟩
   rw[fW,show pre.length+(i - pre.length)=i by omega,jM,aP a0];simp)
  have h2:=bz.1 h1 j (by simpa using hj)
  have h3:j∈(pZ (pre++tail)).getD i []:=by
   rw[cC,aP a0];simpa using h2
  exact DI _ i o M j h3 D (fun k o' hk=>G k o' (by simpa using hk)) hd
 obtain⟨J,hJ⟩:∃J:(Nat→Prop)→Act→World→Prop,J=(fun D a w=>Clo (pre++tail).toArray D∧((∃k,0<k∧(∀j,D j↔j<pre.length+k)∧wpListIn F 0 P (pre++tail).toArray Q (tail.drop k) a w)∨((∀j,D j→j<pre.length)∧At N dfs (dl D E++σ) a∧Holds w0 K L w))):=⟨_,rfl⟩
 refine zB hm (by simpa using a7) J (by subst hJ;exact
  ⟨fun i o _ h=>h.elim,.inr ⟨fun _ h=>h.elim,by rw[xM];exact ha,hw.drew⟩⟩) ?_ ?_
 ·have all:∀ (l:List Oper) (k:Nat),(∀i o,l[i]?=some o→(pre++tail)[k+i]?=some o)→fM F 0 P (pre++tail).toArray Q J l k:=by
   intro l
   induction l with
   | nil=>intro k _;trivial
   | cons o l ih=>
    intro k hl
    refine⟨?_,ih (k+1) (fun i o' a5=>by have:=hl (i+1) o' (by simpa using a5);rwa [show k+1+i=k+(i+1) by omega])⟩
    have M:(pre++tail)[k]?=some o:=hl 0 o rfl
    subst hJ
    rintro D a w hn hd ⟨G,hI⟩
    have V:Clo (pre++tail).toArray (fun j=>D j∨j=k):=G.add (by simpa using M) hd
    have tl:∀ (m:Nat),(∀j,D j↔j<pre.length+m)→wpListIn F 0 P (pre++tail).toArray Q (tail.drop m) a w→pre.length≤k →
      wpListIn F 0 P (pre++tail).toArray (_root_.Go.Exit.then (fun a w=>Clo (pre++tail).toArray (fun j=>D j∨j=k)∧((∃W,0<W∧(∀j,(D j∨j=k)↔j<pre.length+W)∧wpListIn F 0 P (pre++tail).toArray Q (tail.drop W) a w)∨((∀j,(D j∨j=k)→j<pre.length)∧At N dfs (dl (fun j=>D j∨j=k) E++σ) a∧Holds w0 K L w))) Q) [o] a w:=by
     intro m H q hk
     have bh:k=pre.length+m:=by
      have h1:¬ k<pre.length+m:=fun h=>hn ((H k).2 h)
      have h2:=a2 D G k o hk M hd
      by_cases h3:pre.length+m<k
      ·have:=(H _).1 (h2 _ h3);omega
      ·omega
     have Z:tail.drop m=o::tail.drop (m+1):=by
      rw[iq hk,show k - pre.length=m by omega] at M
      obtain⟨h1,h2⟩:=au.1 M
      rw[← h2];exact bB h1
     rw[Z] at q
     have ag:∀a' w',wpListIn F 0 P (pre++tail).toArray Q (tail.drop (m+1)) a' w'→(Clo (pre++tail).toArray (fun j=>D j∨j=k)∧((∃W,0<W∧(∀j,(D j∨j=k)↔j<pre.length+W)∧wpListIn F 0 P (pre++tail).toArray Q (tail.drop W) a' w')∨((∀j,(D j∨j=k)→j<pre.length)∧At N dfs (dl (fun j=>D j∨j=k) E++σ) a'∧Holds w0 K L w'))) :=
      fun a' w' h=>⟨V,.inl ⟨m+1,by omega,fun j=>by rw[H];omega,h⟩⟩
     have a1:wpListIn F 0 P (pre++tail).toArray (_root_.Go.Exit.then (wpListIn F 0 P (pre++tail).toArray Q (tail.drop (m+1))) Q) [o] a w:=by
      simp only[wpListIn] at q ⊢
      split
      ·rename_i Y
       rw[ay Y] at q
       unfold ob at q ⊢
       refine⟨q.1,?_⟩
       have T:=q.2
       generalize (o.semAt F.round a.eval).run P w=r at *
       cases r with
       | ok x w'=>
        cases x <;> simp only[fZ] at T ⊢ <;>
         first
          | exact T
          | exact⟨T.1,kC T.2 (fun e a3 he=>by cases e <;> exact he)⟩
          | exact⟨T.1,lE T.2 (fun _ _ he=>he)⟩
          | exact⟨T.1,kD T.2 (fun e a3 he=>by cases e <;> exact he)⟩
       | halt x w'=>cases x <;> simp only[fZ] at T ⊢ <;> exact T
      ·rename_i Y
       rw[ar Y] at q
       exact q
     exact pn ag a1
    rcases hI with⟨m,a6,H,q⟩ | ⟨H,I,U⟩
    ·refine tl m H q ?_
     have:¬ k<pre.length+m:=fun h=>hn ((H k).2 h)
     omega
    ·by_cases hk:k<pre.length
     ·have a4:pre[k]?=some o:=by rw[fB hk] at M;exact M
      have:=ao.get k o a4 D (by rwa [cg]) hd G hu hi a w I U
      rw[cg] at this
      refine pn (fun a' w' h=>⟨V,.inr ⟨fun j hj=>?_,h.1,h.2⟩⟩) this
      rcases hj with hj | rfl
      ·exact H j hj
      ·exact hk
     ·have hall:=a2 D G k o (by omega) M hd
      have bk:k=pre.length:=by
       by_cases h:pre.length<k
       ·have:=H _ (hall _ h);omega
       ·omega
      have bb:∀j,D j↔j<pre.length+0:=fun j=>⟨fun h=>by have:=H j h;omega,fun h=>hall j (by omega)⟩
      refine tl 0 bb ?_ (by omega)
      rw[oO]
      refine O a w ?_ U
      rw[tK (fun p hp=>hall _ (by have:=bz.1 hval p hp;simp at this;omega))] at I
      exact I
  exact all _ 0 (fun i o M=>by simpa using M)
 ·subst hJ
  rintro D a w H ⟨G,hI⟩
  have hsz:(pre++tail).toArray.size=pre.length+tail.length:=by simp
  rcases hI with⟨m,a6,a9,q⟩ | ⟨a8,I,U⟩
  ·have:tail.length≤m:=by
    by_cases h:m<tail.length
    ·have:=(a9 (pre.length+m)).1 (H _ (by rw[hsz];omega));omega
    ·omega
   rw[cO this] at q
   exact q
  ·have Z:tail=[]:=by
    rcases tail with _ | ⟨o,tail⟩
    ·rfl
    ·have:=a8 pre.length (H _ (by rw[hsz];simp));omega
   subst Z
   rw[tK (fun p hp=>H _ (by have:=bz.1 hval p hp;simp at this;rw[hsz];omega))] at I
   exact O a w I U
theorem DJ {D:Nat→Prop} {t:Nat} {v:Value}:∀ {l:List (Nat×Nat×Value)},(l.map (fun p=>p.2.1)).contains t=false→po ((t,v)::(Go.Proofs.YtifpjbgnikjglaaGreatDoor.dl D l++σ)) (Go.Proofs.YtifpjbgnikjglaaGreatDoor.dl D l++((t,v)::σ)):=by
 intro l hc a N dfs H
 refine⟨H.1,H.2.1,fun s u G=>H.2.2 s u ?_⟩
 by_cases q:s=t
 ·subst q
  rw[DE hc] at G
  simpa [dD] using G
 ·have E:(s==t)=false:=by simpa using q
  have:∀ (vs:List (Nat×Nat×Value)),(Go.Proofs.YtifpjbgnikjglaaGreatDoor.dl D vs++((t,v)::σ)).lookup s=(Go.Proofs.YtifpjbgnikjglaaGreatDoor.dl D vs++σ).lookup s:=by
   intro vs
   induction vs with
   | nil=>simp[Go.Proofs.YtifpjbgnikjglaaGreatDoor.dl,dD,E]
   | cons p vs I=>
    obtain⟨i,M,J⟩:=p
    simp only[Go.Proofs.YtifpjbgnikjglaaGreatDoor.dl]
    split
    ·simp only[bp,dD,I]
    ·exact I
  rw[this] at G
  simp only[dD,E];exact G
theorem xN {ops:Array Oper} {Q:Exit→Act→World→Prop} {o:Oper} {r:List Oper} {a:Act} {w:World} (l:wpListIn F 0 P ops Q (o::r) a w):wpListIn F 0 P ops (_root_.Go.Exit.then (wpListIn F 0 P ops Q r) Q) [o] a w:=by
 simp only[wpListIn] at l ⊢
 split
 ·rename_i D
  rw[ay D] at l
  unfold ob at l ⊢
  refine⟨l.1,?_⟩
  have q:=l.2
  generalize (o.semAt F.round a.eval).run P w=r at *
  cases r with
  | ok x w'=>
   cases x <;> simp only[fZ] at q ⊢ <;>
    first
     | exact q
     | exact⟨q.1,kC q.2 (fun e E he=>by cases e <;> exact he)⟩
     | exact⟨q.1,lE q.2 (fun _ _ he=>he)⟩
     | exact⟨q.1,kD q.2 (fun e E he=>by cases e <;> exact he)⟩
  | halt x w'=>cases x <;> simp only[fZ] at q ⊢ <;> exact q
 ·rename_i D
  rw[ar D] at l
  exact l
theorem DK {l:List Oper} {n:Nat} (J:tM l n=true):∀ (D:Nat→Prop),Clo l.toArray D→∀i o,n≤i→l[i]?=some o→(∀j∈iR o,D j)→∀j<i,D j:=by
 intro D G i o hi H hd j hj
 have q:=zJ l
 have E:i<(pZ l).length:=by rw[q];exact (au.1 H).1
 have h1:=bz.1 J ((pZ l)[i],i) (by
  rw[gD]
  refine⟨i - n,?_⟩
  rw[fW,show n+(i - n)=i by omega,jM,aP E];simp)
 have h2:=bz.1 h1 j (by simpa using hj)
 have M:j∈(pZ l).getD i []:=by
  rw[cC,aP E];simpa using h2
 exact DI _ i o H j M D (fun k I hk=>G k I (by simpa using hk)) hd
def cW (F:Fence) (P:Program) (w0:World) (K:Nat→Prop) (N:Nat) (dfs:List Deferred) (Q:Exit→Act→World→Prop) (ops:Array Oper) (σ:List (Nat×Value)) (L:List Asn) (vals:List (Nat×Nat×Value)) (e:Nat):List Oper→Nat→Prop
 | [],_=>True
 | o::rest,i=>(i≠e→∀D:Nat→Prop,¬ D i→(∀j∈iR o,D j)→Clo ops D→iE (vals.map (fun p=>p.2.1))=true→iE (vals.map (fun p=>p.1))=true →
   TO F P w0 K N dfs ops (_root_.Go.Exit.then (fun a w=>At N dfs (dl (fun j=>D j∨j=i) vals++σ) a∧Holds w0 K L w) Q) [o] (dl D vals++σ) L)∧cW F P w0 K N dfs Q ops σ L vals e rest (i+1)
theorem cW.nil {ops:Array Oper} {l:List (Nat×Nat×Value)} {e i:Nat}:cW F P w0 K N dfs Q ops σ L l e [] i:=trivial
theorem gk {ops:Array Oper} {l:List (Nat×Nat×Value)} {o:Oper} {rest:List Oper} {e i:Nat} (h:∀D:Nat→Prop,¬ D i→(∀j∈iR o,D j)→Clo ops D→iE (l.map (fun p=>p.2.1))=true→iE (l.map (fun p=>p.1))=true →
   TO F P w0 K N dfs ops (_root_.Go.Exit.then (fun a w=>At N dfs (dl (fun j=>D j∨j=i) l++σ) a∧Holds w0 K L w) Q) [o] (dl D l++σ) L) (q:cW F P w0 K N dfs Q ops σ L l e rest (i+1)) :
  cW F P w0 K N dfs Q ops σ L l e (o::rest) i:=⟨fun _=>h,q⟩
theorem rG {ops:Array Oper} {l:List (Nat×Nat×Value)} {o:Oper} {rest:List Oper} {e:Nat} (q:cW F P w0 K N dfs Q ops σ L l e rest (e+1)) :
  cW F P w0 K N dfs Q ops σ L l e (o::rest) e:=⟨fun h=>absurd rfl h,q⟩
theorem cW.get {ops:Array Oper} {q:List (Nat×Nat×Value)} {e:Nat}:∀ {l:List Oper} {k:Nat},cW F P w0 K N dfs Q ops σ L q e l k→∀i o,l[i]?=some o→k+i≠e→∀D:Nat→Prop,¬ D (k+i)→(∀j∈iR o,D j)→Clo ops D→iE (q.map (fun p=>p.2.1))=true→iE (q.map (fun p=>p.1))=true →
   TO F P w0 K N dfs ops (_root_.Go.Exit.then (fun a w=>At N dfs (dl (fun j=>D j∨j=k+i) q++σ) a∧Holds w0 K L w) Q) [o] (dl D q++σ) L
 | [],k,_,i,o,h=>by simp at h
 | x::l,k,h,0,o,ho=>by simp at ho;subst ho;exact h.1
 | x::l,k,h,i+1,o,ho=>by
  have:=cW.get h.2 i o (by simpa using ho)
  rwa [show k+1+i=k+(i+1) by omega] at this
theorem xO {id:Nat} {l:List Oper} {β:Type} (n e:Nat) (o:Oper) (E:List (Nat×Nat×Value)) (s1:β→List (Nat×Value)) (L1:β→List Asn) (hm:P.follows .mixedOrders=true)
  (a9:(l.zipIdx.all fun (o,i)=>(iR o).all fun j=>decide (j<i))=true) (hT:tM l n=true) (ho:l[e]?=some o) (b3:e<n) (a7:n≤l.length)
  (hval:E.all (fun p=>decide (p.1<n)&&p.1 != e)=true) (hu:iE (E.map (fun p=>p.2.1))=true) (hi:iE (E.map (fun p=>p.1))=true)
  (aw:cW F P w0 K N dfs Q l.toArray σ L E e (l.take n) 0) (ag:∀b,cW F P w0 K N dfs Q l.toArray (s1 b++σ) (L1 b) E e (l.take n) 0)
  (a2:∀D:Nat→Prop,¬ D e→(∀j∈iR o,D j)→Clo l.toArray D→TO F P w0 K N dfs l.toArray (_root_.Go.Exit.then (fun a w=>∃b,At N dfs (dl D E++(s1 b++σ)) a∧Holds w0 K (L1 b) w) Q) [o] (dl D E++σ) L)
  (V:∀b,TO F P w0 K N dfs l.toArray Q (l.drop n) (E.map (fun p=>p.2)++(s1 b++σ)) (L1 b)):TC F P w0 K N dfs Q (.region id l.toArray true) σ L:=by
 intro a w ha hw
 have a3:=DK hT
 have b4:e<l.length:=(au.1 ho).1
 obtain⟨J,hJ⟩:∃J:(Nat→Prop)→Act→World→Prop,J=(fun D a w=>Clo l.toArray D∧((∃k,n<k∧(∀j,D j↔j<k)∧wpListIn F 0 P l.toArray Q (l.drop k) a w) ∨
  ((∀j,D j→j<n)∧((¬ D e∧At N dfs (dl D E++σ) a∧Holds w0 K L w)∨(D e∧∃b,At N dfs (dl D E++(s1 b++σ)) a∧Holds w0 K (L1 b) w))))):=⟨_,rfl⟩
 have bk:∀ (D:Nat→Prop),dl (fun j=>D j∨j=e) E=dl D E:=fun D=>by
  have:∀ (vs:List (Nat×Nat×Value)),vs.all (fun p=>decide (p.1<n)&&p.1 != e)=true→dl (fun j=>D j∨j=e) vs=dl D vs:=by
   intro vs
   induction vs with
   | nil=>intro _;rfl
   | cons p vs ih=>
    obtain⟨i,t,v⟩:=p
    intro h
    simp only[List.all_cons,aR,decide_eq_true_eq,er,ne_eq] at h
    simp only[dl,ih h.2]
    by_cases hd:D i
    ·rw[ay (.inl hd),ay hd]
    ·rw[ar hd,ar (by rintro (h' | h');exact hd h';exact h.1.2 h')]
  exact this E hval
 have ao:∀p∈E,p.1<n:=fun p hp=>by
  have:=bz.1 hval p hp;simp only[aR,decide_eq_true_eq] at this;exact this.1
 refine zB hm (by simpa using a9) J (by subst hJ;exact⟨fun i o _ h=>h.elim,.inr ⟨fun _ h=>h.elim,.inl ⟨fun h=>h,by rw[xM];exact ha,hw.drew⟩⟩⟩) ?_ ?_
 ·have all:∀ (m:List Oper) (k:Nat),(∀i o,m[i]?=some o→l[k+i]?=some o)→fM F 0 P l.toArray Q J m k:=by
   intro m
   induction m with
   | nil=>intro k _;trivial
   | cons q m ih=>
    intro k hl
    refine⟨?_,ih (k+1) (fun i o' a6=>by have:=hl (i+1) o' (by simpa using a6);rwa [show k+1+i=k+(i+1) by omega])⟩
    have Z:l[k]?=some q:=hl 0 q rfl
    subst hJ
    rintro D a w hn hd ⟨T,Y⟩
    have O:Clo l.toArray (fun j=>D j∨j=k):=T.add (by simpa using Z) hd
    have b2:k<l.length:=(au.1 Z).1
    have W:l.drop k=q::l.drop (k+1):=by
     obtain⟨h1,h2⟩:=au.1 Z
     rw[← h2];exact bB h1
    rcases Y with⟨m,a8,U,M⟩ | ⟨U,Y⟩
    ·have bb:k=m:=by
      have h1:¬ k<m:=fun h=>hn ((U k).2 h)
      have h2:=a3 D T k q (by omega) Z hd
      by_cases h3:m<k
      ·have:=(U _).1 (h2 _ h3);omega
      ·omega
     subst bb
     rw[W] at M
     refine pn (fun a' w' h=>⟨O,.inl ⟨k+1,by omega,fun j=>?_,h⟩⟩) (xN M)
     show D j∨j=k↔_
     rw[U];omega
    ·by_cases hk:k<n
     ·by_cases a1:k=e
      ·subst a1
       have a5:q=o:=by rw[ho] at Z;exact (mA Z).symm
       subst a5
       rcases Y with⟨G,H,I⟩ | ⟨G,_⟩
       ·refine pn (fun a' w' h=>⟨O,.inr ⟨fun j hj=>?_,.inr ⟨.inr rfl,?_⟩⟩⟩) (a2 D G hd T a w H I)
        ·rcases hj with hj | rfl
         ·exact U j hj
         ·exact hk
        ·rw[bk];exact h
       ·exact absurd G hn
      ·have a0:(l.take n)[k]?=some q:=by rw[nH hk];exact Z
       rcases Y with⟨G,H,I⟩ | ⟨G,b,H,I⟩
       ·have:=aw.get k q a0 (by omega) D (by rwa [cg]) hd T hu hi a w H I
        rw[cg] at this
        refine pn (fun a' w' h=>⟨O,.inr ⟨fun j hj=>?_,.inl ⟨?_,h.1,h.2⟩⟩⟩) this
        ·rcases hj with hj | rfl
         ·exact U j hj
         ·exact hk
        ·rintro (h | h)
         ·exact G h
         ·exact a1 h.symm
       ·have:=(ag b).get k q a0 (by omega) D (by rwa [cg]) hd T hu hi a w H I
        rw[cg] at this
        refine pn (fun a' w' h=>⟨O,.inr ⟨fun j hj=>?_,.inr ⟨.inl G,b,h.1,h.2⟩⟩⟩) this
        rcases hj with hj | rfl
        ·exact U j hj
        ·exact hk
     ·have hall:=a3 D T k q (by omega) Z hd
      have bh:k=n:=by
       by_cases h:n<k
       ·have:=U _ (hall _ h);omega
       ·omega
      subst bh
      rcases Y with⟨G,_⟩ | ⟨G,b,H,I⟩
      ·exact absurd (hall e (by omega)) G
      ·have M:wpListIn F 0 P l.toArray Q (l.drop k) a w:=by
        refine V b a w ?_ I
        rw[tK (fun p hp=>hall _ (ao p hp))] at H
        exact H
       rw[W] at M
       refine pn (fun a' w' h=>⟨O,.inl ⟨k+1,by omega,fun j=>?_,h⟩⟩) (xN M)
       refine⟨fun hj=>?_,fun hj=>?_⟩
       ·rcases hj with hj | rfl
        ·have:=U j hj;omega
        ·omega
       ·by_cases h:j=k
        ·exact .inr h
        ·exact .inl (hall j (by omega))
  exact all _ 0 (fun i o ho=>by simpa using ho)
 ·subst hJ
  rintro D a w U ⟨T,Y⟩
  have hsz:l.toArray.size=l.length:=by simp
  rcases Y with⟨m,a8,b0,M⟩ | ⟨bs,Y⟩
  ·have:l.length≤m:=by
    by_cases h:m<l.length
    ·have:=(b0 m).1 (U _ (by rw[hsz];omega));omega
    ·omega
   rw[cO this] at M
   exact M
  ·have b1:l.length≤n:=by
    by_cases h:n<l.length
    ·have:=bs n (U _ (by rw[hsz];omega));omega
    ·omega
   rcases Y with⟨G,_⟩ | ⟨G,b,H,I⟩
   ·exact absurd (U e (by rw[hsz];omega)) G
   ·have a4:∀p∈E,p.1<l.length:=fun p hp=>eA (ao p hp) a7
    have:=V b a w (by
     rw[tK (fun p hp=>U _ (by rw[hsz];exact a4 p hp))] at H
     exact H) I
    rw[cO (by omega)] at this
    exact this
theorem jc {id:Nat} {l:List Oper} (n:Nat) (q:List (Nat×Nat×Value)) (hm:P.follows .mixedOrders=true)
  (I:(l.zipIdx.all fun (o,i)=>(iR o).all fun j=>decide (j<i))=true) (J:tM l n=true) (M:n≤l.length)
  (hval:q.all (fun p=>decide (p.1<n))=true) (hu:iE (q.map (fun p=>p.2.1))=true) (hi:iE (q.map (fun p=>p.1))=true)
  (E:bM F P w0 K N dfs Q l.toArray σ L q (l.take n) 0)
  (D:TO F P w0 K N dfs l.toArray Q (l.drop n) (q.map (fun p=>p.2)++σ) L):TC F P w0 K N dfs Q (.region id l.toArray true) σ L:=by
 have H:l.take n++l.drop n=l:=dH n l
 have G:(l.take n).length=n:=by rw[cj];omega
 have:=I6 (id:=id) (pre:=l.take n) (tail:=l.drop n) (F:=F) (P:=P) (w0:=w0) (K:=K) (N:=N) (dfs:=dfs) (Q:=Q) (σ:=σ) (L:=L) q hm (by rw[H];exact I) (by rw[H,G];exact J) (by rw[G];exact hval) hu hi (by rw[H];exact E) (by rw[H];exact D)
 rwa [H] at this
theorem evL.nil {σ:List (Nat×Value)}:evL σ []=some []:=rfl
theorem evL.cons {σ:List (Nat×Value)} {x:Operand} {v:Value} {r:List Operand} {l:List Value} (h1:ev σ x=some v) (h2:evL σ r=some l):evL σ (x::r)=some (v::l):=by simp[evL,h1,h2]
theorem evP.nil {σ:List (Nat×Value)}:evP σ []=some []:=rfl
theorem evP.cons {σ:List (Nat×Value)} {i:Nat} {x:Operand} {v:Value} {r:List (Nat×Operand)} {l:List (Nat×Value)} (h1:ev σ x=some v) (h2:evP σ r=some l):evP σ ((i,x)::r)=some ((i,v)::l):=by simp[evP,h1,h2]
theorem vE {σ:List (Nat×Value)}:evO σ none=some none:=rfl
theorem evO.some {σ:List (Nat×Value)} {x:Operand} {v:Value} (h:ev σ x=some v):evO σ (some x)=some (some v):=by simp[evO,h]
end
section
variable {P:Program} {t:TypeId} {x y:Operand} {k:IntKind} {m n r:Int} {w:World} {a b:ab}
theorem sK {u v:Value} {m:Sem Value} (h:u=v) (l:∀w:World,m.run P w=.ok u w) (w:World):m.run P w=.ok v w:=h ▸ l w
theorem dN (h:k.wrap (m+n)=r) (w:World):(do eqGuard .add t x y (.int k m) (.int k n);binOp .add t (.int k m) (.int k n):Sem Value).run P w=.ok (.int k r) w:=by
 subst h;simp[eqGuard,binOp,qA,ak]
theorem mD (h:k.wrap (m - n)=r) (w:World):(do eqGuard .sub t x y (.int k m) (.int k n);binOp .sub t (.int k m) (.int k n):Sem Value).run P w=.ok (.int k r) w:=by
 subst h;simp[eqGuard,binOp,qA,ak]
theorem I7 (h:k.wrap (m*n)=r) (w:World):(do eqGuard .mul t x y (.int k m) (.int k n);binOp .mul t (.int k m) (.int k n):Sem Value).run P w=.ok (.int k r) w:=by
 subst h;simp[eqGuard,binOp,qA,ak]
theorem ei (w:World):(do eqGuard .lss t x y (.int k m) (.int k n);binOp .lss t (.int k m) (.int k n):Sem Value).run P w=.ok (.bool (decide (m<n))) w:=by
 simp[eqGuard,binOp,kE,ak]
theorem ia (w:World):(do eqGuard .leq t x y (.int k m) (.int k n);binOp .leq t (.int k m) (.int k n):Sem Value).run P w=.ok (.bool (decide (m≤n))) w:=by
 simp[eqGuard,binOp,kE,ak]
theorem lK (w:World):(do eqGuard .gtr t x y (.int k m) (.int k n);binOp .gtr t (.int k m) (.int k n):Sem Value).run P w=.ok (.bool (decide (n<m))) w:=by
 simp[eqGuard,binOp,kE,ak]
theorem fG (w:World):(do eqGuard .geq t x y (.int k m) (.int k n);binOp .geq t (.int k m) (.int k n):Sem Value).run P w=.ok (.bool (decide (n≤m))) w:=by
 simp[eqGuard,binOp,kE,ak]
theorem eE (w:World):(do eqGuard .eql t x y (.int k m) (.int k n);binOp .eql t (.int k m) (.int k n):Sem Value).run P w=.ok (.bool (m==n)) w:=by
 simp[eqGuard,binOp,kE,ak]
theorem nc (w:World):(do eqGuard .neq t x y (.int k m) (.int k n);binOp .neq t (.int k m) (.int k n):Sem Value).run P w=.ok (.bool (m != n)) w:=by
 simp[eqGuard,binOp,kE,ak]
theorem I9 (l:n≠0) (h:k.wrap (m.tdiv n)=r) (w:World):(do eqGuard .quo t x y (.int k m) (.int k n);binOp .quo t (.int k m) (.int k n):Sem Value).run P w=.ok (.int k r) w:=by
 subst h;simp[eqGuard,binOp,Op.intDiv,ak,l]
theorem Ja (l:n≠0) (h:m.tmod n=r) (w:World):(do eqGuard .rem t x y (.int k m) (.int k n);binOp .rem t (.int k m) (.int k n):Sem Value).run P w=.ok (.int k r) w:=by
 subst h;simp[eqGuard,binOp,Op.intDiv,ak,l]
theorem DL (a b:ab):(a.toList==b.toList)=decide (a=b):=by
 by_cases h:a=b
 ·subst h;simp
 ·have:¬ a.toList=b.toList:=fun e=>h (by
   have:a.data.toList=b.data.toList:=by rw[← lP,← lP];exact e
   exact _root_.ByteArray.ext (fK.1 this))
  simp[h,this]
theorem kQ (h:a.size+b.size≤9223372036854775807) (w:World):(do eqGuard .add t x y (.string a) (.string b);binOp .add t (.string a) (.string b):Sem Value).run P w=.ok (.string (a++b)) w:=by
 have:¬ (((a.size+b.size:Nat):Int) > IntKind.i64.max):=by
  show ¬ (((a.size+b.size:Nat):Int) > 9223372036854775807);omega
 simp only[eqGuard,binOp,qB,ak,io,ci]
 rw[ar this];rfl
theorem lf (w:World):(do eqGuard .eql t x y (.string a) (.string b);binOp .eql t (.string a) (.string b):Sem Value).run P w=.ok (.bool (decide (a=b))) w:=by
 rw[← DL];simp[eqGuard,binOp,qB,ak]
theorem qK (w:World):(do eqGuard .neq t x y (.string a) (.string b);binOp .neq t (.string a) (.string b):Sem Value).run P w=.ok (.bool (!decide (a=b))) w:=by
 rw[← DL];simp[eqGuard,binOp,qB,ak]
theorem js {b:Bool} (w:World):(Op.unary .not (.bool b)).run P w=.ok (.bool (!b)) w:=rfl
theorem vF {s d:TypeId} {u:TypeDesc} {l:IntKind} (q:P.underlying s=some u) (hd:P.underlying d=some (.int l)) (h:l.wrap n=r) (w:World):(convert s d (.int k n)).run P w=.ok (.int l r) w:=by
 subst h
 cases u <;> simp[convert,run_underlying q,run_underlying hd,ak,Conv.intToInt]
theorem mf {s d:TypeId} {l:IntKind} (q:P.underlying s=some (.int l)) (hd:P.underlying d=some .string) (w:World):(convert s d (.int k n)).run P w=.ok (.string (af n)) w:=by
 simp[convert,run_underlying q,run_underlying hd,ak,Conv.intToString]
theorem Jb {i:Nat} (ht:P.underlying t=some .string) (hi:i<a.size) (w:World):(iC t (.string a) (.int .i64 i)).run P w=.ok (.int .u8 (a[i]'hi).toNat) w:=by
 have h1:a[i]?=some a[i]:=by simp[hi]
 simp[iC,asIntOf,run_underlying ht,ak,h1]
theorem Jc {lo hi:Option Value} {i j:Nat} (ht:P.underlying t=some .string) (l:lo=none∧i=0∨lo=some (.int .i64 i)) (q:hi=none∧j=a.size∨hi=some (.int .i64 j)) (h1:i≤j) (h2:j≤a.size) (w:World) :
  (gK t (.string a) lo hi none).run P w=.ok (.string (a.extract i j)) w:=by
 rcases l with⟨rfl,rfl⟩ | rfl <;> rcases q with⟨rfl,rfl⟩ | rfl <;>
  simp[gK,Instr.slice,k9,iM,asIntOf,run_underlying ht,ak,h1,h2]
end
def vec {α:Type} (enc:α→List Value) (e:TypeId) (size:Nat) (v:Value) (xs:List α):Asn :=
 ⟨fun C w=>gQ enc e size v xs C w,fun h k hk=>h.lt k hk,fun h _ hk=>h.local hk⟩
def byt (e:TypeId) (v:Value) (b:ab):Asn:=⟨fun C w=>jY e v b C w,fun h k hk=>h.lt k hk,fun h _ hk=>h.local hk⟩
def gG:Value→Nat
 | .slice (some a) _ _=>a.block
 | _=>0
section
variable {F:Fence} {P:Program} {w0:World} {K:Nat→Prop} {N:Nat} {dfs:List Deferred} {ops:Array Oper} {Q:Exit→Act→World→Prop} {rest:List Oper} {σ σ':List (Nat×Value)} {L L' R As Bs:List Asn} {o:Oper} {v:Value}
 {d:Nat} {t:TypeId} {op:Op} {ty:TypeId} {pos:String} {aft:Array Edge} {g:Option (Nat×Bool)} {x y z:Operand} {c c1 c2:Code} {k:Nat} {A B:Asn} {RO:List (Nat×Obj)}
 {α:Type} {enc:α→List Value} {e:TypeId} {size:Nat} {xs:List α} {vv:Value}
theorem Holds.vec {w:World} (h:Holds w0 K L w) (hk:L[k]?=some (vec enc e size vv xs)):∃C,gQ enc e size vv xs C w:=by
 obtain⟨C1,h1,_⟩:=h.focus hk;exact⟨C1,h1⟩
theorem gQ.len {C:Nat→Prop} {w:World} (h:gQ enc e size vv xs C w):∃a c,vv=.slice a xs.length c:=by
 rcases h.shape with⟨rfl,rfl,_⟩ | ⟨g,cap,rfl,_⟩
 ·exact⟨none,0,rfl⟩
 ·exact⟨_,_,rfl⟩
theorem gQ.ptr {C:Nat→Prop} {w:World} (h:gQ enc e size vv xs C w) (l:xs≠[]):∃cap,vv=.slice (some ⟨gG vv,0,none⟩) xs.length cap:=by
 rcases h.shape with⟨_,h2,_⟩ | ⟨g,cap,rfl,_⟩
 ·exact absurd h2 l
 ·exact⟨cap,rfl⟩
theorem Jd {w:World} (h:Holds w0 K L w) (hk:L[k]?=some (vec enc e size vv xs)):vv.oneCell'=true:=by
 obtain⟨C,hv⟩:=h.vec hk
 obtain⟨a,c,rfl⟩:=hv.len
 rfl
theorem nf (h:TC F P w0 K N dfs Q c σ (L++[vec enc e size (.slice none 0 0) ([]:List α)])):TC F P w0 K N dfs Q c σ L:=fun a w q l=>
 h a w q (l.grow (C':=fun _=>False) (cF.refl _ _) (aN.one (A:=vec enc e size (.slice none 0 0) ([]:List α)) gQ.nil))
theorem tN (h:TO F P w0 K N dfs ops Q rest σ (L++[vec enc e size (.slice none 0 0) ([]:List α)])):TO F P w0 K N dfs ops Q rest σ L:=fun a w q l=>
 h a w q (l.grow (C':=fun _=>False) (cF.refl _ _) (aN.one (A:=vec enc e size (.slice none 0 0) ([]:List α)) gQ.nil))
theorem iA [br F] {l:TypeId} {te:TypeId} (hg:gd ops σ g=some true) (hd:d<N) (hx:ev σ x=some vv) (hk:L[k]?=some (vec enc e size vv xs)) (ht:P.underlying l=some (.slice te))
  (h:TO F P w0 K N dfs ops Q rest ((d,.int .i64 xs.length)::σ) L):TO F P w0 K N dfs ops Q (⟨some d,.call { callee:=.builtin .len,args:=#[x],argTypes:=#[l] },ty,pos,aft,g⟩::rest) σ L :=
 iS hg hd (by simp) (fun a w G D=>by
  obtain⟨C,hv⟩:=D.vec hk
  obtain⟨q,H,E⟩:=hv.len
  have:=G.ev hx
  simp[execOp,resolve,invoke,builtin,this,E,kF,run_underlying ht,ak,goInt]) h
theorem ly [br F] {l:TypeId} {s:ab} (hg:gd ops σ g=some true) (hd:d<N) (hx:ev σ x=some (.string s)) (ht:P.underlying l=some .string)
  (h:TO F P w0 K N dfs ops Q rest ((d,.int .i64 s.size)::σ) L):TO F P w0 K N dfs ops Q (⟨some d,.call { callee:=.builtin .len,args:=#[x],argTypes:=#[l] },ty,pos,aft,g⟩::rest) σ L :=
 iS hg hd (by simp) (fun a w q D=>by
  have:=q.ev hx
  simp[execOp,resolve,invoke,builtin,this,kF,run_underlying ht,ak,goInt]) h
theorem gQ.cellAt {C:Nat→Prop} {w:World} (hz:∀x,(enc x).length=size) (h:gQ enc e size vv xs C w) {i j:Nat} {q:α} {u:Value} (l:xs[i]?=some q) (hj:j<size) (hu:(enc q)[j]?=some u):w.cell? ⟨gG vv,i*size+j,none⟩=some u:=by
 obtain⟨cap,he⟩:=h.ptr (by intro h;simp[h] at l)
 generalize D:gG vv=bb at he
 subst he
 exact h.cell hz rfl l hj hu
theorem gQ.frozenAt {C:Nat→Prop} {w:World} (h:gQ enc e size vv xs C w) (l:xs≠[]) (j:Nat):w.frozen? ⟨gG vv,j,none⟩=false:=by
 obtain⟨cap,he⟩:=h.ptr l
 generalize q:gG vv=bb at he
 subst he
 exact h.frozen rfl j
theorem ib [br F] {i j off:Nat} {q:α} (H:kj P t) (hz:∀x,(enc x).length=size) (hg:gd ops σ g=some true) (hd:d<N) (hx:ev σ x=some (.pointer (some ⟨gG vv,off,none⟩))) (hk:L[k]?=some (vec enc e size vv xs))
  (D:xs[i]?=some q) (E:off=i*size+j) (hj:j<size) (hv:(enc q)[j]?=some v) (h:TO F P w0 K N dfs ops Q rest ((d,v)::σ) L) :
  TO F P w0 K N dfs ops Q (⟨some d,.load t x,ty,pos,aft,g⟩::rest) σ L:=by
 subst E
 obtain⟨dd,hu,hr⟩:=H
 refine iS hg hd (by simp) (fun a w G l=>?_) h
 obtain⟨C,hV⟩:=l.vec hk
 have hc:=hV.cellAt hz D hj hv
 have h1:=G.ev hx
 cases dd <;> simp_all [execOp,jF,el,loadVar,isAgg,ak,run_underlying hu]
theorem mR [br F] {i j off n:Nat} {q:α} {cs:List Value} (M:nO P t n) (hz:∀x,(enc x).length=size) (hg:gd ops σ g=some true) (hd:d<N) (hx:ev σ x=some (.pointer (some ⟨gG vv,off,none⟩))) (hk:L[k]?=some (vec enc e size vv xs))
  (G:xs[i]?=some q) (H:off=i*size+j) (D:((enc q).drop j).take n=cs) (l:cs.length=n)
  (h:TO F P w0 K N dfs ops Q rest ((d,.agg cs.toArray)::σ) L):TO F P w0 K N dfs ops Q (⟨some d,.load t x,ty,pos,aft,g⟩::rest) σ L:=by
 subst H;subst l
 obtain⟨dd,hu,hr,hi⟩:=M
 refine iS hg hd (by simp) (fun a w J E=>?_) h
 obtain⟨C,hV⟩:=E.vec hk
 have hc:w.rangeAt (gG vv) (i*size+j) cs:=fun n u l=>by
  rw[← D] at l
  rw[ir] at l
  split at l
  ·rw[fW] at l
   have I:j+n<size:=by rw[← hz q];exact (au.1 l).1
   have:=hV.cellAt hz G I l
   rwa [← Nat.add_assoc] at this
  ·cases l
 simp only[execOp,J.ev hx,ak,run_loadAt_mid w _ _ t cs dd hc hu hr hi];rfl
theorem p4 [br F] {i j off:Nat} {q q':α} (U:bD P t 1) (hz:∀x,(enc x).length=size) (hg:gd ops σ g=some true) (hx:ev σ x=some (.pointer (some ⟨gG vv,off,none⟩))) (hy:ev σ y=some v) (hk:L[k]?=some (vec enc e size vv xs))
  (I:xs[i]?=some q) (T:off=i*size+j) (hj:j<size) (hv:enc q'=(enc q).set j v) (G:∀w,Holds w0 K L w→v.oneCell'=true)
  (h:TO F P w0 K N dfs ops Q rest σ (L.set k (vec enc e size vv (xs.set i q')))):TO F P w0 K N dfs ops Q (⟨none,.store t x y,ty,pos,aft,g⟩::rest) σ L:=by
 subst T
 obtain⟨W,hi,hsz⟩:=U.some
 refine xK hg (by simp) fun a w J M=>?_
 have h1:=G w M
 obtain⟨C,hV,D⟩:=M.focus hk
 obtain⟨u,hu⟩:∃u,(enc q)[j]?=some u:=⟨_,aP (by rw[hz];exact hj)⟩
 have E:xs≠[]:=by intro h;simp[h] at I
 have l:gQ enc e size vv xs C w:=hV
 have hc:=l.cellAt hz I hj hu
 have hf:=l.frozenAt E (i*size+j)
 have H:v.cells=#[v]:=by cases v <;> simp_all [oN,mJ]
 refine⟨w.setCell ⟨gG vv,i*size+j,none⟩ v,by
  simp[execOp,J.ev hx,J.ev hy,Instr.storeAt,el,storeVar,sizeOf,typeInfo,hi,hsz,H,storeCells,ak,run_store _ _ _ _ _ h1,hc,hf,ie],h _ _ J (D _ C _ ?_ ?_)⟩
 ·obtain⟨cap,he⟩:=l.ptr E
  refine (cF.refl _ _).setCell ?_ _
  obtain⟨O,rfl⟩:=l
  rw[he];rfl
 ·obtain⟨cap,he⟩:=l.ptr E
  generalize Y:gG vv=bb at *
  subst he
  obtain⟨O,V⟩:=l
  exact⟨(Rw.stored hz O I hj q' hv).1,V⟩
def dR (P:Program) (e:TypeId) (size:Nat):Prop:=∃ (i:TypeInfo) (zv:Value),P.info? e=some i∧i.zero=some zv∧i.size=size∧zv.cells.size=size∧0<size∧i.bytes≤65536
def km (P:Program) (e:TypeId):Prop:=∃i:TypeInfo,P.info? e=some i∧i.zero=some (.int .u8 0)∧i.size=1∧i.bytes=1
theorem dR.mk' {P:Program} {e:TypeId} {size:Nat} (h:(P.info? e).bind (fun i=>i.zero.map (fun z=>(i.size,z.cells.size,decide (0<i.size),decide (i.bytes≤65536))))=some (size,size,true,true)):dR P e size:=by
 cases hi:P.info? e with
 | none=>simp[hi] at h
 | some i=>
  cases hz:i.zero with
  | none=>simp[hi,hz] at h
  | some z=>
   simp[hi,hz] at h
   obtain⟨h1,h2,q,l⟩:=h
   exact⟨i,z,hi,hz,h1,h2,by omega,l⟩
theorem km.mk' {P:Program} {e:TypeId} (h:(P.info? e).map (fun i=>(i.zero,i.size,i.bytes))=some (some (.int .u8 0),1,1)):km P e:=by
 cases hi:P.info? e with
 | none=>simp[hi] at h
 | some i=>simp[hi] at h;exact⟨i,hi,h.1,h.2.1,h.2.2⟩
theorem gl [br F] {ps:List (Nat×Operand)} {vs:List (Nat×Value)} {te n:Nat} {cs:List Value} (hg:gd ops σ g=some true) (hd:d<N) (hx:evP σ ps=some vs)
  (D:∀w:World,(Instr.buildSlice t n vs.toArray).run P w=.ok (.slice (some ⟨w.heap.size,0,none⟩) n n) (w.alloc (.cells cs.toArray te)))
  (h:∀b,TO F P w0 K N dfs ops Q rest ((d,.slice (some ⟨b,0,none⟩) n n)::σ) (L++[cells b cs te])) :
  TO F P w0 K N dfs ops Q (⟨some d,.buildSlice t n ps.toArray,ty,pos,aft,g⟩::rest) σ L :=
 nw hg (by simp) fun a w l q=>⟨.slice (some ⟨w.heap.size,0,none⟩) n n,w.alloc (.cells cs.toArray te),by
  have:=D w
  simp only[execOp,eI,l.evP hx,ak,this];rfl,h _ _ _ (l.put hd _) (q.alloc _)⟩
theorem iT [br F] {s:Operand} {k2 b m cap:Nat} {H:TypeId} {ys:List α} {te:TypeId} {cs:List Value} (ht:P.underlying H=some (.slice e)) (Z:dR P e size) (G:∀x,(enc x).length=size) (h1:∀x,∀u∈enc x,u.oneCell'=true) (hg:gd ops σ g=some true) (hd:d<N) (V:ev σ s=some vv) (hx:ev σ x=some (.slice (some ⟨b,0,none⟩) m cap))
  (hk:L[k]?=some (vec enc e size vv xs)) (J:L[k2]?=some (cells b cs te)) (hm:m=ys.length) (M:cs=ys.flatMap enc)
  (W:xs.length+ys.length≤2147483648)
  (h:∀E,TO F P w0 K N dfs ops Q rest ((d,E)::σ) (L.set k (vec enc e size E (xs++ys)))) :
  TO F P w0 K N dfs ops Q (⟨some d,.call { callee:=.builtin .append,args:=#[s,x],argTypes:=#[H,H] },ty,pos,aft,g⟩::rest) σ L:=by
 subst hm;subst M
 obtain⟨i,U,hi,hz,D,I,hsz,l⟩:=Z
 refine nw hg (by simp) fun a w O T=>?_
 have Y:=T.obj J
 obtain⟨C,hV,q⟩:=T.focus hk
 obtain⟨E,w',hr,C',h2,h3⟩:=IJ (P:=P) w H ty e i U i.bytes ht hi hz D rfl I hsz G h1 vv xs C hV ys b cap te (0,0) Y W l
 refine⟨E,w',?_,h E _ _ (O.put hd _) (q _ C' w' h3 h2)⟩
 simp[execOp,resolve,invoke,builtin,O.ev V,O.ev hx,hr,ak]
theorem Holds.byt {w:World} {b:ab} (h:Holds w0 K L w) (hk:L[k]?=some (byt e vv b)):∃C,jY e vv b C w:=by
 obtain⟨C1,h1,_⟩:=h.focus hk;exact⟨C1,h1⟩
theorem DM {w:World} {b:ab} (h:Holds w0 K L w) (hk:L[k]?=some (byt e vv b)):vv.oneCell'=true:=by
 obtain⟨C,hv⟩:=h.byt hk
 rcases hv.shape with⟨rfl,_⟩ | ⟨g,cap,l,rfl,_⟩ <;> rfl
theorem vG [br F] {sl:Operand} {E u:TypeId} {b s:ab} (ht:P.underlying E=some (.slice e)) (hu:P.underlying u=some .string) (O:km P e) (hg:gd ops σ g=some true) (hd:d<N) (J:ev σ sl=some vv) (hx:ev σ x=some (.string s))
  (hk:L[k]?=some (byt e vv b)) (M:b.size+s.size≤140737488355328)
  (h:∀D,TO F P w0 K N dfs ops Q rest ((d,D)::σ) (L.set k (byt e D (b++s)))) :
  TO F P w0 K N dfs ops Q (⟨some d,.call { callee:=.builtin .append,args:=#[sl,x],argTypes:=#[E,u] },ty,pos,aft,g⟩::rest) σ L:=by
 obtain⟨i,hi,hz,q,G⟩:=O
 refine nw hg (by simp) fun a w H I=>?_
 obtain⟨C,hV,l⟩:=I.focus hk
 obtain⟨D,w',hr,C',h2,T⟩:=Dq (P:=P) w E u ty e i ht hu hi hz q G vv b C hV s M
 refine⟨D,w',?_,h D _ _ (H.put hd _) (l _ C' w' T h2)⟩
 simp[execOp,resolve,invoke,builtin,H.ev J,H.ev hx,hr,ak]
theorem zK [br F] {sl:Operand} {E:TypeId} {b ys:ab} {k2 M m cap:Nat} {te:TypeId} {cs:List Value} (ht:P.underlying E=some (.slice e)) (W:km P e) (hg:gd ops σ g=some true) (hd:d<N) (T:ev σ sl=some vv) (hx:ev σ x=some (.slice (some ⟨M,0,none⟩) m cap))
  (hk:L[k]?=some (byt e vv b)) (G:L[k2]?=some (cells M cs te)) (H:cs=strCells ys) (hm:m=ys.size) (U:b.size+ys.size≤140737488355328)
  (h:∀D,TO F P w0 K N dfs ops Q rest ((d,D)::σ) (L.set k (byt e D (b++ys)))) :
  TO F P w0 K N dfs ops Q (⟨some d,.call { callee:=.builtin .append,args:=#[sl,x],argTypes:=#[E,E] },ty,pos,aft,g⟩::rest) σ L:=by
 subst hm;subst H
 obtain⟨i,hi,hz,q,I⟩:=W
 refine nw hg (by simp) fun a w J O=>?_
 have V:=O.obj G
 obtain⟨C,hV,l⟩:=O.focus hk
 obtain⟨D,w',hr,C',h2,Y⟩:=IK (P:=P) w E ty e i ht hi hz q I vv b C hV ys M cap te (0,0) V U
 refine⟨D,w',?_,h D _ _ (J.put hd _) (l _ C' w' Y h2)⟩
 simp[execOp,resolve,invoke,builtin,J.ev T,J.ev hx,hr,ak]
theorem p5 [br F] {s:TypeId} {b:ab} (hg:gd ops σ g=some true) (hd:d<N) (hx:ev σ x=some vv) (hk:L[k]?=some (byt e vv b)) (q:P.underlying s=some (.slice e)) (he:P.underlying e=some (.int .u8)) (ht:P.underlying t=some .string)
  (h:TO F P w0 K N dfs ops Q rest ((d,.string b)::σ) L):TO F P w0 K N dfs ops Q (⟨some d,.convert s t x,ty,pos,aft,g⟩::rest) σ L :=
 iS hg hd (by simp) (fun a w D l=>by
  obtain⟨C,hV⟩:=l.byt hk
  simp only[execOp,D.ev hx,ak,hV.conv s t q he ht];rfl) h
end
def zL (l:Nat) (J:Act→World→Prop) (Q:Exit→Act→World→Prop):Exit→Act→World→Prop
 | .goto l',a,w=>l'=l∧J a w
 | e,a,w=>Q e a w
section
variable {P:Program} {b:Frame} {a:Act} {k:List Item} {cs:List Frame} {w:World}
theorem tO {c:Code}:step P (lone (b.atR a (.code (.scope c)::k)) cs w)=.next (lone (b.atR a (.code c::.inScope c::k)) cs w) :=
 step_lone_go (by simp[stepG,stepG.exec,Frame.atR])
theorem DN {c:Code}:step P (lone (b.atR a (.inScope c::k)) cs w)=.next (lone (b.atR a k) cs w) :=
 step_lone_go (by simp[stepG,stepG.exec,Frame.atR])
end
section
variable {F:Fence} {n:Nat} {P:Program} {Q:Exit→Act→World→Prop} {a:Act} {w:World}
theorem rH {I:Machine→Prop} {m:Machine} {b:Frame} {c:Code} {k:List Item} {cs:List Frame} {e:Exit} (q:∀l,e≠.goto l) (E:e≠.normal)
  (h:ArrivesIn I P m b (.inScope c::k) cs e a w):ArrivesIn I P m b k cs e a w:=by
 have hx:∀id,exitTo id (.inScope c::k)=exitTo id k:=fun id=>by simp[exitTo]
 cases e with
 | normal=>exact absurd rfl E
 | exit id=>exact⟨fun D hk=>h.1 D (by rw[hx];exact hk),fun hr hk=>h.2 hr (by rw[hx];exact hk)⟩
 | goto l=>exact absurd rfl (q l)
 | ret=>exact h
 | panic G=>exact h
 | outgrown=>exact h
theorem Je {c rest:Code} {l:Nat} (hf:findLabel c l=some rest) (J:Act→World→Prop) (first:c.wpIn F n P (zL l J Q) a w)
  (I:∀a w,J a w→rest.wpIn F n P (Exit.noGoto Q) a w):(Code.scope c).wpIn F n P Q a w:=by
 intro b k cs M O hr
 have h0:(lone (b.atR a (.code (.scope c)::k)) cs w).fenced P F:=fenced_calm O hr rfl
 have hg:gotoIn l (.inScope c::k)=some (.code rest::.inScope c::k):=by simp[gotoIn,hf]
 obtain⟨e,G,E,D,q⟩:=first b (.inScope c::k) cs M O hr
 cases e with
 | normal=>exact⟨.normal,G,E,D,.head h0 tO (mK q (.one (fenced_calm O hr rfl) DN))⟩
 | goto l'=>
  obtain⟨rfl,U⟩:=D
  have h1:=StepsIn.head h0 tO (q.1 _ hg)
  obtain⟨e,T,H,D,q⟩:=I G E U b (.inScope c::k) cs M O hr
  cases e with
  | normal=>exact⟨.normal,T,H,D,mK h1 (mK q (.one (fenced_calm O hr rfl) DN))⟩
  | goto l=>exact D.elim
  | exit id=>exact⟨_,T,H,D,.of_steps h1 (rH (by simp) (by simp) q)⟩
  | ret=>exact⟨_,T,H,D,.of_steps h1 (rH (by simp) (by simp) q)⟩
  | panic V=>exact⟨_,T,H,D,.of_steps h1 (rH (by simp) (by simp) q)⟩
  | outgrown=>exact⟨_,T,H,D,.of_steps h1 (rH (by simp) (by simp) q)⟩
 | exit id=>exact⟨_,G,E,D,.of_steps (.one h0 tO) (rH (by simp) (by simp) q)⟩
 | ret=>exact⟨_,G,E,D,.of_steps (.one h0 tO) (rH (by simp) (by simp) q)⟩
 | panic V=>exact⟨_,G,E,D,.of_steps (.one h0 tO) (rH (by simp) (by simp) q)⟩
 | outgrown=>exact⟨_,G,E,D,.of_steps (.one h0 tO) (rH (by simp) (by simp) q)⟩
end
section
variable {F:Fence} {P:Program} {w0:World} {K:Nat→Prop} {N:Nat} {dfs:List Deferred} {Q:Exit→Act→World→Prop} {σ:List (Nat×Value)} {L R:List Asn} {c rest:Code}
theorem DO {β:Type} {l:Nat} (I:β→Prop) (q:β→List (Nat×Value)) (D:β→List Asn) (hf:findLabel c l=some rest) (h1:TC F P w0 K N dfs (zL l (Dz w0 K N dfs I q D) Q) c σ L)
  (h2:∀b,I b→TC F P w0 K N dfs (Exit.noGoto Q) rest (q b) (D b)):TC F P w0 K N dfs Q (.scope c) σ L:=fun a w H E=>
 Je hf (Dz w0 K N dfs I q D) (h1 a w H E) fun a w ⟨b,G,M,J⟩=>h2 b G a w M J
theorem xP {l:Nat} {J:Act→World→Prop} {e:Exit} (q:∀l,e≠.goto l) (h:TX w0 K N dfs Q e σ L):TX w0 K N dfs (zL l J Q) e σ L:=fun a w E D=>by
 cases e <;> first | exact h a w E D | exact absurd rfl (q _)
end
section
variable {F:Fence} {P:Program} {w0:World} {K:Nat→Prop} {N:Nat} {dfs:List Deferred} {ops:Array Oper} {Q:Exit→Act→World→Prop} {rest:List Oper} {σ:List (Nat×Value)} {L:List Asn} {c:Code}
 {α:Type} {enc:α→List Value} {k b e size:Nat} {cs:List Value}
theorem Holds.toVec {w:World} (ys:List α) (h:Holds w0 K L w) (hk:L[k]?=some (cells b cs e)) (q:∀x,(enc x).length=size) (l:cs=ys.flatMap enc) (hm:ys.length≤maxLen) :
  Holds w0 K (L.set k (Go.Proofs.YtifpjbgnikjglaaGreatDoor.vec enc e size (.slice (some ⟨b,0,none⟩) ys.length ys.length) ys)) w:=by
 obtain⟨C1,h1,h2,I⟩:=h.focus' hk
 refine I _ C1 w (cF.refl _ _) ?_
 obtain⟨J,h5⟩:=h2
 have D:cs.length=ys.length*size:=by
  have H:∀zs:List α,(zs.flatMap enc).length=zs.length*size:=by
   intro zs
   induction zs with
   | nil=>simp
   | cons z zs E=>rw[aG,ah,q,E,List.length_cons,cT,iY,jm]
  rw[l];exact H ys
 have G:cs.take (ys.length*size)=cs:=by rw[← D];exact List.take_length
 refine⟨⟨by rw[← l];exact D,.inr ⟨b,ys.length,cs.toArray,rfl,cH _,h5,bJ _,hm,by simpa using D,?_⟩⟩,?_⟩
 ·rw[← l];exact G
 ·funext j;simp_all [bS,eq_comm]
theorem mS (ys:List α) (hk:L[k]?=some (cells b cs e)) (l:∀x,(enc x).length=size) (q:cs=ys.flatMap enc) (hm:ys.length≤maxLen)
  (h:TO F P w0 K N dfs ops Q rest σ (L.set k (vec enc e size (.slice (some ⟨b,0,none⟩) ys.length ys.length) ys))):TO F P w0 K N dfs ops Q rest σ L:=fun a w E D=>h a w E (D.toVec ys hk l q hm)
end
section
variable {F:Fence} {P:Program} {w0:World} {K:Nat→Prop} {N:Nat} {dfs:List Deferred} {ops:Array Oper} {Q:Exit→Act→World→Prop} {rest:List Oper} {σ:List (Nat×Value)} {L:List Asn}
 {d:Nat} {t:TypeId} {ty:TypeId} {pos:String} {aft:Array Edge} {g:Option (Nat×Bool)} {x y:Operand} {k n:Nat} {e:TypeId} {size:Nat} {v vv:Value}
end
abbrev cR (x:Int):Prop:=-9223372036854775808≤x∧x≤9223372036854775807
abbrev fN (x:Int):Prop:=-2147483648≤x∧x≤2147483647
abbrev RE (x:Int):Prop:=-32768≤x∧x≤32767
abbrev I8 (x:Int):Prop:=-128≤x∧x≤127
abbrev U8 (x:Int):Prop:=0≤x∧x≤255
abbrev RF (x:Int):Prop:=0≤x∧x≤65535
abbrev RG (x:Int):Prop:=0≤x∧x≤4294967295
abbrev RH (x:Int):Prop:=0≤x∧x≤18446744073709551615
section
variable {R S:Type}
def aY (c:Prop) [Decidable c] (o:Option R):Option R:=if c then o else none
def aX (o:Option S) (f:S→Option R):Option R:=o.bind f
def aU (b:Bool) (x y:Option R):Option R:=cond b x y
def cJ {T:Type} (t:T→Option R) (k:T):Option R:=t k
def zaI {T:Type} (bot:T) (step:T→T) (n:Nat):T:=Nat.rec bot (fun _ ih=>step ih) n
def zcM {T α:Type} (k:T) (step:α→T→T):List α→T
 | []=>k
 | x::xs=>step x (zcM k step xs)
def zbH:Nat:=18446744073709551616
def zcy {α:Type} (xs:List α) (i:Int):Option α:=if 0≤i then xs[i.toNat]? else none
def kR (s:ab) (i:Int):Option Int:=if 0≤i then (s.data[i.toNat]?).map (fun c=>(c.toNat:Int)) else none
def c7 (s:ab) (i j:Int):ab:=s.extract i.toNat j.toNat
def fi {α:Type} (s:List α) (i j:Int):List α:=(s.drop i.toNat).take (j.toNat - i.toNat)
variable {c:Prop} [Decidable c] {o:Option R} {r:R} {p:Option S} {f:S→Option R} {b:Bool} {x y:Option R}
theorem bC (h:aY c o=some r):c∧o=some r:=by
 unfold aY at h;split at h
 ·exact⟨‹c›,h⟩
 ·cases h
theorem Jg (h:c):aY c o=o:=ay h
theorem bj (h:aX p f=some r):∃a,p=some a∧f a=some r:=Option.bind_eq_some_iff.1 h
theorem DP {a:S} (h:p=some a):aX p f=f a:=by rw[h];rfl
theorem ng (l:b=true) (h:aU b x y=some r):x=some r:=by subst l;exact h
theorem nh (l:b=false) (h:aU b x y=some r):y=some r:=by subst l;exact h
theorem Jh (l:b=true):aU b x y=x:=by subst l;rfl
theorem Ji (l:b=false):aU b x y=y:=by subst l;rfl
theorem cP {T:Type} {t:T→Option R} {k:T} (h:cJ t k=some r):∃j,j=k∧t j=some r:=⟨k,rfl,h⟩
theorem DQ {T:Type} {bot:T} {step:T→T} {n:Nat}:zaI bot step (n+1)=step (zaI bot step n):=rfl
theorem zM {T α:Type} {k:T} {step:α→T→T}:zcM k step []=k:=rfl
theorem nz {T α:Type} {k:T} {step:α→T→T} {x:α} {xs:List α}:zcM k step (x::xs)=step x (zcM k step xs):=rfl
theorem fa {α:Prop} (h:(none:Option R)=some r):α:=by cases h
theorem fb {α:Type} {xs:List α} {i:Int} {q:α} (h:zcy xs i=some q):xs[i.toNat]?=some q:=by
 unfold zcy at h;split at h
 ·exact h
 ·cases h
theorem vH {α:Type} {xs:List α} {i:Int} {q:α} (h:zcy xs i=some q):0≤i∧i<xs.length:=by
 unfold zcy at h;split at h
 ·have:=(au.1 h).1;omega
 ·cases h
theorem jz {α:Type} {xs:List α} {i:Nat} {q:α} (h:xs[i]?=some q):zcy xs (i:Int)=some q:=by
 unfold zcy;rw[ay (by omega)];exact h
theorem xQ {α:Type} {xs:List α} {i:Int} {n:Nat} {q:α} (l:i=n) (h:xs[n]?=some q):zcy xs i=some q:=by subst l;exact jz h
theorem zN {s:ab} {i:Int} {n:Nat} (l:i=n) (h:n<s.size):kR s i=some ((s[n]'h).toNat:Int):=by
 subst l
 unfold kR;rw[ay (by omega)]
 have:s.data[n]?=some s[n]:=by
  rw[ej (by exact h)];rfl
 simp[this]
theorem Jj {s:ab} {i v:Int} (h:kR s i=some v):∃n:Nat,∃l:n<s.size,i=n∧v=((s[n]'l).toNat:Int):=by
 unfold kR at h;split at h
 ·rename_i h0
  simp only[cM] at h
  obtain⟨c,hc,rfl⟩:=h
  obtain⟨q,he⟩:=cU.1 hc
  exact⟨i.toNat,q,by omega,by rw[← he];rfl⟩
 ·cases h
end
section
variable {F:Fence} {P:Program} {w0:World} {K:Nat→Prop} {N:Nat} {dfs:List Deferred} {ops:Array Oper} {Q:Exit→Act→World→Prop} {rest:List Oper} {σ σ':List (Nat×Value)} {L L' R As Bs:List Asn} {o:Oper} {v:Value}
 {d:Nat} {t:TypeId} {op:Op} {ty:TypeId} {pos:String} {aft:Array Edge} {g:Option (Nat×Bool)} {x y z:Operand} {c c1 c2 c3:Code} {k:Nat} {A B:Asn} {RO:List (Nat×Obj)}
 {α:Type} {enc:α→List Value} {e:TypeId} {size:Nat} {xs:List α} {vv:Value} {s:ab}
def DR {β:Type} (w0:World) (K:Nat→Prop) (N:Nat) (I:β→Prop) (df:β→List Deferred) (σf:β→List (Nat×Value)) (Lf:β→List Asn) (a:Act) (w:World):Prop:=∃b,I b∧St w0 K N (df b) (σf b) (Lf b) a w
def DS:Nat→Code→Code
 | 0,c=>c
 | n+1,.seq _ c=>DS n c
 | _+1,c=>c
theorem c8 {β:Type} (j:Nat) (hc:DS j c=.seq c2 c3) (I:β→Prop) (E:β→List Deferred) (q:β→List (Nat×Value)) (G:β→List Asn)
  (h1:(∀ {l:List Deferred} {σ':List (Nat×Value)} {L':List Asn},TC F P w0 K N l (_root_.Go.Exit.then (DR w0 K N I E q G) Q) c2 σ' L'→TC F P w0 K N l Q (.seq c2 c3) σ' L')→TC F P w0 K N dfs Q c σ L)
  (h2:∀b,I b→TC F P w0 K N (E b) Q c3 (q b) (G b)):TC F P w0 K N dfs Q c σ L :=
 h1 fun h a w M H=>by
  refine wpIn_seq (wpIn_mono (h a w M H) ?_)
  intro e U w' D
  cases e with
  | normal=>obtain⟨b,J,T,O⟩:=D;exact h2 b J U w' T O
  | _=>exact D
theorem bx {β:Type} {I:β→Prop} {q:β→List Deferred} {l:β→List (Nat×Value)} {D:β→List Asn} (b:β) (J:I b) (hd:dfs=q b) (E:po σ (l b)) (hL:ap L (D b) R) :
  TX w0 K N dfs (_root_.Go.Exit.then (DR w0 K N I q l D) Q) .normal σ L:=fun a w H G=>by subst hd;exact⟨b,J,E _ _ _ H,G.weaken hL⟩
theorem rI {b:Bool} (ht:b=true→TC F P w0 K N dfs Q c σ L) (hf:b=false→TC F P w0 K N dfs Q c σ L):TC F P w0 K N dfs Q c σ L:=by
 cases b with
 | true=>exact ht rfl
 | false=>exact hf rfl
theorem ni {l:Value} (he:v=l) (h:TO F P w0 K N dfs ops Q rest ((d,l)::σ) L):TO F P w0 K N dfs ops Q rest ((d,v)::σ) L:=by subst he;exact h
theorem p6 {i u:Int} (ht:P.underlying t=some .string) (h:kR s i=some u) (w:World):(iC t (.string s) (.int .i64 i)).run P w=.ok (.int .u8 u) w:=by
 obtain⟨n,l,rfl,rfl⟩:=Jj h
 exact Jb ht l w
theorem jZ {lo hi:Option Value} {i j:Int} (ht:P.underlying t=some .string) (l:lo=none∧i=0∨lo=some (.int .i64 i)) (q:hi=none∧j=(s.size:Int)∨hi=some (.int .i64 j)) (h:0≤i∧i≤j∧j≤(s.size:Int)) (w:World) :
  (gK t (.string s) lo hi none).run P w=.ok (.string (c7 s i j)) w:=by
 obtain⟨h1,h2,D⟩:=h
 obtain⟨a,rfl⟩:∃a:Nat,i=a:=⟨i.toNat,by omega⟩
 obtain⟨b,rfl⟩:∃b:Nat,j=b:=⟨j.toNat,by omega⟩
 unfold c7
 refine Jc (i:=a) (j:=b) ht ?_ ?_ (by omega) (by omega) w
 ·rcases l with⟨e,h⟩ | h
  ·exact .inl ⟨e,by omega⟩
  ·exact .inr h
 ·rcases q with⟨e,h⟩ | h
  ·exact .inl ⟨e,by omega⟩
  ·exact .inr h
def kS (k:IntKind) (a b:Int):Int:=k.wrap (a*2 ^ (min b.toNat k.bits))
def mg (k:IntKind) (a b:Int):Int:=a.fdiv (2 ^ (min b.toNat k.bits))
def zO (k:IntKind) (a b:Int):Int:=k.wrap ((fE k.bits a &&& fE k.bits b).toNat:Int)
def nQ (k:IntKind) (a b:Int):Int:=k.wrap ((fE k.bits a ||| fE k.bits b).toNat:Int)
theorem DT {k l:IntKind} {m n:Int} (q:0≤n) (w:World):(do eqGuard .shl t x y (.int k m) (.int l n);binOp .shl t (.int k m) (.int l n):Sem Value).run P w=.ok (.int k (kS k m n)) w:=by
 have:¬ n<0:=by omega
 simp[eqGuard,binOp,Op.shift,ak,this,kS]
theorem tP {k l:IntKind} {m n:Int} (q:0≤n) (w:World):(do eqGuard .shr t x y (.int k m) (.int l n);binOp .shr t (.int k m) (.int l n):Sem Value).run P w=.ok (.int k (mg k m n)) w:=by
 have:¬ n<0:=by omega
 simp[eqGuard,binOp,Op.shift,ak,this,mg]
theorem Jk {k:IntKind} {m n:Int} (w:World):(do eqGuard .and t x y (.int k m) (.int k n);binOp .and t (.int k m) (.int k n):Sem Value).run P w=.ok (.int k (zO k m n)) w:=by
 simp[eqGuard,binOp,Op.intBits,ak,zO]
theorem xR {k:IntKind} {m n:Int} (w:World):(do eqGuard .or t x y (.int k m) (.int k n);binOp .or t (.int k m) (.int k n):Sem Value).run P w=.ok (.int k (nQ k m n)) w:=by
 simp[eqGuard,binOp,Op.intBits,ak,nQ]
theorem rJ {s d:TypeId} {u:TypeDesc} {k l:IntKind} {n:Int} (q:P.underlying s=some u) (hd:P.underlying d=some (.int l)) (w:World):(convert s d (.int k n)).run P w=.ok (.int l (l.wrap n)) w:=vF q hd rfl w
def Vw (vv:Value) (L:List α) (size k:Nat) (v:Value) (xs:List α):Prop :=
 k+xs.length≤L.length∧(L.drop k).take xs.length=xs∧∃q c,v=.slice q xs.length c∧xs.length≤c∧(xs≠[]→q=some ⟨gG vv,k*size,none⟩)
theorem Vw.get {Ls:List α} {v:Value} {i:Int} {q:α} (h:Vw vv Ls size k v xs) (l:zcy xs i=some q):Ls[k+i.toNat]?=some q:=by
 have h1:=fb l
 rw[← h.2.1,ir] at h1
 split at h1
 ·rwa [fW] at h1
 ·cases h1
theorem xS {w:World} (h:Holds w0 K L w) (hk:L[k]?=some (vec enc e size vv xs)):Vw vv xs size 0 vv xs:=by
 obtain⟨C,hv⟩:=h.vec hk
 refine⟨by omega,by simp,?_⟩
 rcases hv.shape with⟨rfl,rfl,_⟩ | ⟨g,cap,rfl,l⟩
 ·exact⟨none,0,rfl,bJ _,fun h=>absurd rfl h⟩
 ·refine⟨some ⟨g,0,none⟩,cap,rfl,?_,fun _=>by simp[gG]⟩
  obtain⟨q,_⟩:=hv
  rcases q.2 with⟨h1,_⟩ | ⟨b,c,D,h1,_,_,h2,_⟩
  ·cases h1
  ·cases h1;exact h2
theorem kG (hk:L[k]?=some (vec enc e size vv xs)) (h:Vw vv xs size 0 vv xs→TO F P w0 K N dfs ops Q rest σ L):TO F P w0 K N dfs ops Q rest σ L:=fun a w q l=>h (xS l hk) a w q l
theorem xT (hk:L[k]?=some (vec enc e size vv xs)) (h:Vw vv xs size 0 vv xs→TC F P w0 K N dfs Q c σ L):TC F P w0 K N dfs Q c σ L:=fun a w q l=>h (xS l hk) a w q l
theorem iO [br F] {l te:TypeId} {Ls:List α} {j:Nat} (hV:Vw vv Ls size j v xs) (hg:gd ops σ g=some true) (hd:d<N) (hx:ev σ x=some v) (ht:P.underlying l=some (.slice te))
  (h:TO F P w0 K N dfs ops Q rest ((d,.int .i64 (xs.length:Int))::σ) L):TO F P w0 K N dfs ops Q (⟨some d,.call { callee:=.builtin .len,args:=#[x],argTypes:=#[l] },ty,pos,aft,g⟩::rest) σ L :=
 iS hg hd (by simp) (fun a w E G=>by
  obtain⟨_,_,q,c,D,_⟩:=hV
  have:=E.ev hx
  simp[execOp,resolve,invoke,builtin,this,D,kF,run_underlying ht,ak,goInt]) h
theorem gq [br F] {Ls:List α} {j off:Nat} {i:Int} {q:α} (hV:Vw vv Ls size j v xs) (H:zcy xs i=some q) (ht:P.underlying t=some (.slice e)) (M:bD P e size) (hg:gd ops σ g=some true) (hd:d<N) (hx:ev σ x=some v) (hy:ev σ y=some (.int .i64 i))
  (I:(j+i.toNat)*size=off)
  (h:TO F P w0 K N dfs ops Q rest ((d,.pointer (some ⟨gG vv,off,none⟩))::σ) L):TO F P w0 K N dfs ops Q (⟨some d,.indexAddr t x y,ty,pos,aft,g⟩::rest) σ L:=by
 obtain⟨O,hu,G⟩:=M.some
 subst I;subst G
 obtain⟨h0,J⟩:=vH H
 obtain⟨n,rfl⟩:∃n:Nat,i=n:=⟨i.toNat,by omega⟩
 refine iS hg hd (by simp) (fun a w E T=>?_) h
 obtain⟨_,_,q',c,l,_,hp⟩:=hV
 have hp:=hp (by intro h;simp[h] at J;omega)
 subst hp;subst l
 have h1:=E.ev hx;have h2:=E.ev hy
 have D:n<xs.length:=by omega
 simp[execOp,Instr.indexAt,h1,h2,asIntOf,run_underlying ht,ak,D,sizeOf,typeInfo,hu,ie,cT]
theorem fO [br F] {off:Nat} {i:Int} {q:α} (l:zcy xs i=some q) (ht:P.underlying t=some (.slice e)) (E:bD P e size) (hg:gd ops σ g=some true) (hd:d<N) (hx:ev σ x=some vv) (hy:ev σ y=some (.int .i64 i)) (hk:L[k]?=some (vec enc e size vv xs))
  (D:i.toNat*size=off)
  (h:TO F P w0 K N dfs ops Q rest ((d,.pointer (some ⟨gG vv,off,none⟩))::σ) L):TO F P w0 K N dfs ops Q (⟨some d,.indexAddr t x y,ty,pos,aft,g⟩::rest) σ L :=
 kG hk fun hV=>gq hV l ht E hg hd hx hy (by rw[cg];exact D) h
theorem Jl {l:List α} {i j:Int} (h:0≤i∧i≤j∧j≤(l.length:Int)):((fi l i j).length:Int)=j - i:=by
 unfold fi;rw[cj,ck];omega
theorem oZ {lo hi:Option Value} {Ls:List α} {m:Nat} {i j:Int} (hV:Vw vv Ls size m v xs) (ht:P.underlying t=some (.slice e)) (Z:bD P e size)
  (G:lo=none∧i=0∨lo=some (.int .i64 i)) (H:hi=none∧j=(xs.length:Int)∨hi=some (.int .i64 j)) (h:0≤i∧i≤j∧j≤(xs.length:Int)) :
  ∃I,Vw vv Ls size (m+i.toNat) I (fi xs i j)∧∀w:World,(gK t v lo hi none).run P w=.ok I w:=by
 obtain⟨J,hu,V⟩:=Z.some
 subst V
 obtain⟨hk,hL,q,c,W,hc,hp⟩:=hV
 subst W
 obtain⟨h1,h2,U⟩:=h
 have hl:=Jl (l:=xs) ⟨h1,h2,U⟩
 obtain⟨a,rfl⟩:∃a:Nat,i=a:=⟨i.toNat,by omega⟩
 obtain⟨b,rfl⟩:∃b:Nat,j=b:=⟨j.toNat,by omega⟩
 have D:(fi xs (a:Int) (b:Int)).length=b - a:=by omega
 refine⟨.slice (if c=a then q else q.map (·.add (a*J.size))) (b - a) (c - a),⟨by rw[D];simp only[dI];omega,?_,(if c=a then q else q.map (·.add (a*J.size))),c - a,by rw[D],by rw[D];omega,fun h=>?_⟩,fun w=>?_⟩
 ·rw[D]
  unfold fi
  simp only[dI]
  rw[show Ls.drop (m+a)=(Ls.drop m).drop a by rw[eS]]
  conv=>rhs;rw[← hL]
  rw[List.drop_take,List.take_take,Nat.min_eq_left (by omega)]
 ·have Y:a<b:=by
   have:0<(fi xs (a:Int) (b:Int)).length:=c6.2 h
   omega
  have h4:=hp (by intro h;simp[h] at U;omega)
  subst h4
  rw[ar (by omega)]
  simp[ie,cT]
 ·have e1:∀w:World,(k9 true xs.length c lo hi none).run P w=.ok (a,b,c) w:=by
   intro w
   have T:b≤c:=by omega
   have O:a≤b:=by omega
   have M:¬ c<b:=by omega
   have E:¬ b<a:=by omega
   unfold k9
   rcases G with⟨rfl,h⟩ | rfl <;> rcases H with⟨rfl,h'⟩ | rfl
   ·have e1:a=0:=by omega
    have e2:b=xs.length:=by omega
    rw[e1,e2];simp[ak]
   ·have e1:a=0:=by omega
    rw[e1];simp[ak,iM,asIntOf,T,M]
   ·have e2:b=xs.length:=by omega
    rw[← e2];simp[ak,iM,asIntOf,O,E]
   ·simp[ak,iM,asIntOf,T,O,M,E]
  simp only[gK,Instr.slice,ak,run_underlying ht,ci,e1]
  simp[sizeOf,typeInfo,hu,ak]
end
def kn (k:IntKind) (x:Int):List Value:=[.int k x]
def tQ (x:Bool):List Value:=[.bool x]
def gR (x:ab):List Value:=[.string x]
theorem jh {k:IntKind} (x:Int):(kn k x).length=1:=rfl
theorem tR (x:Bool):(tQ x).length=1:=rfl
theorem ga (x:ab):(gR x).length=1:=rfl
theorem rK {k:IntKind} (x:Int):∀u∈kn k x,u.oneCell'=true:=by
 intro u hu
 simp only[kn,bE,dX,or_false] at hu
 rcases hu with rfl;rfl
theorem oc (x:ab):∀u∈gR x,u.oneCell'=true:=by
 intro u hu
 simp only[gR,bE,dX,or_false] at hu
 rcases hu with rfl;rfl
theorem Jm {L As:List Asn}:∀ (ks:List Nat),oX L ks=some As→tE ks=true→∀ {C1 C2:Nat→Prop} {w:World},aN As C1 w→aN (xJ L ks) C2 w→(∀k,C1 k→¬ C2 k)→aN L (fun k=>C1 k∨C2 k) w:=by
 intro ks
 induction ks generalizing L As with
 | nil=>
  intro h _ C1 C2 w h1 h2 q
  simp only[oX,fC] at h;subst h
  exact h2.congr (fun k=>⟨fun h=>h.resolve_left (h1 k),.inr⟩)
 | cons k ks H=>
  intro h hd C1 C2 w h1 h2 q
  simp only[tE,aR,cN] at hd
  simp only[oX] at h
  split at h
  ·rename_i A E G I
   cases h
   obtain⟨O,M,e1,e2,J,D⟩:=h1
   have hk:k<L.length:=(au.1 G).1
   have:=H (L:=L.set k cn) (As:=E) (by rw[zC hd.1];exact I) hd.2 e2 (show aN (xJ (L.set k cn) ks) C2 w from h2) (fun j hj=>q j ((D j).2 (.inr hj)))
   have h5:=aN.put (C:=fun j=>C1 j∨C2 j) hk e1 this (fun j hj l=>by
    rcases l with h | h
    ·exact J j hj h
    ·exact q j ((D j).2 (.inl hj)) h) (fun j=>by rw[D,or_assoc])
   rwa [Dy G] at h5
  ·cases h
section
variable {F:Fence} {P:Program} {w0:World} {K:Nat→Prop} {N:Nat} {dfs:List Deferred} {ops:Array Oper} {Q:Exit→Act→World→Prop} {rest:List Oper} {σ σ':List (Nat×Value)} {L L' R As Bs:List Asn} {o:Oper} {v:Value}
 {d:Nat} {t:TypeId} {op:Op} {ty:TypeId} {pos:String} {aft:Array Edge} {g:Option (Nat×Bool)} {x y z:Operand} {c c1 c2 c3:Code} {k:Nat} {A B:Asn} {RO:List (Nat×Obj)}
 {α:Type} {enc:α→List Value} {e:TypeId} {size:Nat} {xs:List α} {vv:Value} {s:ab} {ex:Exit}
theorem ox [br F] {xs:List Operand} {E:Array TypeId} {f:FuncId} {first cap:Array Value} {vs D:List Value}
  (hg:gd ops σ g=some true) (hd:d<N) (hx:ev σ x=some (.func (.func f) first cap)) (J:evL σ xs=some vs) (hv:first.toList++vs++cap.toList=D)
  (H:∀args w,(callFunc f args).run P w=.ok (.enter f args) w) (V:Fn P f D As (fun _:Unit=>v) (fun _=>As)) (ks:List Nat) (O:oX L ks=some As) (hk:tE ks=true)
  (h:TO F P w0 K N dfs ops Q rest ((d,v)::σ) L) :
  TO F P w0 K N dfs ops Q (⟨some d,.call { callee:=.value x,args:=xs.toArray,argTypes:=E },ty,pos,aft,g⟩::rest) σ L:=by
 intro a w I U
 simp only[wpListIn,sF (o:=⟨some d,.call { callee:=.value x,args:=xs.toArray,argTypes:=E },ty,pos,aft,g⟩) I hg,if_true]
 refine⟨fun f _=>br.fn f,?_⟩
 have h1:(execOp a.eval ⟨some d,.call { callee:=.value x,args:=xs.toArray,argTypes:=E },ty,pos,aft,g⟩).run P w=.ok (.enter f D.toArray) w:=by
  have e:first++vs.toArray++cap=D.toArray:=by rw[← hv];simp
  simp only[execOp,resolve,eI,I.evL J,I.ev hx,kM,ak,io,ci,invoke,e,H]
 rw[gJ F _ _ (by simp),h1]
 refine⟨(fun h=>by rw[br.depth (F:=F)] at h;cases h),?_⟩
 obtain⟨C,hL,q⟩:=U
 obtain⟨C1,C2,W,M,T,g4⟩:=aH ks O hk C w hL
 refine br.calls ((V w C1 W).mono ?_)
 rintro e w' ⟨b,rfl,C',hB,l⟩
 refine h _ w' (I.put hd _) ⟨fun j=>C' j∨C2 j,Jm ks O hk hB (M.loc l.1.size (fun k hk=>l.1.keep k (M.lt k hk) (fun h=>T k h hk))) (fun j hj G=>?_),?_,?_⟩
 ·rcases l.2 j hj with h | h
  ·exact T j h G
  ·have:=M.lt j G;omega
 ·exact q.1.trans' l.1 (fun i hi hc=>by
   rcases q.2 i ((g4 i).2 (.inl hc)) with h | h
   ·exact h
   ·omega)
 ·intro j hj
  have:=q.1.size
  have Y:=l.1.size
  rcases hj with hj | hj
  ·rcases l.2 j hj with h | h
   ·rcases q.2 j ((g4 j).2 (.inl h)) with h | h
    ·exact .inl h
    ·exact .inr ⟨h.1,by omega⟩
   ·exact .inr ⟨by omega,h.2⟩
  ·rcases q.2 j ((g4 j).2 (.inr hj)) with h | h
   ·exact .inl h
   ·exact .inr ⟨h.1,by omega⟩
theorem xU (h:TX w0 K N dfs Q ex σ (L++[vec enc e size (.slice none 0 0) ([]:List α)])):TX w0 K N dfs Q ex σ L:=fun a w q l=>
 h a w q (l.grow (C':=fun _=>False) (cF.refl _ _) (aN.one (A:=vec enc e size (.slice none 0 0) ([]:List α)) gQ.nil))
theorem DU {l:TypeId} {a:Addr} {w:World} (ht:P.underlying t=some (.pointer l)):(Op.equal t (.pointer (some a)) (.pointer none)).run P w=.ok false w:=by
 have h:∀d,(dL (d+1) t (.pointer (some a)) (.pointer none)).run P w=.ok false w:=fun d=>by simp[dL,run_underlying ht]
 exact h 9999
theorem vI {l:TypeId} {a:Addr} (ht:P.underlying t=some (.pointer l)) (w:World):(do eqGuard .eql t x y (.pointer (some a)) (.pointer none);binOp .eql t (.pointer (some a)) (.pointer none):Sem Value).run P w=.ok (.bool false) w:=by
 simp[eqGuard,binOp,ak,DU ht]
theorem Jn {l:TypeId} {a:Addr} (ht:P.underlying t=some (.pointer l)) (w:World):(do eqGuard .neq t x y (.pointer (some a)) (.pointer none);binOp .neq t (.pointer (some a)) (.pointer none):Sem Value).run P w=.ok (.bool true) w:=by
 simp[eqGuard,binOp,ak,DU ht]
theorem DV {b:BinOp} {p:Bool} {xs ys:Array Value} (l:b=.eql∨b=.neq) (hm:P.eqGuardType P.depth t=false) (h:∀w,(dL 10000 t (.agg xs) (.agg ys)).run P w=.ok p w) (w:World) :
  (do eqGuard b t x y (.agg xs) (.agg ys);binOp b t (.agg xs) (.agg ys):Sem Value).run P w=.ok (.bool (if b=.eql then p else !p)) w:=by
 rcases l with rfl | rfl
 ·simp only[ak,run_eqGuard_agg w _ _ _ _ _ _ hm,ci,run_eql_struct,h];rfl
 ·simp only[ak,run_eqGuard_agg w _ _ _ _ _ _ hm,ci,run_neq_struct,h];rfl
theorem xV {dd i off : Nat} {xs ys : Array Value} {t' ft : TypeId} {a b : Value} {p q : Bool} (hf : ((P.fieldsOf t').toList[i]?).map (fun f => (f.name != "_", f.type, f.offset)) = some (true, ft, off))
  (ha:∀w:World,(part ft xs off).run P w=.ok a w) (hb:∀w:World,(part ft ys off).run P w=.ok b w) (he:∀w,(dL dd ft a b).run P w=.ok p w)
  (hr:∀w,(kc dd xs ys ((P.fieldsOf t').toList.drop (i+1))).run P w=.ok q w) (w:World):(kc dd xs ys ((P.fieldsOf t').toList.drop i)).run P w=.ok (p&&q) w:=by
 simp only[cM] at hf
 obtain⟨f,hf,he'⟩:=hf
 simp only[Prod.mk.injEq] at he'
 obtain⟨h1,rfl,rfl⟩:=he'
 have hl:=(au.1 hf).1
 have hd:(P.fieldsOf t').toList.drop i=f::(P.fieldsOf t').toList.drop (i+1):=by
  rw[bB hl];congr 1;exact (au.1 hf).2
 rw[hd,kc,ay (by simpa using h1)]
 simp only[ak,ha,hb,he,ci]
 cases p
 ·simp
 ·simp[hr]
theorem DW {dd n:Nat} {xs ys:Array Value} {l:TypeId} (h:(P.fieldsOf l).toList.length=n) (w:World):(kc dd xs ys ((P.fieldsOf l).toList.drop n)).run P w=.ok true w:=by
 rw[← h,List.drop_length];rfl
theorem xW {dd:Nat} {k l:IntKind} {a b:Int} (h:P.underlying t=some (.int l)) (w:World):(dL (dd+1) t (.int k a) (.int k b)).run P w=.ok (a==b) w:=run_equalIn_int w dd t k l a b h
theorem DX {dd:Nat} {xs ys:Array Value} {p:Bool} (ht:P.underlying t=some (.struct (P.fieldsOf t))) (hp:P.stoodInHeld t=false) (h:∀w,(kc dd xs ys ((P.fieldsOf t).toList.drop 0)).run P w=.ok p w) (w:World) :
  (dL (dd+1) t (.agg xs) (.agg ys)).run P w=.ok p w:=by
 rw[run_equalIn_agg w dd t xs ys ht hp];simpa using h w
theorem Jo {p q:Bool} {xs ys:Array Value} (hm:P.eqGuardType P.depth t=false) (l:p=q) (h:∀w,(dL 10000 t (.agg xs) (.agg ys)).run P w=.ok p w) (w:World) :
  (do eqGuard .eql t x y (.agg xs) (.agg ys);binOp .eql t (.agg xs) (.agg ys):Sem Value).run P w=.ok (.bool q) w:=by
 subst l;exact DV (.inl rfl) hm h w
theorem Jp {p q:Bool} {xs ys:Array Value} (hm:P.eqGuardType P.depth t=false) (l:p=q) (h:∀w,(dL 10000 t (.agg xs) (.agg ys)).run P w=.ok p w) (w:World) :
  (do eqGuard .neq t x y (.agg xs) (.agg ys);binOp .neq t (.agg xs) (.agg ys):Sem Value).run P w=.ok (.bool (!q)) w:=by
 subst l;exact DV (.inr rfl) hm h w
def qL (b:ab):List Int:=b.data.toList.map (fun c=>(c.toNat:Int))
def jA (l:List Int):ab:=⟨(l.map (fun x=>ru x.toNat)).toArray⟩
theorem Jq (b:ab):(qL b).length=b.size:=by simp[qL]
theorem zQ (l:List Int):(jA l).size=l.length:=by
 show ((l.map (fun x=>ru x.toNat)).toArray).size=_;simp
theorem DY {l:List Int} (h:∀x∈l,U8 x):qL (jA l)=l:=by
 simp only[qL,jA,List.map_map]
 conv=>rhs;rw[← List.map_id l]
 refine List.map_congr_left fun x hx=>?_
 have:=h x hx
 simp only[Function.comp,id,UInt8.toNat_ofNat']
 omega
theorem Jr {v:Value} {b:ab}:byt e v b=vec (kn .u8) e 1 v (qL b):=by
 have h1:strCells b=(qL b).flatMap (kn .u8):=by
  simp only[strCells,qL,kn,List.flatMap_map]
  generalize b.data.toList=l
  induction l with
  | nil=>rfl
  | cons c l q=>rw[aE,q,aG];rfl
 have:∀C w,jY e v b C w↔gQ (kn .u8) e 1 v (qL b) C w:=fun C w=>by
  unfold jY gQ Rw;rw[Jq,h1]
 unfold byt vec
 congr 1
 funext C w
 exact propext (this C w)
theorem tS {v:Value} {l:List Int} (h:∀x∈l,U8 x):vec (kn .u8) e 1 v l=byt e v (jA l):=by rw[Jr,DY h]
theorem Js {l:Value} {enc:α→List Value} {z:α} (hz:l.cells.toList=enc z) (h0:l.cells.size=size) (hp:0<size):∀n:Nat,(madeCells l.cells (n*size)).toList=(bA n z).flatMap enc:=by
 have E:(enc z).length=size:=by rw[← hz];simpa using h0
 intro n
 apply ls
 intro i
 have D:∀m,((bA m z).flatMap enc).length=m*size:=fun m=>by
  induction m with
  | zero=>simp
  | succ m q=>rw[pR,aG,ah,q,E,cT,iY,jm]
 by_cases hi:i<n*size
 ·have e1:((bA n z).flatMap enc)[i]?=(enc z)[i % size]?:=by
   clear h0
   induction n generalizing i with
   | zero=>simp at hi
   | succ n q=>
    rw[pR,aG]
    by_cases h:i<size
    ·rw[fB (by omega),Nat.mod_eq_of_lt h]
    ·rw[iq (by omega),E,q (i - size) (by rw[cT] at hi;omega),← Nat.mod_eq_sub_mod (by omega)]
  rw[e1,← hz]
  have hm:i % size<l.cells.size:=by rw[h0];exact Nat.mod_lt _ hp
  simp[madeCells,hi,h0,ej hm]
  rw[getElem!_pos _ _ (by rw[← h0] at hm ⊢;exact hm)]
 ·rw[gE (by simp[size_madeCells];omega),gE (by rw[D];omega)]
theorem DZ [br F] {sl:Operand} {J:TypeId} {z:α} {n:Int} (ht:P.underlying J=some (.slice e)) (hE:dR P e size) (hZ:bZ P e (enc z)) (E:∀x,(enc x).length=size) (hg:gd ops σ g=some true) (hd:d<N) (Y:ev σ sl=some (.int .i64 n))
  (T:0≤n∧n≤2147483648)
  (h:∀U,TO F P w0 K N dfs ops Q rest ((d,U)::σ) (L++[vec enc e size U (bA n.toNat z)])) :
  TO F P w0 K N dfs ops Q (⟨some d,.makeSlice J sl sl,ty,pos,aft,g⟩::rest) σ L:=by
 obtain⟨i,I,hi,q,l,M,hsz,H⟩:=hE
 obtain⟨i',z',G,D,O⟩:=hZ.some
 rw[hi] at G;cases G
 rw[q] at D;cases D
 refine nw hg (by simp) fun a w V W=>?_
 have Z:(i.bytes:Int)*n≤281474976710656:=by
  have h1:(i.bytes:Int)≤65536:=by omega
  calc (i.bytes:Int)*n≤65536*2147483648:=Int.mul_le_mul h1 T.2 T.1 (by omega)
   _≤_:=by omega
 have hr:=run_make (P:=P) w J e i I ht hi q .i64 .i64 n n T.1 (Int.le_refl _) Z (by omega)
 refine⟨_,_,by simp only[execOp,V.ev Y,ak,hr];rfl,h _ _ _ (V.put hd _) ?_⟩
 have h2:=W.alloc (.cells (madeCells I.cells (n.toNat*i.size)) e (0,0))
 have h3:(Go.Proofs.YtifpjbgnikjglaaGreatDoor.obj w.heap.size (.cells (madeCells I.cells (n.toNat*i.size)) e (0,0)))=cells w.heap.size ((bA n.toNat z).flatMap enc) e:=by
  unfold cells
  rw[← Js O M hsz,l]
 rw[h3] at h2
 have h4:=h2.toVec (k:=L.length) (size:=size) (bA n.toNat z) (b:=w.heap.size) (e:=e) (by simp) E rfl (by simp[maxLen];omega)
 simpa using h4
theorem xX [br F] {l:Array TypeId} {kk:IntKind} {m n:Int} (hg:gd ops σ g=some true) (hd:d<N) (hx:ev σ x=some (.int kk m)) (hy:ev σ y=some (.int kk n))
  (h:TO F P w0 K N dfs ops Q rest ((d,.int kk (min m n))::σ) L):TO F P w0 K N dfs ops Q (⟨some d,.call { callee:=.builtin .min,args:=#[x,y],argTypes:=l },ty,pos,aft,g⟩::rest) σ L :=
 iS hg hd (by simp) (fun a w q D=>by
  have h1:=q.ev hx;have h2:=q.ev hy
  have e:(if n<m then n else m)=min m n:=by rw[Int.min_def];split <;> split <;> omega
  simp[execOp,resolve,invoke,builtin,h1,h2,Builtin.min_,Builtin.min2,ak,e]) h
theorem vJ {j:Nat} {X:List Asn} (hk:L[k]?=some A) (hj:L[j]?=some (zgL X)) (l:k≠j) (h:TC F P w0 K N dfs Q c σ ((L.set k cn).set j (zgL (A::X)))):TC F P w0 K N dfs Q c σ L:=fun a w D q=>h a w D (q.starCons hk hj l)
theorem sL {b:Bool} (ht:b=true→TO F P w0 K N dfs ops Q rest σ L) (hf:b=false→TO F P w0 K N dfs ops Q rest σ L):TO F P w0 K N dfs ops Q rest σ L:=by
 cases b with
 | true=>exact ht rfl
 | false=>exact hf rfl
theorem kU {xs pre post l:List α} {x:α} (h:xs=pre++x::post) (h2:xs=pre++[x]++l):post=l:=by
 rw[h,aM] at h2
 have:=List.append_cancel_left h2
 simpa using this
end
def vK {β:Type} (f:β→Asn):Asn:=⟨fun C w=>∃b,(f b).P C w,fun⟨b,h⟩=>(f b).lt h,fun⟨b,h⟩ hs hk=>⟨b,(f b).loc h hs hk⟩⟩
section
variable {F:Fence} {P:Program} {w0:World} {K:Nat→Prop} {N:Nat} {dfs:List Deferred} {ops:Array Oper} {Q:Exit→Act→World→Prop} {rest:List Oper} {c:Code} {ex:Exit} {σ:List (Nat×Value)} {L As R:List Asn} {β:Type}
def lz {β:Type} (As:List Asn) (Bs:β→List Asn) (I:β→Prop):Prop:=∀C w,aN As C w→∃b,I b∧aN (Bs b) C w
theorem Holds.entl {I:β→Prop} {Bs:β→List Asn} {w:World} (h:Holds w0 K L w) (l:ap L As R) (E:lz As Bs I):∃b,I b∧Holds w0 K (R++Bs b) w:=by
 obtain⟨C1,h1,h2⟩:=h.split l
 obtain⟨b,D,q⟩:=E C1 w h1
 exact⟨b,D,h2 _ C1 w (cF.refl _ _) q⟩
theorem sM {I:β→Prop} {Bs:β→List Asn} (q:ap L As R) (H:lz As Bs I) (h:∀b,I b→TO F P w0 K N dfs ops Q rest σ (R++Bs b)):TO F P w0 K N dfs ops Q rest σ L:=fun a w E l=>by
 obtain⟨b,G,D⟩:=l.entl q H;exact h b G a w E D
theorem D0 {I:β→Prop} {Bs:β→List Asn} (q:ap L As R) (H:lz As Bs I) (h:∀b,I b→TC F P w0 K N dfs Q c σ (R++Bs b)):TC F P w0 K N dfs Q c σ L:=fun a w E l=>by
 obtain⟨b,G,D⟩:=l.entl q H;exact h b G a w E D
theorem D3 {I:β→Prop} {Bs:β→List Asn} (q:ap L As R) (H:lz As Bs I) (h:∀b,I b→TX w0 K N dfs Q ex σ (R++Bs b)):TX w0 K N dfs Q ex σ L:=fun a w E l=>by
 obtain⟨b,G,D⟩:=l.entl q H;exact h b G a w E D
end
structure Hd where
 p:Option Addr
 n:Nat
 c:Nat
def Hd.v (h:Hd):Value:=.slice h.p h.n h.c
def Hd.nil:Hd:=⟨none,0,0⟩
section
variable {α η:Type} {enc:α×η→List Value} {nest:α×η→List Asn} {e:TypeId} {size:Nat} {v:Value} {xs:List α} {i:Nat} {x:α}
def mh (enc:α×η→List Value) (nest:α×η→List Asn) (e:TypeId) (size:Nat) (v:Value) (xs:List α):Asn :=
 vK fun zs:{zs:List (α×η) // zs.map bu=xs}=>zgL [vec enc e size v zs.1,zgL (zs.1.flatMap nest)]
theorem D4 {A B:Asn} {C:Nat→Prop} {w:World} (h:aN [A,B] C w):∃C1 C2,A.P C1 w∧B.P C2 w∧(∀k,C1 k→¬ C2 k)∧∀k,C k↔C1 k∨C2 k:=by
 obtain⟨C1,C2,h1,⟨l,I,G,E,H,g4⟩,D,q⟩:=h
 have e:∀k,C2 k↔l k:=fun k=>by rw[g4];exact⟨fun h=>h.resolve_right (E k),.inl⟩
 exact⟨C1,l,h1,G,fun k h h'=>D k h ((e k).2 h'),fun k=>by rw[q,e]⟩
theorem zR {A B:Asn} {C C1 C2:Nat→Prop} {w:World} (h1:A.P C1 w) (h2:B.P C2 w) (q:∀k,C1 k→¬ C2 k) (l:∀k,C k↔C1 k∨C2 k):aN [A,B] C w :=
 ⟨C1,C2,h1,⟨C2,fun _=>False,h2,fun _ h=>h,fun _ _ h=>h,fun k=>by simp⟩,q,l⟩
theorem aN.one1 {A:Asn} {C:Nat→Prop} {w:World}:aN [A] C w↔A.P C w:=by
 constructor
 ·rintro⟨C1,C2,h1,h2,_,l⟩
  have:C1=C:=funext fun k=>propext ⟨fun h=>(l k).2 (.inl h),fun h=>((l k).1 h).resolve_right (h2 k)⟩
  rw[← this];exact h1
 ·exact fun h=>⟨C,fun _=>False,h,fun _ h=>h,fun _ _ h=>h,fun k=>by simp⟩
theorem xY {A B:List Asn} {C:Nat→Prop} {w:World} (h:aN (A++B) C w):∃C1 C2,aN A C1 w∧aN B C2 w∧(∀k,C1 k→¬ C2 k)∧∀k,C k↔C1 k∨C2 k:=by
 induction A generalizing C with
 | nil=>exact⟨fun _=>False,C,fun _ h=>h,h,fun _ h=>h.elim,fun k=>by simp⟩
 | cons A L D=>
  obtain⟨C1,C2,h1,h2,l,E⟩:=h
  obtain⟨q,J,I,H,G,g4⟩:=D h2
  refine⟨fun k=>C1 k∨q k,J,⟨C1,q,h1,I,fun k h h'=>l k h ((g4 k).2 (.inl h')),fun k=>_root_.Iff.rfl⟩,H,fun k h h'=>?_,fun k=>?_⟩
  ·rcases h with h | h
   ·exact l k h ((g4 k).2 (.inr h'))
   ·exact G k h h'
  ·rw[E,g4,or_assoc]
theorem sN {A B:List Asn} {C C1 C2:Nat→Prop} {w:World} (h1:aN A C1 w) (h2:aN B C2 w) (q:∀k,C1 k→¬ C2 k) (l:∀k,C k↔C1 k∨C2 k):aN (A++B) C w:=(h1.append h2 q).congr l
theorem D5 {zs:List (α×η)} {z:α×η} (hz:zs[i]?=some z) {C:Nat→Prop} {w:World}:aN (zs.flatMap nest) C w↔∃C1 C2,aN (nest z) C1 w∧aN ((zs.eraseIdx i).flatMap nest) C2 w∧(∀k,C1 k→¬ C2 k)∧∀k,C k↔C1 k∨C2 k:=by
 induction zs generalizing i C with
 | nil=>simp at hz
 | cons y zs M=>
  rw[aG]
  rcases i with _ | i
  ·simp at hz;subst hz
   constructor
   ·exact fun h=>xY h
   ·rintro⟨C1,C2,h1,h2,q,l⟩;exact sN h1 h2 q l
  ·have D:zs[i]?=some z:=by simpa using hz
   have e:(y::zs).eraseIdx (i+1)=y::zs.eraseIdx i:=rfl
   rw[e,aG]
   constructor
   ·intro h
    obtain⟨C1,C2,h1,h2,q,l⟩:=xY h
    obtain⟨H,G,J,I,E,g4⟩:=(M D).1 h2
    refine⟨H,fun k=>C1 k∨G k,J,sN h1 I (fun k h h'=>q k h ((g4 k).2 (.inr h'))) (fun k=>_root_.Iff.rfl),fun k h h'=>?_,fun k=>?_⟩
    ·rcases h' with h' | h'
     ·exact q k h' ((g4 k).2 (.inl h))
     ·exact E k h h'
    ·rw[l,g4];exact or_left_comm
   ·rintro⟨H,T,J,O,E,g4⟩
    obtain⟨C1,G,h1,I,q,l⟩:=xY O
    refine sN (C1:=C1) (C2:=fun k=>H k∨G k) h1 ((M D).2 ⟨H,G,J,I,fun k h h'=>E k h ((l k).2 (.inr h')),fun k=>_root_.Iff.rfl⟩) (fun k h h'=>?_) (fun k=>?_)
    ·rcases h' with h' | h'
     ·exact E k h' ((l k).2 (.inl h))
     ·exact q k h h'
    ·rw[g4,l];exact or_left_comm
theorem Jt:lz ([]:List Asn) (fun _:Unit=>[mh enc nest e size (.slice none 0 0) ([]:List α)]) (fun _=>True):=by
 intro C w h
 refine⟨(),trivial,aN.one1.2 ⟨⟨[],rfl⟩,zR (C1:=fun _=>False) (C2:=C) gQ.nil h (fun _ h=>h.elim) (fun k=>by simp)⟩⟩
theorem D6 {C:Nat→Prop} {w:World} (h:(mh enc nest e size v xs).P C w):∃a c,v=.slice a xs.length c:=by
 obtain⟨⟨zs,hz⟩,h⟩:=h
 obtain⟨C1,C2,h1,_⟩:=D4 h
 have:=gQ.len h1
 rw[← hz,aF];exact this
end
section
variable {F:Fence} {P:Program} {w0:World} {K:Nat→Prop} {N:Nat} {dfs:List Deferred} {ops:Array Oper} {Q:Exit→Act→World→Prop} {rest:List Oper} {σ:List (Nat×Value)} {L:List Asn}
 {d:Nat} {ty:TypeId} {pos:String} {aft:Array Edge} {g:Option (Nat×Bool)} {x:Operand} {k:Nat} {α η:Type} {enc:α×η→List Value} {nest:α×η→List Asn} {e:TypeId} {size:Nat} {vv:Value} {xs:List α}
theorem Ju [br F] {l te:TypeId} (hg:gd ops σ g=some true) (hd:d<N) (hx:ev σ x=some vv) (hk:L[k]?=some (mh enc nest e size vv xs)) (ht:P.underlying l=some (.slice te))
  (h:TO F P w0 K N dfs ops Q rest ((d,.int .i64 xs.length)::σ) L):TO F P w0 K N dfs ops Q (⟨some d,.call { callee:=.builtin .len,args:=#[x],argTypes:=#[l] },ty,pos,aft,g⟩::rest) σ L :=
 iS hg hd (by simp) (fun a w G D=>by
  obtain⟨C,hv,_⟩:=D.focus hk
  obtain⟨q,H,E⟩:=D6 hv
  have:=G.ev hx
  simp[execOp,resolve,invoke,builtin,this,E,kF,run_underlying ht,ak,goInt]) h
theorem jd {ε:Type} {enc1:ε→List Value} {ys:List ε} (hk:L[k]?=some (vec enc1 e size vv ys)) (h:∀hd:Hd,vv=hd.v→TO F P w0 K N dfs ops Q rest σ L):TO F P w0 K N dfs ops Q rest σ L:=fun a w D l=>by
 obtain⟨C,hv,_⟩:=l.focus hk
 obtain⟨q,E,he⟩:=gQ.len hv
 exact h ⟨q,ys.length,E⟩ he a w D l
theorem zS (hk:L[k]?=some (mh enc nest e size vv xs)) (h:∀hd:Hd,vv=hd.v→TO F P w0 K N dfs ops Q rest σ L):TO F P w0 K N dfs ops Q rest σ L:=fun a w D l=>by
 obtain⟨C,hv,_⟩:=l.focus hk
 obtain⟨q,E,he⟩:=D6 hv
 exact h ⟨q,xs.length,E⟩ he a w D l
theorem Jv {b:Nat} {ε:Type} {enc1:ε→List Value} {y:ε} (E:∀x,(enc1 x).length=size):lz [vec enc1 e size (.slice (some ⟨b,0,none⟩) 1 1) [y]] (fun _:Unit=>[cells b (enc1 y) e]) (fun _=>True):=by
 intro C w h
 obtain⟨h1,rfl⟩:=aN.one1.1 h
 refine⟨(),trivial,aN.one1.2 ⟨fun k=>by simp[bS,eq_comm],?_⟩⟩
 obtain⟨h2,q⟩:=h1
 rcases q with⟨q,_⟩ | ⟨g,cap,l,he,_,h5,M,J,I,G⟩
 ·cases q
 ·cases he
  have e1:[y].flatMap enc1=enc1 y:=by simp
  rw[e1] at G h2
  have H:l.toList.length=size:=by simpa using I
  have:l.toList=enc1 y:=by
   rw[← G,fx]
   simp[H]
  have D:l=(enc1 y).toArray:=by rw[← this]
  rw[h5,D]
end
section
variable {F:Fence} {P:Program} {w0:World} {K:Nat→Prop} {N:Nat} {dfs:List Deferred} {ops:Array Oper} {Q:Exit→Act→World→Prop} {rest:List Oper} {σ:List (Nat×Value)} {L:List Asn}
 {d:Nat} {ty:TypeId} {pos:String} {aft:Array Edge} {g:Option (Nat×Bool)} {x y:Operand} {t e:TypeId} {size:Nat}
theorem nR [br F] {n b o off:Nat} {i:Int} (h0:0≤i∧i<n) (ht:P.underlying t=some (.array n e)) (G:bD P e size) (hg:gd ops σ g=some true) (hd:d<N) (hx:ev σ x=some (.pointer (some ⟨b,o,none⟩))) (hy:ev σ y=some (.int .i64 i))
  (E:o+i.toNat*size=off)
  (h:TO F P w0 K N dfs ops Q rest ((d,.pointer (some ⟨b,off,none⟩))::σ) L):TO F P w0 K N dfs ops Q (⟨some d,.indexAddr t x y,ty,pos,aft,g⟩::rest) σ L:=by
 obtain⟨H,hu,D⟩:=G.some
 subst E;subst D
 obtain⟨m,rfl⟩:∃m:Nat,i=m:=⟨i.toNat,by omega⟩
 refine iS hg hd (by simp) (fun a w q I=>?_) h
 have h1:=q.ev hx;have h2:=q.ev hy
 have l:m<n:=by omega
 simp[execOp,Instr.indexAt,h1,h2,asIntOf,run_underlying ht,ak,l,sizeOf,typeInfo,hu,ie,el]
end
theorem zT {b n:Nat} {ε:Type} {enc1:ε→List Value} {size:Nat} {e:TypeId} {ys:List ε} (E:ys.length=n):oY (vec enc1 e size (.slice (some ⟨b,0,none⟩) n n) ys) (cells b (ys.flatMap enc1) e):=by
 intro C w h
 subst E
 obtain⟨h1,rfl⟩:=h
 refine⟨fun k=>by simp[bS,eq_comm],?_⟩
 obtain⟨h2,q⟩:=h1
 rcases q with⟨q,_⟩ | ⟨g,cap,l,he,_,h5,M,J,H,G⟩
 ·cases q
 ·cases he
  have I:l.toList.length=ys.length*size:=by simpa using H
  have:l.toList=ys.flatMap enc1:=by
   rw[← G,fx]
   omega
  have D:l=(ys.flatMap enc1).toArray:=by rw[← this]
  rw[h5,D]
theorem Jw {P:Program} {t e:TypeId} {α:Type} {enc:α→List Value} {size n:Nat} {xs:List α} {i:Int} {q:α} {v:Value} (ht:P.underlying t=some (.array n e)) (G:bD P e size) (J:xs.length=n) (l:∀x,(enc x).length=size) (E:zcy xs i=some q)
  (hv:∀w:World,(part e (xs.flatMap enc).toArray (i.toNat*size)).run P w=.ok v w) (w:World):(iC t (.agg (xs.flatMap enc).toArray) (.int .i64 i)).run P w=.ok v w:=by
 obtain⟨I,hu,D⟩:=G.some
 subst D
 obtain⟨h0,h1⟩:=vH E
 have h2:¬ i<0:=by omega
 have H:i<(n:Int):=by omega
 have:=hv w
 simp[iC,asIntOf,run_underlying ht,ak,sizeOf,typeInfo,hu,h0,H,this]
theorem D7 {α:Type} {enc:α→List Value} {size:Nat} (l:∀x,(enc x).length=size):∀ (xs:List α) (i:Nat) (q:α),xs[i]?=some q→((xs.flatMap enc).drop (i*size)).take size=enc q
 | [],i,q,h=>by simp at h
 | y::xs,0,q,h=>by
  simp at h;subst h
  rw[aG,nr,oO,List.take_left' (l y)]
 | y::xs,i+1,q,h=>by
  have D:=D7 l xs i q (by simpa using h)
  rw[aG,show (i+1)*size=(enc y).length+i*size by rw[l,cT,iY,jm],← eS,la]
  exact D
theorem Jx {P:Program} {e:TypeId} {α:Type} {enc:α→List Value} {xs:List α} {i size:Nat} {q:α} {w:World} (G:nO P e size) (l:∀x,(enc x).length=size) (E:xs[i]?=some q) :
  (part e (xs.flatMap enc).toArray (i*size)).run P w=.ok (.agg (enc q).toArray) w:=by
 obtain⟨dd,hu,hr,D⟩:=G
 obtain⟨J,hi,hsz⟩:=cM.1 D
 have h1:=D7 l xs i q E
 have h2:(xs.flatMap enc).toArray.extract (i*size) (i*size+size)=(enc q).toArray:=by
  apply fK.1
  rw[Array.toList_extract,List.extract_eq_take_drop]
  simpa using h1
 have I:(isAgg e).run P w=.ok true w:=by
  cases dd <;> simp_all [isAgg,run_underlying hu,ak,TypeDesc.isRow]
 have H:(sizeOf e).run P w=.ok size w:=by simp[sizeOf,typeInfo,hi,hsz,ak]
 unfold part
 simp only[ak,I,jV,if_true,H]
 rw[h2];rfl
section
variable {F:Fence} {P:Program} {w0:World} {K:Nat→Prop} {N:Nat} {dfs:List Deferred} {Q:Exit→Act→World→Prop} {σ:List (Nat×Value)} {L:List Asn}
theorem Jy {id:Nat} {l:List Oper} (n:Nat) (Inv:(Nat→Prop)→Act→World→Prop) (hm:P.follows .mixedOrders=true)
  (ag:(l.zipIdx.all fun (o,i)=>(iR o).all fun j=>decide (j<i))=true) (hT:tM l n=true) (a3:n≤l.length)
  (h0:∀a w,At N dfs σ a→Holds w0 K L w→Inv (fun _=>False) a w)
  (U:∀i o,i<n→l[i]?=some o→∀D a w,¬ D i→(∀j∈iR o,D j)→Clo l.toArray D→Inv D a w→wpListIn F 0 P l.toArray (_root_.Go.Exit.then (Inv (fun j=>D j∨j=i)) Q) [o] a w)
  (G:∀D a w,(∀j,j<n→D j)→Inv D a w→wpListIn F 0 P l.toArray Q (l.drop n) a w):TC F P w0 K N dfs Q (.region id l.toArray true) σ L:=by
 intro a w ha hw
 have W:=DK hT
 obtain⟨J,hJ⟩:∃J:(Nat→Prop)→Act→World→Prop,J=(fun D a w=>Clo l.toArray D∧((∃k,n<k∧(∀j,D j↔j<k)∧wpListIn F 0 P l.toArray Q (l.drop k) a w) ∨
  ((∀j,D j→j<n)∧Inv D a w))):=⟨_,rfl⟩
 refine zB hm (by simpa using ag) J (by subst hJ;exact⟨fun i o _ h=>h.elim,.inr ⟨fun _ h=>h.elim,h0 _ _ ha hw.drew⟩⟩) ?_ ?_
 ·have all:∀ (m:List Oper) (k:Nat),(∀i o,m[i]?=some o→l[k+i]?=some o)→fM F 0 P l.toArray Q J m k:=by
   intro m
   induction m with
   | nil=>intro k _;trivial
   | cons q m ih=>
    intro k hl
    refine⟨?_,ih (k+1) (fun i o' Y=>by have:=hl (i+1) o' (by simpa using Y);rwa [show k+1+i=k+(i+1) by omega])⟩
    have V:l[k]?=some q:=hl 0 q rfl
    subst hJ
    rintro D a w hn hd ⟨M,T⟩
    have I:Clo l.toArray (fun j=>D j∨j=k):=M.add (by simpa using V) hd
    have a4:k<l.length:=(au.1 V).1
    have H:l.drop k=q::l.drop (k+1):=by
     obtain⟨h1,h2⟩:=au.1 V
     rw[← h2];exact bB h1
    rcases T with⟨m,Z,O,E⟩ | ⟨O,T⟩
    ·have ao:k=m:=by
      have h1:¬ k<m:=fun h=>hn ((O k).2 h)
      have h2:=W D M k q (by omega) V hd
      by_cases h3:m<k
      ·have:=(O _).1 (h2 _ h3);omega
      ·omega
     subst ao
     rw[H] at E
     refine pn (fun a' w' h=>⟨I,.inl ⟨k+1,by omega,fun j=>?_,h⟩⟩) (xN E)
     show D j∨j=k↔_
     rw[O];omega
    ·by_cases hk:k<n
     ·refine pn (fun a' w' h=>⟨I,.inr ⟨fun j hj=>?_,h⟩⟩) (U k q hk V D a w hn hd M T)
      rcases hj with hj | rfl
      ·exact O j hj
      ·exact hk
     ·have hall:=W D M k q (by omega) V hd
      have aw:k=n:=by
       by_cases h:n<k
       ·have:=O _ (hall _ h);omega
       ·omega
      subst aw
      have E:=G D a w hall T
      rw[H] at E
      refine pn (fun a' w' h=>⟨I,.inl ⟨k+1,by omega,fun j=>?_,h⟩⟩) (xN E)
      refine⟨fun hj=>?_,fun hj=>?_⟩
      ·rcases hj with hj | rfl
       ·have:=O j hj;omega
       ·omega
      ·by_cases h:j=k
       ·exact .inr h
       ·exact .inl (hall j (by omega))
  exact all _ 0 (fun i o ho=>by simpa using ho)
 ·subst hJ
  rintro D a w O ⟨M,T⟩
  have hsz:l.toArray.size=l.length:=by simp
  rcases T with⟨m,Z,a1,E⟩ | ⟨a0,T⟩
  ·have:l.length≤m:=by
    by_cases h:m<l.length
    ·have:=(a1 m).1 (O _ (by rw[hsz];omega));omega
    ·omega
   rw[cO this] at E
   exact E
  ·have a2:l.length≤n:=by
    by_cases h:n<l.length
    ·have:=a0 n (O _ (by rw[hsz];omega));omega
    ·omega
   have:=G D a w (fun j hj=>O j (by rw[hsz];omega)) T
   rw[cO (by omega)] at this
   exact this
open Classical in
noncomputable def eD (D:Nat→Prop) (base:Asn):List (Nat×Asn)→Asn
 | []=>base
 | (i,A)::r=>if D i then A else eD D base r
theorem gU {D:Nat→Prop} {base A B:Asn} {i:Nat} {r:List (Nat×Asn)} (h:D i) (hA:A=B):eD D base ((i,A)::r)=B:=by unfold eD;rw[ay h,hA]
theorem dC {D:Nat→Prop} {base A B:Asn} {i:Nat} {r:List (Nat×Asn)} (h:¬ D i) (hr:eD D base r=B):eD D base ((i,A)::r)=B:=by rw[eD,ar h];exact hr
theorem fc {D:Nat→Prop} {base:Asn}:eD D base []=base:=rfl
theorem gW {D:Nat→Prop} {i:Nat} {base:Asn}:∀ {r:List (Nat×Asn)},(r.map bu).contains i=false→eD (fun j=>D j∨j=i) base r=eD D base r
 | [],_=>rfl
 | (k,A)::r,h=>by
  simp only[aE,fV,cd] at h
  have l:¬ k=i:=by have:=h.1;simp at this;exact fun e=>this e.symm
  rw[eD,eD,gW h.2]
  by_cases hd:D k
  ·rw[ay (.inl hd),ay hd]
  ·rw[ar hd,ar (by rintro (h | h);exact hd h;exact l h)]
theorem nS {base:Asn}:∀ {r:List (Nat×Asn)},eD (fun _=>False) base r=base
 | []=>rfl
 | (k,A)::r=>by rw[eD,ar (fun h=>h),nS]
theorem bY {α:Type} {a q:α} {l l':List α} (h:a=q) (D:l=l'):a::l=q::l':=by rw[h,D]
theorem dP {D:Nat→Prop} {i t:Nat} {v l:Value} {r q:List (Nat×Nat×Value)} (h:D i→v=l) (hr:dl D r=dl D q):dl D ((i,t,v)::r)=dl D ((i,t,l)::q):=by
 simp only[dl,hr]
 by_cases hd:D i
 ·rw[ay hd,ay hd,h hd]
 ·rw[ar hd,ar hd]
def fj {β:Type} (F:Fence) (P:Program) (w0:World) (K:Nat→Prop) (N:Nat) (dfs:List Deferred) (Q:Exit→Act→World→Prop) (ops:Array Oper) (σ:List (Nat×Value)) (vals:β→List (Nat×Nat×Value)) (LL:(Nat→Prop)→β→List Asn):List Oper→Nat→Prop
 | [],_=>True
 | o::rest,i=>(∀ (D:Nat→Prop) (b:β),¬ D i→(∀j∈iR o,D j)→Clo ops D →
   TO F P w0 K N dfs ops (_root_.Go.Exit.then (fun a w=>∃b,At N dfs (dl (fun j=>D j∨j=i) (vals b)++σ) a∧Holds w0 K (LL (fun j=>D j∨j=i) b) w) Q) [o] (dl D (vals b)++σ) (LL D b))∧fj F P w0 K N dfs Q ops σ vals LL rest (i+1)
theorem fj.nil {β:Type} {ops:Array Oper} {l:β→List (Nat×Nat×Value)} {q:(Nat→Prop)→β→List Asn} {i:Nat}:fj F P w0 K N dfs Q ops σ l q [] i:=trivial
theorem kV {β:Type} {ops:Array Oper} {l:β→List (Nat×Nat×Value)} {q:(Nat→Prop)→β→List Asn} {o:Oper} {rest:List Oper} {i:Nat} (h:∀ (D:Nat→Prop) (b:β),¬ D i→(∀j∈iR o,D j)→Clo ops D →
   TO F P w0 K N dfs ops (_root_.Go.Exit.then (fun a w=>∃b,At N dfs (dl (fun j=>D j∨j=i) (l b)++σ) a∧Holds w0 K (q (fun j=>D j∨j=i) b) w) Q) [o] (dl D (l b)++σ) (q D b)) (E:fj F P w0 K N dfs Q ops σ l q rest (i+1)) :
  fj F P w0 K N dfs Q ops σ l q (o::rest) i:=⟨h,E⟩
theorem fj.get {β:Type} {ops:Array Oper} {q:β→List (Nat×Nat×Value)} {E:(Nat→Prop)→β→List Asn}:∀ {l:List Oper} {k:Nat},fj F P w0 K N dfs Q ops σ q E l k→∀i o,l[i]?=some o→∀ (D:Nat→Prop) (b:β),¬ D (k+i)→(∀j∈iR o,D j)→Clo ops D →
   TO F P w0 K N dfs ops (_root_.Go.Exit.then (fun a w=>∃b,At N dfs (dl (fun j=>D j∨j=k+i) (q b)++σ) a∧Holds w0 K (E (fun j=>D j∨j=k+i) b) w) Q) [o] (dl D (q b)++σ) (E D b)
 | [],k,_,i,o,h=>by simp at h
 | x::l,k,h,0,o,ho=>by simp at ho;subst ho;exact h.1
 | x::l,k,h,i+1,o,ho=>by
  have:=fj.get h.2 i o (by simpa using ho)
  rwa [show k+1+i=k+(i+1) by omega] at this
theorem tT {id:Nat} {l:List Oper} {β:Type} (n:Nat) (b0:β) (q:β→List (Nat×Nat×Value)) (J:(Nat→Prop)→β→List Asn) (hm:P.follows .mixedOrders=true)
  (O:(l.zipIdx.all fun (o,i)=>(iR o).all fun j=>decide (j<i))=true) (W:tM l n=true) (M:n≤l.length)
  (hval:∀b,(q b).all (fun p=>decide (p.1<n))=true) (h0:J (fun _=>False) b0=L)
  (I:fj F P w0 K N dfs Q l.toArray σ q J (l.take n) 0)
  (E:∀ (D:Nat→Prop) b,(∀j,j<n→D j)→TO F P w0 K N dfs l.toArray Q (l.drop n) ((q b).map (fun p=>p.2)++σ) (J D b)):TC F P w0 K N dfs Q (.region id l.toArray true) σ L:=by
 refine Jy n (fun D a w=>∃b,At N dfs (dl D (q b)++σ) a∧Holds w0 K (J D b) w) hm O W M (fun a w G H=>⟨b0,by rw[xM];exact G,by rw[h0];exact H⟩) ?_ ?_
 ·rintro i o hi V D a w Y hd T ⟨b,G,H⟩
  have:=I.get i o (by rw[nH hi];exact V) D b (by rwa [cg]) hd T a w G H
  rwa [cg] at this
 ·rintro D a w U ⟨b,G,H⟩
  refine E D b U a w ?_ H
  rw[tK (fun p hp=>U _ (by have:=bz.1 (hval b) p hp;simpa using this))] at G
  exact G
theorem lg {β:Type} {ops:Array Oper} {l:β→List (Nat×Nat×Value)} {G:(Nat→Prop)→β→List Asn} {D:Nat→Prop} {b:β} (q:β) (m:Nat) {i t:Nat} {v:Value} {L':List Asn} (hu:iE ((l q).map (fun p=>p.2.1))=true) (hi:iE ((l q).map (fun p=>p.1))=true)
  (hm:(l q)[m]?=some (i,t,v)) (hc:dl D (l b)=dl D (l q)) (hL:G (fun j=>D j∨j=i) q=L') :
  TO F P w0 K N dfs ops (_root_.Go.Exit.then (fun a w=>∃b,At N dfs (dl (fun j=>D j∨j=i) (l b)++σ) a∧Holds w0 K (G (fun j=>D j∨j=i) b) w) Q) [] ((t,v)::(dl D (l b)++σ)) L':=fun a w E H=>⟨q,by rw[hc] at E;exact DF (tJ hu) (tJ hi) hm _ _ _ E,by rw[hL];exact H⟩
end
section
variable {F:Fence} {P:Program} {w0:World} {K:Nat→Prop} {N:Nat} {dfs:List Deferred} {ops:Array Oper} {Q:Exit→Act→World→Prop} {rest:List Oper} {σ:List (Nat×Value)} {L L':List Asn}
theorem jI (h:L=L') (l:TO F P w0 K N dfs ops Q rest σ L'):TO F P w0 K N dfs ops Q rest σ L:=by rw[h];exact l
theorem zU {w:World}:∀n:Nat,aN (bA n cn) (fun _=>False) w
 | 0=>fun _ h=>h
 | n+1=>⟨fun _=>False,fun _=>False,fun _ h=>h,zU n,fun _ h=>h.elim,fun k=>by simp⟩
theorem tU {c:Code} (n:Nat) (q:TC F P w0 K N dfs Q c σ (L++bA n cn)):TC F P w0 K N dfs Q c σ L:=fun a w D l=>by
 refine q a w D ?_
 obtain⟨C,hL,hx⟩:=l
 exact⟨C,sN hL (zU n) (fun _ _ h=>h) (fun k=>by simp),hx⟩
theorem oy {A:Asn} (p:Nat) (hA:L.getLast?=some A) (hp:L.dropLast[p]?=some cn) (G:TO F P w0 K N dfs ops Q rest σ (L.dropLast.set p A)):TO F P w0 K N dfs ops Q rest σ L:=fun a w H E=>by
 refine G a w H ?_
 obtain⟨C,hL,hx⟩:=E
 refine⟨C,?_,hx⟩
 have e:L=L.dropLast++[A]:=by
  rcases List.eq_nil_or_concat L with rfl | ⟨M,B,rfl⟩
  ·simp at hA
  ·simp at hA;subst hA;simp
 rw[e] at hL
 obtain⟨C1,C2,h1,h2,J,I⟩:=xY hL
 have D:=aN.one1.1 h2
 have q:p<L.dropLast.length:=(au.1 hp).1
 have l:L.dropLast.set p cn=L.dropLast:=by
  obtain⟨_,he⟩:=au.1 hp
  rw[← he];exact oP q
 exact aN.put q D (by rw[l];exact h1) (fun k a b=>J k b a) (fun k=>by rw[I];exact Or.comm)
end
theorem Jz (s:ab) (a:Nat):(s.extract a s.size).data.toList=s.data.toList.drop a:=by
 rw[extract_data];rw[fx];simp
theorem o0 (r:Int):(af r).data.toList=encodeRune r:=by
 unfold af encodeRune
 rw[validRune_eq]
 by_cases hv:validRune r=true
 ·have q:(0≤r∧r<55296)∨(57343<r∧r≤1114111):=by simpa [validRune] using hv
  rw[hv]
  simp only[if_true]
  obtain⟨n,rfl⟩:∃n:Nat,r=n:=⟨r.toNat,by omega⟩
  simp only[dI]
  by_cases h1:n<128
  ·rw[encodeRuneZ_one (by omega) (by omega),ay h1];rfl
  ·by_cases h2:n<2048
   ·rw[encodeRuneZ_two (by omega) (by omega),ar h1,ay h2]
    simp only[aE,eu]
    rw[show ((192:Int)+n / 64).toNat=192+n / 64 from by omega,show ((128:Int)+n % 64).toNat=128+n % 64 from by omega]
   ·by_cases D:n<65536
    ·rw[encodeRuneZ_three (by omega),ar h1,ar h2,ay D]
     simp only[aE,eu]
     rw[show ((224:Int)+n / 4096).toNat=224+n / 4096 from by omega,show ((128:Int)+n / 64 % 64).toNat=128+n / 64 % 64 from by omega,show ((128:Int)+n % 64).toNat=128+n % 64 from by omega]
    ·rw[encodeRuneZ_four (by omega) (by omega),ar h1,ar h2,ar D]
     simp only[aE,eu]
     rw[show ((240:Int)+n / 262144).toNat=240+n / 262144 from by omega,show ((128:Int)+n / 4096 % 64).toNat=128+n / 4096 % 64 from by omega,show ((128:Int)+n / 64 % 64).toNat=128+n / 64 % 64 from by omega,show ((128:Int)+n % 64).toNat=128+n % 64 from by omega]
 ·have q:¬ ((0≤r∧r<55296)∨(57343<r∧r≤1114111)):=by simpa [validRune] using hv
  have l:validRune r=false:=by simpa using hv
  rw[l,encodeRuneZ_bad (by omega)]
  simp[Utf8.runeError]
theorem zV (r:Int):(af r).size=(encodeRune r).length:=by
 rw[← o0];simp
theorem xZ (r:Int):1≤(encodeRune r).length∧(encodeRune r).length≤4:=by
 have:=encodeRuneZ_length r;simpa [encodeRune] using this
structure Pc where
 i:Nat
 w:Nat
 r:Nat
 deriving DecidableEq
def Pc.broken (p:Pc):Bool:=p.r==65533&&p.w==1
def qa:Nat→Nat→List UInt8→List Pc
 | 0,_,_=>[]
 | f+1,i,l=>if l=[] then [] else ⟨i,(decodeL l).2,(decodeL l).1⟩::qa f (i+(decodeL l).2) (l.drop (decodeL l).2)
def mi (i:Nat) (l:List UInt8):List Pc:=qa l.length i l
def fe (l:List UInt8):List Pc:=mi 0 l
theorem qM (l:List UInt8):1≤(decodeL l).2:=decodeL_width l
theorem vL (l:List UInt8) (h:l≠[]):(decodeL l).2≤l.length:=decodeL_le l h
theorem JA:∀ (f g i:Nat) (l:List UInt8),l.length≤f→l.length≤g→qa f i l=qa g i l:=by
 intro f
 induction f with
 | zero=>
  intro g i l h1 h2
  have:l=[]:=co (by omega)
  subst this
  cases g <;> simp[qa]
 | succ f E=>
  intro g i l h1 h2
  cases g with
  | zero=>
   have:l=[]:=co (by omega)
   subst this
   simp[qa]
  | succ g=>
   by_cases q:l=[]
   ·simp[qa,q]
   ·simp only[qa,q,if_false]
    have:=qM l
    have D:0<l.length:=c6.2 q
    rw[E g _ _ (by simp;omega) (by simp;omega)]
theorem qN (i:Nat):mi i []=[]:=by simp[mi,qa]
theorem qO (i:Nat) (l:List UInt8) (h:l≠[]) :
  mi i l=⟨i,(decodeL l).2,(decodeL l).1⟩::mi (i+(decodeL l).2) (l.drop (decodeL l).2):=by
 have q:0<l.length:=c6.2 h
 unfold mi
 obtain⟨n,D⟩:∃n,l.length=n+1:=⟨l.length - 1,by omega⟩
 rw[D]
 simp only[qa,h,if_false]
 have:=qM l
 rw[JA n (l.drop (decodeL l).2).length _ _ (by simp;omega) (bJ _)]
theorem D8 (l:List UInt8) (h:l≠[]) (q:¬ ((decodeL l).1=65533∧(decodeL l).2=1)):(encodeRune ((decodeL l).1:Nat)).length=(decodeL l).2:=by
 rw[encode_decode l h q]
 have:=vL l h
 simp;omega
theorem zW:encodeRune ((65533:Nat):Int)=[239,191,189]:=by decide
theorem JB (l:List UInt8) (h:l≠[]) (hr:(decodeL l).1=65533) (q:(decodeL l).2≠1):l.take 3=[239,191,189]∧(decodeL l).2=3:=by
 have h1:=encode_decode l h (fun h=>q h.2)
 have h2:=D8 l h (fun h=>q h.2)
 rw[hr,zW] at h1 h2
 simp at h2
 rw[← h2] at h1
 exact⟨h1.symm,h2.symm⟩
theorem JC (l:List UInt8) (hr:(decodeL l).1=65533) (q:(decodeL l).2=1):l.take 3≠[239,191,189]:=by
 intro D
 obtain⟨t,rfl⟩:∃t,l=239::191::189::t:=by
  rcases l with _ | ⟨a,_ | ⟨b,_ | ⟨c,t⟩⟩⟩ <;> simp at D
  exact⟨t,by simp[D]⟩
 rw[decodeL_N] at q
 simp[decodeN] at q
theorem D9 (l:List UInt8):(decodeL l).1<55296∨(57343<(decodeL l).1∧(decodeL l).1≤1114111):=by
 rw[decodeL_N];exact decodeN_valid _ _ _ _ _ (UInt8.toNat_lt _)
structure vM (l:List UInt8) (r wd:Nat):Prop where
 eq:decodeL l=(r,wd)
 pos:1≤wd
 le:wd≤l.length
 valid:r<55296∨(57343<r∧r≤1114111)
 width:¬ (r=65533∧wd=1)→(encodeRune ((r:Nat):Int)).length=wd
 bytes:¬ (r=65533∧wd=1)→encodeRune ((r:Nat):Int)=l.take wd
 lost_ok:r=65533→wd≠1→l.take 3=[239,191,189]∧wd=3
 lost_bad:r=65533→wd=1→l.take 3≠[239,191,189]
theorem vN (l:List UInt8) (h:l≠[]):vM l (decodeL l).1 (decodeL l).2 :=
 ⟨rfl,qM l,vL l h,D9 l,D8 l h,encode_decode l h,JB l h,JC l⟩
theorem JD (P:Program) (wr:World) (l:Nat) (s:ab) (pos:Nat) (hit:wr.heap[l]?=some (.stringIter s pos)) (G:pos<s.size) :
  ∃ (r wd:Nat) (E:World),(∀ty,(Instr.next (.pointer (some ⟨l,0,none⟩)) true ty).run P wr=.ok (.tuple #[.bool true,.int .i64 pos,.int .i32 r]) E) ∧
   Fr (fun k=>k=l) wr E∧E.heap[l]?=some (.stringIter s (pos+wd))∧E.heap.size=wr.heap.size ∧
   vM (s.data.toList.drop pos) r wd∧mi pos (s.data.toList.drop pos)=⟨pos,wd,r⟩::mi (pos+wd) (s.data.toList.drop (pos+wd))∧pos+wd≤s.size∧1≤wd:=by
 have D:s.data.toList.drop pos≠[]:=by
  intro e;have:=aL gi e;simp at this;omega
 have hd:=decodeL_drop s pos
 have q:=vN _ D
 refine⟨(decodeL (s.data.toList.drop pos)).1,(decodeL (s.data.toList.drop pos)).2,wr.iterAt l s (pos+(decodeL (s.data.toList.drop pos)).2),?_,Fr.iterAt (Fr.refl (fun k=>k=l) wr) (.inl rfl) s _,iterAt_heap wr l s pos _ hit,iterAt_size ..,q,?_,?_,qM _⟩
 ·intro ty
  rw[hd]
  exact run_next_any_at wr l s pos ty hit G
 ·rw[qO pos _ D,eS]
 ·have:=q.le;simp at this;omega
theorem JE (P:Program) (wr:World) (l:Nat) (s:ab) (pos:Nat) (hit:wr.heap[l]?=some (.stringIter s pos)) (q:¬ pos<s.size) :
  (∀ty,(Instr.next (.pointer (some ⟨l,0,none⟩)) true ty).run P wr=.ok (.tuple #[.bool false]) wr)∧mi pos (s.data.toList.drop pos)=[] :=
 ⟨fun ty=>run_next_end_at wr l s pos ty hit q,by rw[cO (by simp;omega),qN]⟩
def fA (s:ab):List Int:=(fe s.data.toList).map fun p=>(p.r:Int)
theorem Ea (s:ab):∀ (n i:Nat) (acc:Array Value),s.size - i≤n→fp s n i acc=acc++((mi i (s.data.toList.drop i)).map fun p=>ax .i32 (p.r:Int)).toArray
 | 0,i,acc,h=>by
  rw[cO (by simp;omega),qN];simp[fp]
 | n+1,i,acc,h=>by
  unfold fp
  by_cases hi:i<s.size
  ·have l:s.data.toList.drop i≠[]:=by
    intro e;have:=aL gi e;simp at this;omega
   have hd:=decodeL_drop s i
   have h1:=qM (s.data.toList.drop i)
   rw[ay hi]
   simp only
   rw[← hd,Ea s n _ _ (by omega),qO _ _ l,eS]
   simp
  ·rw[ar hi,cO (by simp;omega),qN];simp
theorem vO (s:ab):fp s s.size 0 #[]=((fA s).map (ax .i32)).toArray:=by
 rw[Ea s s.size 0 #[] (by omega)]
 simp[fA,fe,Function.comp_def]
section
variable {F:Fence} {P:Program} {w0:World} {K:Nat→Prop} {N:Nat} {dfs:List Deferred} {ops:Array Oper} {Q:Exit→Act→World→Prop} {rest:List Oper} {σ:List (Nat×Value)} {L:List Asn}
 {d:Nat} {ty:TypeId} {pos:String} {aft:Array Edge} {g:Option (Nat×Bool)} {x:Operand} {t e:TypeId} {k:Nat} {vv:Value}
theorem JF {ε:Type} {enc1:ε→List Value} {size b cap:Nat} {l:Array Value} {ys:List ε} (q:∀x,(enc1 x).length=size) (ht:l.toList.take (ys.length*size)=ys.flatMap enc1) (D:l.size=cap*size) (hc:ys.length≤cap) (hm:cap≤maxLen):oY (obj b (.cells l e (0,0))) (vec enc1 e size (.slice (some ⟨b,0,none⟩) ys.length cap) ys):=by
 rintro C w ⟨h1,h2⟩
 have E:(ys.flatMap enc1).length=ys.length*size:=qF q ys
 refine⟨⟨E,.inr ⟨b,cap,l,rfl,cH _,h2,hc,hm,D,ht⟩⟩,?_⟩
 funext j;simp[bS,h1,eq_comm]
theorem vP (s:ab):(fA s).length≤s.size:=by
 have h:=size_runesFrom s s.size 0 #[]
 rw[vO] at h
 simpa using h
theorem tV [br F] {src:TypeId} {s:ab} (T:s.size≤1073741824) (hg:gd ops σ g=some true) (hd:d<N) (hx:ev σ x=some (.string s)) (M:P.underlying src=some .string) (ht:P.underlying t=some (.slice e)) (he:P.underlying e=some (.int .i32))
  (h:∀G,TO F P w0 K N dfs ops Q rest ((d,G)::σ) (L++[vec (kn .i32) e 1 G (fA s)])) :
  TO F P w0 K N dfs ops Q (⟨some d,.convert src t x,ty,pos,aft,g⟩::rest) σ L:=by
 refine nw hg (by simp) fun a w H J=>?_
 have U:=vP s
 have hr:=run_runes_of_string (P:=P) w src t e s M ht he (by rw[vO];simp;omega)
 refine⟨_,_,by simp only[execOp,H.ev hx,ak,hr];rfl,h _ _ _ (H.put hd _) ?_⟩
 have hz:(fp s s.size 0 #[]).size=(fA s).length:=by rw[vO];simp
 rw[hz]
 have D:=grownCap_ge w (fA s).length 0 e
 have q:=grownCap_le_maxLen w (fA s).length 0 e (by simp only[maxLen];omega)
 generalize grownCap w (fA s).length 0 e=cap at D q
 have h2:=J.drew.alloc (.cells (fp s s.size 0 #[]++eW (cap - (fA s).length) (.int .i32 0)) e (0,0))
 have E:(fA s).flatMap (kn .i32)=(fA s).map (ax .i32):=by
  generalize fA s=l
  induction l with
  | nil=>rfl
  | cons x l I=>rw[aG,I];rfl
 have O:=h2.ent (k:=L.length) (A:=obj w.drew.heap.size (.cells (fp s s.size 0 #[]++eW (cap - (fA s).length) (.int .i32 0)) e (0,0))) (by simp) (JF (size:=1) (cap:=cap) (ys:=fA s) (jh (k:=.i32)) (by
  rw[vO,E];simp) (by rw[vO];simp;omega) D q)
 simpa using O
def iU (ns:List Int):ab:=runesBytes ns
theorem zX [br F] {src:TypeId} {xs:List Int} (hg:gd ops σ g=some true) (hd:d<N) (hx:ev σ x=some vv) (hk:L[k]?=some (vec (kn .i32) e 1 vv xs)) (D:P.underlying src=some (.slice e)) (he:P.underlying e=some (.int .i32)) (ht:P.underlying t=some .string)
  (h:TO F P w0 K N dfs ops Q rest ((d,.string (iU xs))::σ) L):TO F P w0 K N dfs ops Q (⟨some d,.convert src t x,ty,pos,aft,g⟩::rest) σ L :=
 iS hg hd (by simp) (fun a w H E=>by
  obtain⟨C,hV⟩:=E.vec hk
  have hc:(convert src t vv).run P w=.ok (.string (iU xs)) w:=by
   rcases hV.shape with⟨rfl,rfl,_⟩ | ⟨q,cap,rfl,_⟩
   ·rw[run_convert_runes_string w src t e none 0 0 D he ht];simp[Conv.runesToString,iU,runesBytes]
   ·rw[run_convert_runes_string w src t e _ _ _ D he ht]
    refine run_runesToString w _ _ _ xs ?_
    have:=run_loadCells_list (P:=P) (w:=w) ⟨q,0,none⟩ (xs.map (ax .i32)) (by
     intro j v hj
     rw[bV,cM] at hj
     obtain⟨n,G,rfl⟩:=hj
     have l:(⟨q,0,none⟩:Addr).add j=⟨q,j,none⟩:=by unfold pf;split <;> simp_all
     rw[l]
     have:=hV.cell (i:=j) (j:=0) (x:=n) (u:=.int .i32 n) (jh (k:=.i32)) rfl G (by omega) rfl
     simpa using this)
    simpa using this
  simp only[execOp,H.ev hx,ak,hc];rfl) h
end
theorem Eb {α:Type} {enc:α→List Value} {size:Nat} {P:Program} (w:World) (t ty e:TypeId) (i:TypeInfo) (z:Value) (bytes:Nat) (ht:P.underlying t=some (.slice e)) (hi:P.info? e=some i) (hz:i.zero=some z)
  (q:i.size=size) (I:i.bytes=bytes) (O:z.cells.size=size) (hsz:0<size) (H:∀x,(enc x).length=size) (h1:∀x,∀u∈enc x,u.oneCell'=true)
  (v:Value) (L:List α) (C:Nat→Prop) (l:gQ enc e size v L C w) (ys:List α) (a:Addr) (c:Nat)
  (D:∀j u,(ys.flatMap enc)[j]?=some u→w.cell? (a.add j)=some u) (Z:L.length+ys.length≤2147483648) (E:bytes≤65536) :
  ∃G w',(cL #[t,t] ty #[v,.slice (some a) ys.length c]).run P w=.ok G w'∧∃C',gQ enc e size G (L++ys) C' w'∧cF C C' w w':=by
 obtain⟨l,rfl⟩:=l
 have U:(ys.flatMap enc).length=ys.length*size:=qF H ys
 have M:∀u∈ys.flatMap enc,u.oneCell'=true:=by
  intro u hu
  obtain⟨x,hx,hu⟩:=fm.1 hu
  exact h1 x u hu
 have J:(L.length+ys.length)*bytes≤140737488355328:=by
  have:(L.length+ys.length)*bytes≤2147483648*65536:=Nat.mul_le_mul (by omega) E
  omega
 obtain⟨G,w',hr,Y,W,_⟩:=run_append_own (P:=P) w 0 t ty e i z size bytes ht hi hz q I O hsz v L.length (L.flatMap enc) l a ys.length c (ys.flatMap enc) U D M (by simp[maxLen];omega) J (cH _)
 have T:=zA (P:=P) w 0 t ty e i z size bytes ht hi hz q I v L.length (L.flatMap enc) l a ys.length c (ys.flatMap enc) U D M (by simp[maxLen];omega) J hr
 have V:Rw enc w' 0 e size G (L++ys):=by
  unfold Rw;rw[ah,dW];exact Y
 exact⟨G,w',hr,_,⟨V,rfl⟩,xI W T (fun g hg=>(eX V g hg).2)⟩
theorem JG {P:Program} (w:World) (t ty e:TypeId) (i:TypeInfo) (ht:P.underlying t=some (.slice e)) (hi:P.info? e=some i) (b:Option Addr) (n cap c:Nat) (h:n≤cap) :
  (cL #[t,t] ty #[.slice b n cap,.slice none 0 c]).run P w=.ok (.slice b n cap) w:=by
 cases b <;> simp[cL,run_underlying ht,sizeOf,typeInfo,hi,iy,h,jT,storeCells,ak]
section
variable {F:Fence} {P:Program} {w0:World} {K:Nat→Prop} {N:Nat} {dfs:List Deferred} {ops:Array Oper} {Q:Exit→Act→World→Prop} {rest:List Oper} {σ:List (Nat×Value)} {L:List Asn}
 {d:Nat} {ty:TypeId} {pos:String} {aft:Array Edge} {g:Option (Nat×Bool)} {s x:Operand} {t e e2:TypeId} {k k2 j size:Nat} {vv v2 v:Value} {α:Type} {enc:α→List Value} {xs ys Ls:List α}
theorem Vw.cells {C:Nat→Prop} {w:World} (l:∀x,(enc x).length=size) (M:0<size) (h:gQ enc e2 size v2 Ls C w) (hV:Vw v2 Ls size j v ys) (H:ys≠[]):∃c,v=.slice (some ⟨gG v2,j*size,none⟩) ys.length c∧∀n u,(ys.flatMap enc)[n]?=some u→w.cell? ((⟨gG v2,j*size,none⟩:Addr).add n)=some u:=by
 have I:=fun (i:Nat) (q:α) (O:ys[i]?=some q)=>hV.get (i:=(i:Int)) (jz O)
 obtain⟨_,_,q',c,E,_,hp⟩:=hV
 have hp:=hp H
 subst hp
 refine⟨c,E,fun n u hu=>?_⟩
 have D:(⟨gG v2,j*size,none⟩:Addr).add n=⟨gG v2,j*size+n,none⟩:=by unfold pf;split <;> simp_all
 rw[D]
 have G:n<ys.length*size:=by
  have:=(au.1 hu).1;rwa [qF l ys] at this
 have hi:n / size<ys.length:=Nat.div_lt_of_lt_mul (by rwa [Nat.mul_comm] at G)
 have hr:n % size<size:=Nat.mod_lt _ M
 have J:n / size*size+n % size=n:=Nat.div_add_mod' n size
 have hy:ys[n / size]?=some ys[n / size]:=aP hi
 have h2:=zz l ys (n / size) (n % size) _ hy hr
 rw[J,hu] at h2
 have T:=h.cellAt l (I _ _ hy) hr h2.symm
 have e1:(j+((n / size:Nat):Int).toNat)*size+n % size=j*size+n:=by
  rw[dI,cT];omega
 rwa [e1] at T
theorem zY [br F] (ht:P.underlying t=some (.slice e)) (hE:dR P e size) (E:∀x,(enc x).length=size) (h1:∀x,∀u∈enc x,u.oneCell'=true) (hV:Vw v2 Ls size j v ys) (hg:gd ops σ g=some true) (hd:d<N) (U:ev σ s=some vv) (hx:ev σ x=some v)
  (hk:L[k]?=some (vec enc e size vv xs)) (Y:L[k2]?=some (vec enc e2 size v2 Ls)) (hn:xs.length+ys.length≤2147483648)
  (h:∀H,TO F P w0 K N dfs ops Q rest ((d,H)::σ) (L.set k (vec enc e size H (xs++ys)))) :
  TO F P w0 K N dfs ops Q (⟨some d,.call { callee:=.builtin .append,args:=#[s,x],argTypes:=#[t,t] },ty,pos,aft,g⟩::rest) σ L:=by
 obtain⟨i,zv,hi,hz,D,M,hsz,q⟩:=hE
 refine nw hg (by simp) fun a w I hw=>?_
 obtain⟨C2,Z⟩:=hw.vec Y
 obtain⟨C,G,l⟩:=hw.focus hk
 by_cases O:ys=[]
 ·subst O
  obtain⟨_,_,q',c,W,_,_⟩:=hV
  subst W
  rw[aQ] at h
  rcases q' with _ | q'
  ·obtain⟨b,cap,hb⟩:=gQ.len G
   have T:xs.length≤cap:=by
    rcases G.shape with⟨J,h4,_⟩ | ⟨gb,ag,J,_,h4,_⟩
    ·rw[h4];exact cH _
    ·rw[hb] at J;cases J;exact h4
   have hr:=JG (P:=P) w t ty e i ht hi b xs.length cap c T
   refine⟨vv,w,?_,h vv _ _ (I.put hd _) (l _ C w (cF.refl _ _) G)⟩
   subst hb
   simp[execOp,resolve,invoke,builtin,I.ev U,I.ev hx,hr,ak]
  ·obtain⟨H,w',hr,C',h2,J⟩:=Eb (P:=P) w t ty e i zv i.bytes ht hi hz D rfl M hsz E h1 vv xs C G [] q' c (by simp) (by simpa using hn) q
   rw[aQ] at h2
   refine⟨H,w',?_,h H _ _ (I.put hd _) (l _ C' w' J h2)⟩
   have V:(cL #[t,t] ty #[vv,.slice (some q') 0 c]).run P w=.ok H w':=hr
   simp[execOp,resolve,invoke,builtin,I.ev U,I.ev hx,V,ak]
 ·obtain⟨c,rfl,hc⟩:=Vw.cells E hsz Z hV O
  obtain⟨H,w',hr,C',h2,J⟩:=Eb (P:=P) w t ty e i zv i.bytes ht hi hz D rfl M hsz E h1 vv xs C G ys _ c hc hn q
  refine⟨H,w',?_,h H _ _ (I.put hd _) (l _ C' w' J h2)⟩
  simp[execOp,resolve,invoke,builtin,I.ev U,I.ev hx,hr,ak]
end
theorem zZ {α:Type} {enc:α→List Value} {size:Nat} (l:∀x,(enc x).length=size):∀ (xs:List α) (i:Nat),(xs.flatMap enc).take (i*size)=(xs.take i).flatMap enc
 | [],i=>by simp
 | y::xs,0=>by simp
 | y::xs,i+1=>by
  rw[aG,show (i+1)*size=(enc y).length+i*size by rw[l,cT,iY,jm],List.take_length_add_append,zZ l xs i,List.take_succ_cons,aG]
theorem Ec {α:Type} {enc:α→List Value} {size:Nat} (l:∀x,(enc x).length=size):∀ (xs:List α) (i:Nat),(xs.flatMap enc).drop (i*size)=(xs.drop i).flatMap enc
 | [],i=>by simp
 | y::xs,0=>by simp
 | y::xs,i+1=>by
  rw[aG,show (i+1)*size=(enc y).length+i*size by rw[l,cT,iY,jm],← eS,la,Ec l xs i,List.drop_succ_cons]
theorem JH {P:Program} (w:World) (M O ty e:TypeId) (i:TypeInfo) (ht:P.underlying M=some (.slice e)) (hi:P.info? e=some i) (g o q J:Nat) (a:Addr) (l E:Nat) (D:Array Value) (t:TypeId)
  (hg:w.heap[g]?=some (.cells D t (0,0))) (cs:List Value) (T:cs.length=sA l q*i.size) (H:∀j v,cs[j]?=some v→w.cell? (a.add j)=some v) (I:o+cs.length≤D.size) (h1:∀v∈cs,v.oneCell'=true) :
  (jN #[M,O] ty #[.slice (some ⟨g,o,none⟩) q J,.slice (some a) l E]).run P w=.ok (goInt (sA l q)) (w.setRow g (D.toList.take o++cs++D.toList.drop (o+cs.length)).toArray):=by
 have hf:=run_firstCells_some (P:=P) w i.size (sA l q) a l E cs T H
 have G:=run_storeCells_at P g o t cs 0 D w hg (by simpa using I) h1
 simp only[Nat.add_zero] at G
 unfold jN
 simp only[List.getElem?_toArray,ak,ej,run_underlying ht]
 simp[run_underlying ht,iy,sizeOf,typeInfo,hi,hf,G,ak]
theorem cF.setRow {w:World} {g:Nat} (cs:Array Value):cF (fun k=>k=g) (fun k=>k=g) w (w.setRow g cs) :=
 ⟨⟨by simp,by simp[World.setRow],by simp[World.setRow],by simp,fun k hk l=>setRow_other w g k cs l⟩,fun k hk=>.inl hk⟩
theorem gQ.over {α:Type} {enc:α→List Value} {size g cap:Nat} {e:TypeId} {w:World} {xs ys:List α} {C:Nat→Prop} (q:∀x,(enc x).length=size) (h:gQ enc e size (.slice (some ⟨g,0,none⟩) xs.length cap) xs C w) (j:Nat) (hj:j+ys.length≤xs.length) :
  ∃l:Array Value,w.heap[g]?=some (.cells l e (0,0))∧j*size+(ys.flatMap enc).length≤l.size∧C=(fun k=>k=g) ∧
   gQ enc e size (.slice (some ⟨g,0,none⟩) xs.length cap) (xs.take j++ys++xs.drop (j+ys.length)) C (w.setRow g (l.toList.take (j*size)++ys.flatMap enc++l.toList.drop (j*size+(ys.flatMap enc).length)).toArray):=by
 obtain⟨⟨h1,h2⟩,rfl⟩:=h
 rcases h2 with⟨h2,_⟩ | ⟨U,M,l,he,_,h5,J,T,H,O⟩
 ·cases h2
 ·cases he
  have hy:(ys.flatMap enc).length=ys.length*size:=qF q ys
  have hm:(j+ys.length)*size≤xs.length*size:=gP _ hj
  have hm2:xs.length*size≤cap*size:=gP _ J
  have G:(j+ys.length)*size=j*size+ys.length*size:=cT _ _ _
  have D:j*size+(ys.flatMap enc).length≤l.size:=by rw[hy,H];omega
  refine⟨l,h5,D,by funext k;simp[bS,eq_comm],?_⟩
  have E:(xs.take j++ys++xs.drop (j+ys.length)).length=xs.length:=by simp;omega
  refine⟨?_,by funext k;simp[bS]⟩
  unfold Rw
  rw[E]
  refine⟨by rw[qF q,E],.inr ⟨g,cap,_,rfl,cH _,setRow_heap w g l _ e (0,0) h5,J,T,?_,?_⟩⟩
  ·rw[List.size_toArray,ah,ah,cj,ck,hy,dp,H]
   rw[hy,H] at D
   omega
  ·have e1:l.toList.take (xs.length*size)=xs.flatMap enc:=O
   have I:(xs.flatMap enc).length=xs.length*size:=qF q xs
   have hc:l.toList=xs.flatMap enc++l.toList.drop (xs.length*size):=by rw[← e1,dH]
   have t1:l.toList.take (j*size)=(xs.take j).flatMap enc:=by
    rw[hc,List.take_append_of_le_length (by rw[I];omega),zZ q]
   have t2:l.toList.drop (j*size+(ys.flatMap enc).length)=(xs.drop (j+ys.length)).flatMap enc++l.toList.drop (xs.length*size):=by
    conv=>lhs;rw[hc]
    rw[hy,← G,List.drop_append_of_le_length (by rw[I];exact hm),Ec q]
   rw[t1,t2,dW,dW,← aM]
   rw[show (ot enc (List.take j xs)++ot enc ys++ot enc (List.drop (j+ys.length) xs)++List.drop (xs.length*size) l.toList).toArray.toList=_ from rfl]
   rw[List.take_left']
   have:=qF q (xs.take j++ys++xs.drop (j+ys.length))
   rw[E,dW,dW] at this
   exact this
def rL {α:Type} (xs:List α) (j:Nat) (ys:List α):List α:=xs.take j++ys++xs.drop (j+ys.length)
theorem JI {α:Type} (xs:List α) (j:Nat):rL xs j []=xs:=by simp[rL]
theorem JJ {P:Program} (w:World) (l D ty e:TypeId) (i:TypeInfo) (ht:P.underlying l=some (.slice e)) (hi:P.info? e=some i) (b s:Option Addr) (dl dc sl q:Nat) (h0:sA sl dl=0) :
  (jN #[l,D] ty #[.slice b dl dc,.slice s sl q]).run P w=.ok (goInt 0) w:=by
 cases b <;> cases s <;> simp[jN,run_underlying ht,sizeOf,typeInfo,hi,iy,h0,jT,storeCells,loadCells,loadCellsFrom,ak]
section
variable {F:Fence} {P:Program} {w0:World} {K:Nat→Prop} {N:Nat} {dfs:List Deferred} {ops:Array Oper} {Q:Exit→Act→World→Prop} {rest:List Oper} {σ:List (Nat×Value)} {L:List Asn}
 {d:Nat} {ty:TypeId} {pos:String} {aft:Array Edge} {g:Option (Nat×Bool)} {s x:Operand} {t t2 e e2:TypeId} {k k2 j j2 size:Nat} {vv v2 v u:Value} {α:Type} {enc:α→List Value} {xs ds ys Ls:List α}
theorem JK [br F] (ht:P.underlying t=some (.slice e)) (hE:dR P e size) (l:∀x,(enc x).length=size) (h1:∀x,∀u∈enc x,u.oneCell'=true) (hV:Vw vv xs size j v ds) (hS:Vw v2 Ls size j2 u ys) (hg:gd ops σ g=some true) (hd:d<N) (hs:ev σ s=some v) (hx:ev σ x=some u)
  (hk:L[k]?=some (vec enc e size vv xs)) (Z:L[k2]?=some (vec enc e2 size v2 Ls))
  (h:TO F P w0 K N dfs ops Q rest ((d,.int .i64 ((min ys.length ds.length:Nat):Int))::σ) (L.set k (vec enc e size vv (rL xs j (ys.take ds.length))))) :
  TO F P w0 K N dfs ops Q (⟨some d,.call { callee:=.builtin .copy,args:=#[s,x],argTypes:=#[t,t2] },ty,pos,aft,g⟩::rest) σ L:=by
 obtain⟨i,zv,hi,hz,G,aw,hsz,U⟩:=hE
 refine nw hg (by simp) fun a w J hw=>?_
 obtain⟨C2,ag⟩:=hw.vec Z
 obtain⟨C,I,D⟩:=hw.focus hk
 by_cases h0:min ys.length ds.length=0
 ·have hy:ys.take ds.length=[]:=by
   rcases Nat.min_eq_zero_iff.1 h0 with h | h
   ·rw[List.length_eq_zero_iff.1 h];simp
   ·rw[h];simp
  obtain⟨_,_,q,c,hq,_,_⟩:=hV
  obtain⟨_,_,q2,c2,Y,_,_⟩:=hS
  subst hq;subst Y
  have hr:=JJ (P:=P) w t t2 ty e i ht hi q q2 ds.length c ys.length c2 h0
  rw[hy,JI,h0] at h
  refine⟨.int .i64 0,w,?_,h _ _ (J.put hd _) (D _ C w (cF.refl _ _) I)⟩
  simp[execOp,resolve,invoke,builtin,J.ev hs,J.ev hx,hr,ak,goInt]
 ·have hds:ds≠[]:=by intro h;simp[h] at h0
  have V:ys≠[]:=by intro h;simp[h] at h0
  obtain⟨c2,rfl,hc⟩:=Vw.cells l hsz ag hS V
  obtain⟨hj,a0,q,c,rfl,_,hp⟩:=hV
  have hp:=hp hds
  subst hp
  have W:xs≠[]:=by
   intro h;subst h
   have:0<ds.length:=c6.2 hds
   rw[List.length_nil] at hj;omega
  obtain⟨cap,E⟩:=I.ptr W
  generalize gG vv=b at E
  subst E
  have M:(ys.take ds.length).length=min ys.length ds.length:=by rw[cj,Nat.min_comm]
  obtain⟨ao,T,O,hC,H⟩:=I.over l (ys:=ys.take ds.length) j (by rw[M];omega)
  have hr:=JH (P:=P) w t t2 ty e i ht hi b (j*size) ds.length c ⟨gG v2,j2*size,none⟩ ys.length c2 ao e T ((ys.take ds.length).flatMap enc) (by rw[qF l,M,G])
   (fun n u hu=>hc n u (by
    rw[← zZ l,ir] at hu
    split at hu
    ·exact hu
    ·cases hu)) O (fun u hu=>by
    obtain⟨y,_,hy⟩:=fm.1 hu
    exact h1 y u hy)
  subst hC
  refine⟨_,_,by simp only[execOp,resolve,invoke,builtin,eI,aE,eu,J.ev hs,J.ev hx,ak,io,jV,gG];simp only[gG] at hr;rw[hr];rfl,h _ _ (J.put hd _) (D _ _ _ (cF.setRow _) H)⟩
end
theorem Ed {α:Type} (ys:List α) (i:Nat) (q:α):ys.set i q=ys.zipIdx.map (fun p=>if i=p.2 then q else p.1):=by
 apply ls
 intro n
 rw[rq,bV,jM]
 by_cases h:i=n
 ·subst h
  by_cases l:i<ys.length
  ·simp[l]
  ·simp[l,gE (Nat.le_of_not_lt l)]
 ·cases ys[n]? <;> simp[h]
def rM {α:Type} (x:α) (o:Option (List α)):Option (List α):=o.map (x :: ·)
theorem sO {α:Type} {x:α} {o:Option (List α)} {r:List α} (h:rM x o=some r):∃l,r=x::l∧o=some l:=by
 obtain⟨l,h1,h2⟩:=cM.1 h
 exact⟨l,h2.symm,h1⟩
theorem z1 {l:List Int} (h:∀x∈l,U8 x):l.map (fun x=>ax .u8 x)=strCells (jA l):=by
 have e:=DY h
 conv=>lhs;rw[← e]
 simp[qL,strCells]
section
variable {F:Fence} {P:Program} {w0:World} {K:Nat→Prop} {N:Nat} {dfs:List Deferred} {ops:Array Oper} {Q:Exit→Act→World→Prop} {rest:List Oper} {c:Code} {ex:Exit} {σ:List (Nat×Value)} {L L' As R:List Asn} {A B:Asn} {k:Nat} {β:Type}
theorem mj (q:ap L L' R) (h:TO F P w0 K N dfs ops Q rest σ L'):TO F P w0 K N dfs ops Q rest σ L:=fun a w D l=>h a w D (l.weaken q)
theorem Ee (hk:L[k]?=some A) (he:oY A B) (h:TX w0 K N dfs Q ex σ (L.set k B)):TX w0 K N dfs Q ex σ L:=fun a w q l=>h a w q (l.ent hk he)
def TR (F:Fence) (P:Program) (w0:World) (K:Nat→Prop) (N:Nat) (dfs:List Deferred) (Q:Exit→Act→World→Prop) (c:Code) (m:Nat) (σ:List (Nat×Value)) (L:List Asn):Prop :=
 ∀a w,At N dfs σ a→Holds w0 K L w→nJ F 0 P c Q m a w
theorem Ef (m:Nat) (h:TR F P w0 K N dfs Q c m σ L):TC F P w0 K N dfs Q (.loop c) σ L:=fun a w q l=>wpIn_loop_rounds m (h a w q l)
theorem sP {m:Nat} (h:TC F P w0 K N dfs (_root_.Go.Exit.then (nJ F 0 P c Q m) Q) c σ L):TR F P w0 K N dfs Q c (m+1) σ L:=fun a w q l=>h a w q l
theorem vQ {m:Nat} (h:TR F P w0 K N dfs Q c m σ L):TX w0 K N dfs (_root_.Go.Exit.then (nJ F 0 P c Q m) Q) .normal σ L:=fun a w q l=>h a w q l
theorem Holds.fold1 {w:World} (h:Holds w0 K L w) (hk:L[k]?=some A) (G:ap (L.set k cn) As R) (q:R[k]?=some cn) (I:∀C w,aN (A::As) C w→B.P C w):Holds w0 K (R.set k B) w:=by
 obtain⟨C,hL,hx⟩:=h
 obtain⟨C1,C2,h1,h2,D,J⟩:=aN.take hk hL
 obtain⟨E,U,T,O,M,g4⟩:=G C2 w h2
 have l:R.set k cn=R:=by
  obtain⟨H,he⟩:=au.1 q
  rw[← he];exact oP H
 refine⟨C,aN.put (C1:=fun i=>C1 i∨E i) (C2:=U) (au.1 q).1 (I _ _ ⟨C1,E,h1,T,fun i a b=>D i a ((g4 i).2 (.inl b)),fun i=>_root_.Iff.rfl⟩) (by rw[l];exact O) (fun i a b=>?_) (fun i=>?_),hx⟩
 ·rcases a with a | a
  ·exact D i a ((g4 i).2 (.inr b))
  ·exact M i a b
 ·rw[J,g4,or_assoc]
theorem Holds.unfold1 {w:World} {I:β→Prop} {D:β→Asn} {Bs:β→List Asn} (h:Holds w0 K L w) (hk:L[k]?=some A) (G:∀C w,A.P C w→∃b,I b∧aN (D b::Bs b) C w):∃b,I b∧Holds w0 K (L.set k (D b)++Bs b) w:=by
 obtain⟨C,hL,hx⟩:=h
 obtain⟨C1,C2,h1,h2,l,H⟩:=aN.take hk hL
 obtain⟨b,E,q,T,O,M,J,g4⟩:=G _ _ h1
 refine⟨b,E,C,sN (C1:=fun i=>q i∨C2 i) (C2:=T) (aN.put (C1:=q) (C2:=C2) (au.1 hk).1 O h2 (fun i a b=>l i ((g4 i).2 (.inl a)) b) (fun i=>_root_.Iff.rfl)) M (fun i a b=>?_) (fun i=>?_),hx⟩
 ·rcases a with a | a
  ·exact J i a b
  ·exact l i ((g4 i).2 (.inr b)) a
 ·rw[H,g4]
  constructor
  ·rintro ((a | a) | a)
   ·exact .inl (.inl a)
   ·exact .inr a
   ·exact .inl (.inr a)
  ·rintro ((a | a) | a)
   ·exact .inl (.inl a)
   ·exact .inr a
   ·exact .inl (.inr a)
theorem vR (hk:L[k]?=some A) (q:ap (L.set k cn) As R) (E:R[k]?=some cn) (G:∀C w,aN (A::As) C w→B.P C w) (h:TO F P w0 K N dfs ops Q rest σ (R.set k B)):TO F P w0 K N dfs ops Q rest σ L:=fun a w D l=>h a w D (l.fold1 hk q E G)
theorem JL (hk:L[k]?=some A) (q:ap (L.set k cn) As R) (E:R[k]?=some cn) (G:∀C w,aN (A::As) C w→B.P C w) (h:TC F P w0 K N dfs Q c σ (R.set k B)):TC F P w0 K N dfs Q c σ L:=fun a w D l=>h a w D (l.fold1 hk q E G)
theorem rN (hk:L[k]?=some A) (q:ap (L.set k cn) As R) (E:R[k]?=some cn) (G:∀C w,aN (A::As) C w→B.P C w) (h:TX w0 K N dfs Q ex σ (R.set k B)):TX w0 K N dfs Q ex σ L:=fun a w D l=>h a w D (l.fold1 hk q E G)
theorem pr {I:β→Prop} {l:β→Asn} {Bs:β→List Asn} (hk:L[k]?=some A) (H:∀C w,A.P C w→∃b,I b∧aN (l b::Bs b) C w) (h:∀b,I b→TO F P w0 K N dfs ops Q rest σ (L.set k (l b)++Bs b)):TO F P w0 K N dfs ops Q rest σ L:=fun a w E q=>by
 obtain⟨b,G,D⟩:=q.unfold1 hk H;exact h b G a w E D
end
section
variable {F:Fence} {P:Program} {w0:World} {K:Nat→Prop} {N:Nat} {dfs:List Deferred} {ops:Array Oper} {Q:Exit→Act→World→Prop} {rest:List Oper} {c:Code} {ex:Exit} {σ:List (Nat×Value)} {L As R:List Asn} {k:Nat}
 {α η:Type} {enc:α×η→List Value} {nest:α×η→List Asn} {e:TypeId} {size:Nat} {v:Value} {xs:List α} {zs zs':List (α×η)} {z z':α×η} {i:Nat} {x x':α} {h h':η}
def own (nest:α×η→List Asn) (zs:List (α×η)):Asn:=zgL (zs.flatMap nest)
theorem tW (C:Nat→Prop) (w:World) (h:(mh enc nest e size v xs).P C w):∃zs:List (α×η),zs.map bu=xs∧aN (vec enc e size v zs::[own nest zs]) C w:=by
 obtain⟨⟨zs,hz⟩,h⟩:=h;exact⟨zs,hz,h⟩
theorem vS (hz:zs.map bu=xs) (C:Nat→Prop) (w:World) (h:aN (vec enc e size v zs::[own nest zs]) C w):(mh enc nest e size v xs).P C w:=⟨⟨zs,hz⟩,h⟩
theorem vT (hz:zs[i]?=some z) (C:Nat→Prop) (w:World) (h:(own nest zs).P C w):∃_u:Unit,True∧aN (own nest (zs.eraseIdx i)::nest z) C w:=by
 obtain⟨C1,C2,h1,h2,q,l⟩:=(D5 hz).1 h
 exact⟨(),trivial,C2,C1,h2,h1,fun k a b=>q k b a,fun k=>by rw[l];exact Or.comm⟩
theorem sQ (hz:zs'[i]?=some z) (he:zs'.eraseIdx i=zs.eraseIdx i) (C:Nat→Prop) (w:World) (h:aN (own nest (zs.eraseIdx i)::nest z) C w):(own nest zs').P C w:=by
 obtain⟨C1,C2,h1,h2,q,l⟩:=h
 exact (D5 hz).2 ⟨C2,C1,h2,by rw[he];exact h1,fun k a b=>q k b a,fun k=>by rw[l];exact Or.comm⟩
theorem Eg (C:Nat→Prop) (w:World) (h:aN (own nest zs::nest z) C w):(own nest (zs++[z])).P C w:=by
 obtain⟨C1,C2,h1,h2,q,l⟩:=h
 show aN ((zs++[z]).flatMap nest) C w
 rw[dW,aG,List.flatMap_nil,aQ]
 exact sN h1 h2 q l
theorem vU {i:Int} (hz:zs.map bu=xs) (l:zcy xs i=some x):∃h,zcy zs i=some (x,h):=by
 subst hz
 unfold zcy at l ⊢
 split at l
 ·rename_i h0
  rw[ay h0]
  rw[bV] at l
  obtain⟨z,h1,h2⟩:=cM.1 l
  exact⟨z.2,by rw[h1,← h2]⟩
 ·cases l
theorem z6 (hz:zs.map bu=xs):zs.length=xs.length:=by rw[← hz,aF]
theorem JM (hz:zs.map bu=xs):(zs.set i (x',h)).map bu=xs.set i x':=by rw[List.map_set,hz]
theorem Eh (hz:zs.map bu=xs):(zs++[(x,h)]).map bu=xs++[x]:=by rw[List.map_append,hz];rfl
theorem JN (hz:zs[i]?=some z):(zs.set i z')[i]?=some z':=by
 have:=(au.1 hz).1;simp[this]
theorem JO:(zs.set i z').eraseIdx i=zs.eraseIdx i:=List.eraseIdx_set_eq
variable {d:Nat} {ty:TypeId} {pos:String} {aft:Array Edge} {g:Option (Nat×Bool)} {o:Operand}
theorem z7 [br F] {l te:TypeId} {Ls:List (α×η)} {vv:Value} {j:Nat} (hz:zs.map bu=xs) (hV:Vw vv Ls size j v zs) (hg:gd ops σ g=some true) (hd:d<N) (hx:ev σ o=some v) (ht:P.underlying l=some (.slice te))
  (h:TO F P w0 K N dfs ops Q rest ((d,.int .i64 (xs.length:Int))::σ) L):TO F P w0 K N dfs ops Q (⟨some d,.call { callee:=.builtin .len,args:=#[o],argTypes:=#[l] },ty,pos,aft,g⟩::rest) σ L :=
 iO hV hg hd hx ht (by rw[z6 hz];exact h)
theorem x0 (h:TC F P w0 K N dfs Q c σ (L++[byt e (.slice none 0 0) ⟨#[]⟩])):TC F P w0 K N dfs Q c σ L:=fun a w q l=>
 h a w q (l.grow (C':=fun _=>False) (cF.refl _ _) (aN.one (A:=byt e (.slice none 0 0) ⟨#[]⟩) jY.nil))
theorem JP (q:TC F P w0 K N dfs Q c σ (L++[mh enc nest e size (.slice none 0 0) ([]:List α)])):TC F P w0 K N dfs Q c σ L:=fun a w D l=>
 q a w D (l.grow (C':=fun _=>False) (cF.refl _ _) (by obtain⟨_,_,h⟩:=Jt (enc:=enc) (nest:=nest) (e:=e) (size:=size) (fun _=>False) w (fun _ h=>h);exact h))
theorem JQ (h:TO F P w0 K N dfs ops Q rest σ (L++[cn])):TO F P w0 K N dfs ops Q rest σ L:=fun a w q l=>by
 refine h a w q ?_
 obtain⟨C,hL,hx⟩:=l
 exact⟨C,sN hL (zU 1) (fun _ _ h=>h) (fun k=>by simp),hx⟩
theorem Ei {ε:Type} {enc1:ε→List Value} {q1 q2:ε} (he:enc1 q1=enc1 q2):∀ (ys:List ε) (i:Nat),(ys.set i q1).flatMap enc1=(ys.set i q2).flatMap enc1
 | [],i=>rfl
 | y::ys,0=>by simp[he]
 | y::ys,i+1=>by simp[Ei he ys i]
theorem Ej {ε:Type} {enc1:ε→List Value} {ys zs:List ε} {q1 q2:ε} (hz:zs=ys.set i q1) (l:∀x,(enc1 x).length=size) (he:enc1 q1=enc1 q2):oY (vec enc1 e size v zs) (vec enc1 e size v (ys.set i q2)):=by
 subst hz
 rintro C w ⟨h1,D⟩
 refine⟨?_,D⟩
 have hf:=Ei he ys i
 have q:(ys.set i q1).length=(ys.set i q2).length:=by simp
 unfold Rw at h1 ⊢
 rw[← hf,← q];exact h1
theorem JR {b:Nat} {ε:Type} {enc1:ε→List Value} {y:ε} (l:∀x,(enc1 x).length=size):oY (vec enc1 e size (.slice (some ⟨b,0,none⟩) 1 1) [y]) (cells b (enc1 y) e):=by
 intro C w h
 obtain⟨_,_,h'⟩:=Jv (enc1:=enc1) (e:=e) (size:=size) (b:=b) (y:=y) l C w (aN.one1.2 h)
 exact aN.one1.1 h'
end
end Go.Proofs.YtifpjbgnikjglaaGreatDoor
