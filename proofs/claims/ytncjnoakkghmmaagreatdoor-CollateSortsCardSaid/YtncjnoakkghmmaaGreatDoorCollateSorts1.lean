/-
  Texts laid together: Fr, Iter, Iter2, Row, Sep, Sl, Rl, Tl, Ul, Dl, Vl, Gl, Wl, Yl, Ll, Ml, Nl, Mm, Dg, Utf, Rn, Ap, Cp, Zn. Nothing is assumed.
-/
import Derived.RangeFuncNested
import Derived.RangeFuncBound
import Derived.RangeFuncCalls
import Derived.RangeFuncLeaves
import Derived.Shelf.Abstract
import Derived.Shelf.RegionOpen
import Derived.WalkKit
import Derived.WalkSpells
import Derived.WalkLawsBesides
import Derived.OwnWalkIn
import Derived.TacticsInMore
import Derived.LoopNIn
import Derived.LoopIn
import Derived.Lib.OthersKept
import Derived.Lib.MapLaws
import Derived.Lib.ValidLaws
import Derived.Lib.TrimUEq
import Derived.Lib.RuneCountTail
import Derived.Lib.Hide
import Derived.Lib.Bytealg
import Derived.Deep.Light
import Derived.Deep.QuietTactic
import Derived.BigQuiet
import Derived.Deep.LoopGhost
import Derived.Lib.QuoteLoop
import Derived.Lib.AppendStr
import Derived.Laws.IdiomStrings
import Derived.Lib.BufferRead
import Derived.OrdersIn
import Derived.Deep.MidRow
import Derived.IntWalk
import Derived.Laws.MakeOwn
import Derived.Laws.StructEq
import Derived.Laws.Cover4
import Derived.Laws.CopyRow
import Derived.Laws.Tables
import Derived.Test.YtncjnoakkghmmaaGreatDoorProg
set_option maxRecDepth 100000
set_option maxHeartbeats 4000000
namespace Go.Proofs.YtncjnoakkghmmaaGreatDoor
open Go.RowKit Go.Lib
open Tryz
set_option linter.unusedVariables false
set_option linter.unusedSimpArgs false
open _root_.Array renaming getElem?_eq_some_iff->dD,replicate->gi,eq_empty_of_size_eq_zero->nW,length_toList->eC,getD->fW,getElem?_eq_getElem->fp,getD_eq_getD_getElem?->o6,toList_inj->gI
open _root_.BitVec renaming ofInt->ib
open _root_.Bool renaming or_eq_false_iff->bU,and_eq_true->aN,not_eq_true'->cX
open _root_.ByteArray renaming size_append->aM
open _root_.Go.Addr renaming add->pu,add_mid->jM
open _root_.Go.Builtin renaming append_->c9,lenOf->kc,firstCells->mn,len_->mU,copy_->mb
open _root_.Go.ByteArray renaming toList_eq->oj
open _root_.Go.CallsIn renaming mono->mR
open _root_.Go.Code renaming roundsIn->qz
open _root_.Go.Conv renaming runesFrom->gN
open _root_.Go.Deferred renaming ofValue->nf
open _root_.Go.Exit renaming inBlock->lc
open _root_.Go.Fence renaming wide->bK
open _root_.Go.Instr renaming sureAddr->fq,index->ki,sliceAt->iG,loadAt->lK,sliceBounds->kI,sliceBound->kA
open _root_.Go.Op renaming intArith->ug,intCmp->mT,stringOp->uh,equalIn->gk,eqFields->mB
open _root_.Go.Oper renaming wpIn->qU,uponIn->iF,semAt_plain->jf
open _root_.Go.Region renaming wanted->mo
open _root_.Go.Result renaming andThen_ok->cD,andThen->mq
open _root_.Go.RoundIn renaming mono->mS
open _root_.Go.RowKit.Below renaming heap_alloc->ik
open _root_.Go.RowsIn renaming mono->nX
open _root_.Go.Sem renaming run_bind->al,run_pure->jS
open _root_.Go.StepsIn renaming trans->pw
open _root_.Go.Utf8 renaming encode->ae
open _root_.Go.Value renaming ownBlock->cn,cells->rZ,oneCell'->pv,int->az
open _root_.Go.World renaming setCell->nG,putObj_heap_other->eu,putObj_heap_same->iY,alloc_heap_new->fQ,frozen?->nH,ownsRow_nil->uf
open _root_.Go.World.ownsRow renaming lt->gj
open _root_.Int renaming toNat_natCast->cy
open _root_.List renaming nodup_cons->ka,flatMap_cons->aK,getElem?_append_left->ea,getElem?_append_right->eK,eq_nil_of_length_eq_zero->cE,getElem?_eq_some_iff->aq,mem_flatMap->jD,length_append->aa,flatMap_append->fa,getElem?_map->cx,getElem?_eq_getElem->aJ,map_toArray->fL,map_cons->au,map_nil->fm,all_eq_true->bm,mem_map->aT,mem_filter->cG,append_nil->aE,contains_cons->iC,getElem?_set_ne->sL,lookup->eI,getElem?_take->iQ,getElem?_drop->iD,ext_getElem?->nI,getElem?_set->u6,mem_of_getElem?->aF,mem_cons->bg,mem_cons_of_mem->ak,mem_cons_self->ar,mem_append->bv,cons_append->aW,mem_iff_getElem?->iZ,getElem?_inj->va,append_assoc->av,getD_eq_getElem?_getD->cR,getElem?_eq_none->ja,getElem?_zipIdx->lZ,drop_eq_getElem_cons->aQ,drop_zero->fj,drop_eq_nil_of_le->bD,getElem?_take_of_lt->qx,take_append_drop->bo,length_take->aZ,length_drop->aR,drop_drop->fY,length_pos_iff->dh,not_mem_nil->dJ,replicate->aO,replicate_succ->nY,length_map->ax,take_of_length_le->ff,drop_left->jb,set_getElem_self->sa,length->fS,flatMap->rl
open _root_.Nat renaming le_refl->aS,le_trans->rU,lt_of_lt_of_le->fx,add_mul->dC,zero_mul->qe,zero_add->bY,mul_le_mul_right->jt,zero_le->bT,one_mul->kW,add_comm->lq,mod_lt->pz,min->wn
open _root_.Option renaming map_eq_some_iff->da
open _root_.Option.some renaming injEq->ia,inj->kV
open _root_.Prod renaming fst->bE
open _root_.UInt8 renaming ofNat->jE
theorem z1{p:Prop}(h:p:=by omega):p:=h
theorem ah {p:Prop} [Decidable p] (h:¬p):decide p=false:=decide_eq_false h
theorem ai.{u} {c:Prop} {_:Decidable c} (h:¬c) {α:Sort u} {t e:α}:(ite c t e)=e:=if_neg h
theorem aj.{u} {c:Prop} {_:Decidable c} (h:c) {α:Sort u} {t e:α}:(ite c t e)=t:=if_pos h
theorem an {p:Prop} [Decidable p] (h:p):decide p=true:=decide_eq_true h
theorem aA.{u} {α:Type u} [BEq α] [LawfulBEq α] {a b:α}:(a==b)=false↔a≠b:=beq_eq_false_iff_ne
theorem aI.{u,v} {α:Sort u} {β:Sort v} {a b:α} (f:α->β) (h:a=b):f a=f b:=congrArg f h
theorem cQ.{u} {α:Type u} [BEq α] [LawfulBEq α] {a b:α}:a != b↔a≠b:=bne_iff_ne
abbrev V:=ByteArray
theorem dc {p:Prop} [Decidable p] (h:decide p=true:=by rfl):p:=of_decide_eq_true h
theorem kr {α:Sort _} {a b:α} (h:a=b:=by as_aux_lemma=>kernel_rfl):a=b:=h
structure Fr (C:Nat->Prop) (w w':World):Prop where
 os:w'.os=w.os
 tape:w'.tape=w.tape
 output:w'.output=w.output
 size:w.heap.size<=w'.heap.size
 keep:∀k,k<w.heap.size->¬C k->w'.heap[k]?=w.heap[k]?
theorem Fr.refl (C:Nat->Prop) (w:World):Fr C w w:=⟨rfl,rfl,rfl,aS _,λ_ _ _=>rfl⟩
theorem Fr.trans' {C C':Nat->Prop} {a b c:World} (h:Fr C a b) (k:Fr C' b c) (hc:∀i,i<a.heap.size->C' i->C i):Fr C a c :=
 ⟨k.os.trans h.os,k.tape.trans h.tape,k.output.trans h.output,rU h.size k.size,
  λi hi l=>(k.keep i (fx hi h.size) (λh'=>l (hc i hi h'))).trans (h.keep i hi l)⟩
theorem Fr.trans {C:Nat->Prop} {a b c:World} (h:Fr C a b) (k:Fr C b c):Fr C a c:=h.trans' k (λ_ _ h=>h)
theorem Fr.weaken {C C':Nat->Prop} {a b:World} (h:Fr C a b) (hc:∀i,i<a.heap.size->C i->C' i):Fr C' a b :=
 ⟨h.os,h.tape,h.output,h.size,λi hi l=>h.keep i hi (λh'=>l (hc i hi h'))⟩
theorem Fr.alloc {C:Nat->Prop} {a w:World} (h:Fr C a w) (o:Obj):Fr C a (w.alloc o) :=
 ⟨h.os,h.tape,h.output,by have:=h.size;simp;omega,λi hi l=>(ik w o i (fx hi h.size)).trans (h.keep i hi l)⟩
theorem Fr.drew {C:Nat->Prop} {a w:World} (h:Fr C a w):Fr C a w.drew:=⟨h.os,h.tape,h.output,h.size,h.keep⟩
theorem Fr.setCell {C:Nat->Prop} {a w:World} (h:Fr C a w) {p:Addr} (hp:C p.block\/a.heap.size<=p.block) (u:Value):Fr C a (w.setCell p u) :=
 ⟨h.os,h.tape,h.output,by simpa [nG] using h.size,λi hi l=>
  (Below.heap_setCell w p u i (by rintro rfl;rcases hp with hp | hp;exact l hp;omega)).trans (h.keep i hi l)⟩
theorem Fr.putObj {C:Nat->Prop} {a w:World} (h:Fr C a w) {r:Nat} (hp:C r\/a.heap.size<=r) (o:Obj):Fr C a (w.putObj r o) :=
 ⟨h.os,h.tape,h.output,by simpa using h.size,λi hi l=>
  (eu (by rintro rfl;rcases hp with hp | hp;exact l hp;omega)).trans (h.keep i hi l)⟩
theorem Fr.iterAt {C:Nat->Prop} {a w:World} (h:Fr C a w) {k:Nat} (hp:C k\/a.heap.size<=k) (s:V) (pos:Nat):Fr C a (w.iterAt k s pos) :=
 ⟨h.os,h.tape,h.output,by rw[iterAt_size];exact h.size,λi hi l=>
  (iterAt_other w k i s pos (by rintro rfl;rcases hp with hp | hp;exact l hp;omega)).trans (h.keep i hi l)⟩
theorem Fr.grown {C:Nat->Prop} {a w w':World} {row:Option Nat} (h:Fr C a w) (hg:w.grownBy w' row) (hr:∀r,row=some r->C r\/a.heap.size<=r):Fr C a w' :=
 ⟨hg.os.trans h.os,hg.tape.trans h.tape,hg.output.trans h.output,rU h.size hg.size,λi hi l=>
  (hg.block i (fx hi h.size) (λe=>by rcases hr i e.symm with h' | h';exact l h';omega)).trans (h.keep i hi l)⟩
theorem Fr.below {C:Nat->Prop} {a w w':World} (h:Fr C a w) (hb:Below w.heap.size w w'):Fr C a w' :=
 ⟨hb.os.trans h.os,hb.tape.trans h.tape,hb.output.trans h.output,rU h.size hb.size,λi hi l=>
  (hb.block i (fx hi h.size)).trans (h.keep i hi l)⟩
theorem Fr.toBelow {C:Nat->Prop} {B:Nat} {w w':World} (h:Fr C w w') (hB:B<=w.heap.size) (l:∀k,k<B->¬C k):Below B w w' :=
 ⟨h.os,h.tape,h.output,h.size,λk hk=>h.keep k z1 (l k hk)⟩
theorem Fr.at {C:Nat->Prop} {w w':World} (h:Fr C w w') {k:Nat} {o:Obj} (hk:w.heap[k]?=some o) (l:¬C k):w'.heap[k]?=some o :=
 (h.keep k (dD.1 hk).1 l).trans hk
theorem ny {w:World} {k:Nat} {o:Obj} (hk:w.heap[k]?=some o):k<w.heap.size:=(dD.1 hk).1
def cY (C C':Nat->Prop) (W W':World):Prop:=Fr C W W'/\∀k,C' k->C k\/(W.heap.size<=k/\k<W'.heap.size)
theorem cY.refl (C:Nat->Prop) (W:World):cY C C W W:=⟨Fr.refl _ _,λ_ h=>.inl h⟩
theorem cY.trans {C C1 C2:Nat->Prop} {W q l:World} (h:cY C C1 W q) (k:cY C1 C2 q l):cY C C2 W l:=by
 refine⟨h.1.trans' k.1 (λi hi hc=>(h.2 i hc).resolve_right z1),λi hi=>?_⟩;have h1:=h.1.size;have h2:=k.1.size;rcases k.2 i hi with h'|h'
 ·rcases h.2 i h' with h''|h''
  ·exact .inl h''
  ·exact .inr z1
 ·exact .inr z1
theorem QN {C:Nat->Prop} {W W':World} (h:Fr C W W'):cY C C W W':=⟨h,λ_ h=>.inl h⟩
theorem cY.not {C C':Nat->Prop} {W W':World} (h:cY C C' W W') {k:Nat} (hk:k<W.heap.size) (l:¬C k):¬C' k:=λh'=>by
 rcases h.2 k h' with h''|h''
 ·exact l h''
 ·omega
def qk {β:Type} (l:β->(Nat->Prop)->World->Prop):Prop :=
 ∀s C W W',l s C W->W.heap.size<=W'.heap.size->(∀k,C k->W'.heap[k]?=W.heap[k]?)->l s C W'
def F5 (P:Program) (l:Nat) (args:Array Value) (W:World) (R:Bool->World->Prop):Prop :=
 ∃fn tmps assign body,(Instr.yield l args).run P W=.ok (.round l fn tmps assign body) W /\
  RoundIn bK 0 P l fn tmps assign body W λe W'=>∃b,e=.returned (.bool b)/\R b W'
def F6 {α:Type} (P:Program) (g:FuncId) (lb:Array Value) (enc:α->Array Value) (xs:List α) (D:Nat->Prop) (Z:World):Prop :=
 ∀ (l:Nat) (q X:List α->(Nat->Prop)->World->Prop) (J:Nat->Prop) (W:World),
  (∀k,D k->k<Z.heap.size/\W.heap[k]?=Z.heap[k]?)->Z.heap.size<=W.heap.size->(∀k,J k->k<W.heap.size/\¬D k) ->
  qk q->qk X ->
  (∀pre x post C H,xs=pre++x::post->cY J C W H->q pre C H ->
   F5 P l (enc x) H λb M=>∃C',cY C C' H M/\((b=true/\q (pre++[x]) C' M)\/(b=false/\X (pre++[x]) C' M))) ->
  q [] J W ->
  Calls P g (#[.func (.yield l) #[] #[]]++lb) W λe W'=>(∃v,e=.returned v) /\
   ∃C',cY J C' W W'/\(q xs C' W'\/∃pre x post,xs=pre++x::post/\X (pre++[x]) C' W')
def C6 {α:Type} (l:List α->(Nat->Prop)->World->Prop) (X:Code->List α->(Nat->Prop)->World->Prop) (xs:List α) (C:Nat->Prop) (W:World):Exit->Act->World->Prop
 |.normal,_,W'=>∃C',cY C C' W W'/\l xs C' W'
 |.ret,_,W'=>∃C',cY C C' W W'/\X .ret xs C' W'
 |.exit id,_,W'=>∃C',cY C C' W W'/\X (.exit id) xs C' W'
 |.goto t,_,W'=>∃C',cY C C' W W'/\X (.goto t) xs C' W'
 |.panic _,_,_=>False
 |.outgrown,_,_=>False
theorem JU (f:FuncId):Fence.wide.fn f=True:=rfl
theorem JV (l:Nat) (f:FuncId):(Fence.wide.inRound l).fn f=True:=rfl
theorem JW:Fence.wide.depth=none:=rfl
section
variable {P:Program}
theorem QO {α:Type} {gf:FuncId} {lb:Array Value} {enc:α->Array Value} {xs:List α} {D:Nat->Prop} {W0:World} (hY:F6 P gf lb enc xs D W0) {fn:FuncId} {tmps:Array Value} {ps:Array Tmp} {assign body:Code} {q:Nat} (bs:∀x,(enc x).size=ps.size) (Ia:List α->(Nat->Prop)->World->Prop) (X:Code->List α->(Nat->Prop)->World->Prop) (J:List α->α->Act->(Nat->Prop)->World->Prop) (hI:qk Ia) (hX:∀c,qk (X c)) (hJ:∀pre x a,qk (λ(_:Unit)=>J pre x a)) (C0:Nat->Prop) (W:World) (l:Nat) (hl:W.heap[l]?=some (.loop {state:=.ready,pending:=none,fn,tmps,params:=ps,assign,body,defers:=q })) (b3:¬C0 l) (b2:¬D l) (hD:∀k,D k->k<W0.heap.size/\W.heap[k]?=W0.heap[k]?) (hs:W0.heap.size<=W.heap.size) (b5:∀k,C0 k->k<W.heap.size/\¬D k) (h0:Ia [] C0 W) (a0:∀pre x post C W1,xs=pre++x::post->cY (λk=>C0 k\/k=l) (λk=>C k\/k=l) W W1->Ia pre C W1->¬C l->(∃r,W1.heap[l]?=some (.loop r)/\r.defers=q) -> assign.wpIn (Fence.wide.inRound l) 0 P (Exit.then (λa1 W2=>∃C1,cY C C1 W1 W2/\J pre x a1 C1 W2) (λ_ _ _=>False)) {tmps:=(ps.zip (enc x)).foldl (λt (p,v)=>t.setIfInBounds p v) tmps,defers:=[] } W1) (a7:∀pre x post C W1 a1,xs=pre++x::post->cY (λk=>C0 k\/k=l) (λk=>C k\/k=l) W W1->J pre x a1 C W1->¬C l->(∃r,W1.heap[l]?=some (.loop r)/\r.defers=q) -> body.wpIn (Fence.wide.inRound l) 0 P (C6 Ia X (pre++[x]) C W1) a1 W1) : Calls P gf (#[.func (.yield l) #[] #[]]++lb) W λe W'=>(∃v,e=.returned v) /\ ∃C' st pe,cY (λk=>C0 k\/k=l) (λk=>C' k\/k=l) W W'/\¬C' l/\W'.heap[l]?=some (.loop {state:=st,pending:=pe,fn,tmps,params:=ps,assign,body,defers:=q })/\st≠.busy /\ ((pe=none/\Ia xs C' W')\/∃c pre x post,pe=some c/\xs=pre++x::post/\X c (pre++[x]) C' W'):=by
 have b1:l<W.heap.size:=ny hl;refine (hY l
  (λpre Cc W1=>∃C,Cc=(λk=>C k\/k=l)/\¬C l/\Ia pre C W1/\W1.heap[l]?=some (.loop { state:=.ready,pending:=none,fn,tmps,params:=ps,assign,body,defers:=q }))
  (λpre Cc W1=>∃C c,Cc=(λk=>C k\/k=l)/\¬C l/\X c pre C W1/\W1.heap[l]?=some (.loop { state:=.done,pending:=some c,fn,tmps,params:=ps,assign,body,defers:=q }))
  (λk=>C0 k\/k=l) W hD hs ?_ ?_ ?_ ?_ ?_).mono ?_
 ·rintro k (h | rfl)
  ·exact b5 k h
  ·exact⟨b1,b2⟩
 ·rintro pre Cc W1 W2 ⟨C,rfl,hn,hi,hr⟩ hsz hk;exact⟨C,rfl,hn,hI _ _ _ _ hi hsz (λk h=>hk k (.inl h)),(hk l (.inr rfl)).trans hr⟩
 ·rintro pre Cc W1 W2 ⟨C,c,rfl,hn,hi,hr⟩ hsz hk;exact⟨C,c,rfl,hn,hX c _ _ _ _ hi hsz (λk h=>hk k (.inl h)),(hk l (.inr rfl)).trans hr⟩
 ·rintro pre x post Cc W1 a2 ag ⟨C,rfl,hn,hi,hr⟩;have bh:l<W1.heap.size:=ny hr;have hy:=run_yield (P:=P) (args:=enc x) hr (bs x);refine⟨fn,_,assign,body,hy,roundIn_of_wpIn (F:=bK) trivial (wpIn_mono (a0 pre x post C W1 a2 ag hi hn ⟨_,hr,rfl⟩) ?_)⟩;clear hy;rintro e a1 W2 hp;cases e with
  |normal=>
   obtain⟨C1,a4,hj⟩:=hp;have a5:¬C1 l:=a4.not bh hn;have hr2:W2.heap[l]?=_:=a4.1.at hr hn;have hlt2:l<W2.heap.size:=ny hr2;refine⟨_,run_beginRound hr2 rfl,?_⟩;have a9:=iY (w:=W2) (o:=.loop { state:=.busy,pending:=none,fn,tmps,params:=ps,assign,body,defers:=q }) hlt2;have M:∀ (Cz:Nat->Prop) (Wz:World) (o:Obj),¬Cz l->∀k,Cz k->(Wz.putObj l o).heap[k]?=Wz.heap[k]?:=λCz Wz o hz k hk=>eu (by rintro rfl;exact hz hk);have b4:=hJ pre x a1 () C1 W2 (W2.putObj l (.loop { state:=.busy,pending:=none,fn,tmps,params:=ps,assign,body,defers:=q })) hj (by simp) (M C1 W2 _ a5);have bk:cY (λk=>C k\/k=l) (λk=>C1 k\/k=l) W1 (W2.putObj l (.loop { state:=.busy,pending:=none,fn,tmps,params:=ps,assign,body,defers:=q })) :=
    ⟨(a4.1.weaken (λ_ _ h=>.inl h)).putObj (.inl (.inr rfl)) _,λk hk=>by
     rcases hk with hk|rfl
     ·rcases a4.2 k hk with h'|h'
      ·exact .inl (.inl h')
      ·exact .inr (by simpa using h')
     ·exact .inl (.inr rfl)⟩
   refine wpIn_mono (a7 pre x post C1 _ a1 a2 (ag.trans bk) b4 a5 ⟨_,a9,rfl⟩) ?_;have a6:∀ (H:Option Code) (C':Nat->Prop) (W4:World),cY C1 C' (W2.putObj l (.loop { state:=.busy,pending:=none,fn,tmps,params:=ps,assign,body,defers:=q })) W4 ->
     ¬C' l/\(Instr.endRound l H).run P W4=.ok (.bool H.isNone) (W4.putObj l (.loop { state:=if H.isNone then .ready else .done,pending:=H,fn,tmps,params:=ps,assign,body,defers:=q })) /\
     (W4.putObj l (.loop { state:=if H.isNone then .ready else .done,pending:=H,fn,tmps,params:=ps,assign,body,defers:=q })).heap[l]?=some (.loop { state:=if H.isNone then .ready else .done,pending:=H,fn,tmps,params:=ps,assign,body,defers:=q }) /\
     cY (λk=>C k\/k=l) (λk=>C' k\/k=l) W1 (W4.putObj l (.loop { state:=if H.isNone then .ready else .done,pending:=H,fn,tmps,params:=ps,assign,body,defers:=q })):=by
    intro H C' W4 Z;have b0:¬C' l:=Z.not (by simpa using hlt2) a5;have a8:=Z.1.at a9 a5;have bb:l<W4.heap.size:=ny a8;refine⟨b0,run_endRound (P:=P) H a8,iY bb,bk.trans ⟨(Z.1.weaken (λ_ _ h=>.inl h)).putObj (.inl (.inr rfl)) _,?_⟩⟩;rintro k (hk|rfl)
    ·rcases Z.2 k hk with h'|h'
     ·exact .inl (.inl h')
     ·exact .inr (by simpa using h')
    ·exact .inl (.inr rfl)
   rintro e a3 W4 aw;cases e with
   |normal=>
    obtain⟨C',Z,ao⟩:=aw;obtain⟨q1,q2,q3,q4⟩:=a6 none C' W4 Z;exact⟨_,_,q2,true,rfl,_,q4,.inl ⟨rfl,C',rfl,q1,hI _ _ _ _ ao (by simp) (M C' W4 _ q1),q3⟩⟩
   |ret=>
    obtain⟨C',Z,ao⟩:=aw;obtain⟨q1,q2,q3,q4⟩:=a6 (some .ret) C' W4 Z;exact⟨_,_,q2,false,rfl,_,q4,.inr ⟨rfl,C',_,rfl,q1,hX _ _ _ _ _ ao (by simp) (M C' W4 _ q1),q3⟩⟩
   |exit id=>
    obtain⟨C',Z,ao⟩:=aw;obtain⟨q1,q2,q3,q4⟩:=a6 (some (.exit id)) C' W4 Z;exact⟨_,_,q2,false,rfl,_,q4,.inr ⟨rfl,C',_,rfl,q1,hX _ _ _ _ _ ao (by simp) (M C' W4 _ q1),q3⟩⟩
   |goto t=>
    obtain⟨C',Z,ao⟩:=aw;obtain⟨q1,q2,q3,q4⟩:=a6 (some (.goto t)) C' W4 Z;exact⟨_,_,q2,false,rfl,_,q4,.inr ⟨rfl,C',_,rfl,q1,hX _ _ _ _ _ ao (by simp) (M C' W4 _ q1),q3⟩⟩
   |panic ch=>exact aw.elim
   |outgrown=>exact aw.elim
  |ret=>exact hp.elim
  |exit id=>exact hp.elim
  |goto t=>exact hp.elim
  |panic ch=>exact hp.elim
  |outgrown=>exact hp.elim
 ·exact⟨C0,rfl,b3,h0,hl⟩
 ·rintro e W' ⟨hv,C',ag,⟨C,rfl,hn,hi,hr⟩ | ⟨pre,x,post,a2,C,c,rfl,hn,hi,hr⟩⟩
  ·exact⟨hv,C,_,_,ag,hn,hr,by simp,.inl ⟨rfl,hi⟩⟩
  ·exact⟨hv,C,_,_,ag,hn,hr,by simp,.inr ⟨c,pre,x,post,rfl,a2,hi⟩⟩
theorem QP {α:Type} {g:Operand} {ps:Array Tmp} {assign body:Code} {Q:Exit->Act->World->Prop} {a:Act} {w:World} (gf:FuncId) (lb:Array Value) (hg:a.eval g=.func (.func gf) #[] lb) (eg:∀args w,(callFunc gf args).run P w=.ok (.enter gf args) w) {enc:α->Array Value} {xs:List α} {D:Nat->Prop} {W0:World} (hY:F6 P gf lb enc xs D W0) (hD:∀k,D k->k<W0.heap.size/\w.heap[k]?=W0.heap[k]?) (hs:W0.heap.size<=w.heap.size) (bb:∀x,(enc x).size=ps.size) (Ia:List α->(Nat->Prop)->World->Prop) (X:Code->List α->(Nat->Prop)->World->Prop) (J:List α->α->Act->(Nat->Prop)->World->Prop) (hI:qk Ia) (hX:∀c,qk (X c)) (hJ:∀pre x a,qk (λ(_:Unit)=>J pre x a)) (C0:Nat->Prop) (ao:∀k,C0 k->k<w.heap.size/\¬D k) (h0:Ia [] C0 w) (a0:∀l pre x post C q,xs=pre++x::post->cY C0 C w q->Ia pre C q->¬C l->w.heap.size<=l->(∃r,q.heap[l]?=some (.loop r)) -> assign.wpIn (Fence.wide.inRound l) 0 P (Exit.then (λa1 M=>∃C1,cY C C1 q M/\J pre x a1 C1 M) (λ_ _ _=>False)) {tmps:=(ps.zip (enc x)).foldl (λt (p,v)=>t.setIfInBounds p v) a.tmps,defers:=[] } q) (a5:∀l pre x post C q a1,xs=pre++x::post->cY C0 C w q->J pre x a1 C q->¬C l->w.heap.size<=l->(∃r,q.heap[l]?=some (.loop r)) -> body.wpIn (Fence.wide.inRound l) 0 P (C6 Ia X (pre++[x]) C q) a1 q) (a4:∀ (d:Nat) (C:Nat->Prop) (W:World),cY C0 C w W->Ia xs C W->w.heap.size<=d->¬C d->W.heap[d]?=some (.deferred (some []))->Q .normal {a with defers:={target:=.collected d,args:=#[] }::a.defers } W) (a3:∀ (d:Nat) (c:Code) (pre:List α) (x:α) (post:List α) (C:Nat->Prop) (W:World),xs=pre++x::post->cY C0 C w W->X c (pre++[x]) C W->w.heap.size<=d->¬C d->W.heap[d]?=some (.deferred (some [])) -> c.wpIn bK 0 P Q {a with defers:={target:=.collected d,args:=#[] }::a.defers } W) : (Code.rangeFunc g ps assign body).wpIn bK 0 P Q a w:=by
 refine wpIn_rangeFunc ?_;intro fn hfn;obtain⟨q,ag⟩:∃q,(w.alloc (.deferred (some []))).alloc (.loop { state:=.ready,pending:=none,fn,tmps:=a.tmps,params:=ps,assign,body,defers:=w.heap.size })=q:=⟨_,rfl⟩;have bh:q.heap[w.heap.size+1]?=some (.loop { state:=.ready,pending:=none,fn,tmps:=a.tmps,params:=ps,assign,body,defers:=w.heap.size }):=by
  rw[<-ag];have:=fQ (w.alloc (.deferred (some []))) (.loop { state:=.ready,pending:=none,fn,tmps:=a.tmps,params:=ps,assign,body,defers:=w.heap.size });rwa [World.size_alloc] at this
 have bk:q.heap[w.heap.size]?=some (.deferred (some [])):=by
  rw[<-ag];exact (ik _ _ _ (by simp)).trans (fQ w _)
 have a9:Fr C0 w q:=by rw[<-ag];exact ((Fr.refl C0 w).alloc _).alloc _
 have hsz:q.heap.size=w.heap.size+2:=by rw[<-ag];simp
 have a2:∀k,k<w.heap.size->q.heap[k]?=w.heap[k]?:=λk hk=>by rw[<-ag];exact (ik _ _ _ (by simp;omega)).trans (ik _ _ _ hk)
 have bs:Ia [] C0 q:=hI _ _ _ _ h0 a9.size (λk hk=>a2 k (ao k hk).1);have Z:∀ {C:Nat->Prop} {M:World},cY (λk=>C0 k\/k=w.heap.size+1) (λk=>C k\/k=w.heap.size+1) q M->¬C (w.heap.size+1)->cY C0 C w M/\¬C w.heap.size/\M.heap[w.heap.size]?=some (.deferred (some [])):=by
  intro C M h hn;have hnd:¬C w.heap.size:=λhc=>by
   rcases h.2 _ (.inl hc) with (h'|h')|h'
   ·have:=(ao _ h').1;omega
   ·omega
   ·omega
  refine⟨⟨a9.trans' h.1 (λi hi hc=>hc.resolve_right z1),λk hk=>?_⟩,hnd,h.1.at bk (λhc=>?_)⟩
  ·have h2:=h.1.size;rcases h.2 k (.inl hk) with (h'|h')|h'
   ·exact .inl h'
   ·exact absurd (h'▸hk) hn
   ·exact .inr z1
  ·rcases hc with hc|hc
   ·have:=(ao _ hc).1;omega
   ·omega
 refine⟨w.heap.size+1,[{ target:=.collected w.heap.size,args:=#[] }],q,{ target:=.fn (.func gf) lb,args:=#[.func (.yield (w.heap.size+1)) #[] #[]] },q,gf,
  #[.func (.yield (w.heap.size+1)) #[] #[]]++lb,q,?_,?_,?_,?_,λh=>by simp[bK] at h,callsIn_wide.2 ?_⟩
 ·rw[<-ag];exact run_enterLoop_outer _ _ _ _ _
 ·simp only[resolve,hg];simp[go_sem]
 ·intro f' b0;trivial
 ·simp[invoke,go_sem,eg]
 ·refine (QO hY bb Ia X J hI hX hJ C0 q (w.heap.size+1) bh (λh=>by have:=(ao _ h).1;omega) (λh=>by have:=(hD _ h).1;omega)
   (λk hk=>⟨(hD k hk).1,(a2 k (by have:=(hD k hk).1;omega)).trans (hD k hk).2⟩) z1 (λk hk=>⟨by have:=(ao k hk).1;omega,(ao k hk).2⟩) bs ?_ ?_).mono ?_
  ·rintro pre x post C M aw H hi hn ⟨r,hr,_⟩;exact a0 _ pre x post C M aw (Z H hn).1 hi hn z1 ⟨r,hr⟩
  ·rintro pre x post C M a1 aw H hj hn ⟨r,hr,_⟩;exact a5 _ pre x post C M a1 aw (Z H hn).1 hj hn z1 ⟨r,hr⟩
  ·rintro e M ⟨⟨v,rfl⟩,C',st,pe,H,hn,hr,a6,h⟩;obtain⟨q1,q2,q3⟩:=Z H hn;have hlt2:w.heap.size+1<M.heap.size:=ny hr;have e1:∀o,cY C0 C' w (M.putObj (w.heap.size+1) o):=λo=>⟨q1.1.putObj (.inr z1) _,λk hk=>by have:=q1.2 k hk;simpa using this⟩;have a7:∀o,∀k,C' k->(M.putObj (w.heap.size+1) o).heap[k]?=M.heap[k]?:=λo k hk=>eu (by rintro rfl;exact hn hk);have a8:∀o,(M.putObj (w.heap.size+1) o).heap[w.heap.size]?=some (.deferred (some [])):=λo=>(eu z1).trans q3;rcases h with⟨rfl,hi⟩|⟨c,pre,x,post,rfl,aw,hx⟩
   ·exact⟨none,_,run_endLoop (P:=P) hr a6,a4 _ C' _ (e1 _) (hI _ _ _ _ hi (by simp) (a7 _)) (aS _) q2 (a8 _)⟩
   ·exact⟨some c,_,run_endLoop (P:=P) hr a6,a3 _ c pre x post C' _ aw (e1 _) (hX _ _ _ _ _ hx (by simp) (a7 _)) (aS _) q2 (a8 _)⟩
def qW (l:List Nat):List Deferred:=l.map λd=>{ target:=.collected d,args:=#[] }
theorem JX {fn:Func} {tmps:Array Value} {R:Ending->World->Prop}:∀ (l:List Nat) (w:World),l.Nodup->(∀d∈l,w.heap[d]?=some (.deferred (some []))) ->
  (∀w',Fr (λk=>k∈l) w w'->w'.heap.size=w.heap.size->∃v,(results fn tmps).run P w'=.ok v w'/\R (.returned v) w') ->
  LeavesInM bK 0 P fn tmps R (qW l) .returning w
 |[],w,_,_,h=>by
  obtain⟨v,h1,h2⟩:=h w (Fr.refl _ _) rfl;exact⟨v,h1,h2⟩
 |d::l,w,hn,hd,h=>by
  have hnd:=ka.1 hn;refine⟨by simp,.inl ⟨d,_,rfl,run_takeDeferred (hd d (by simp)),?_⟩⟩;refine JX l _ hnd.2 (λe he=>(eu (by rintro rfl;exact hnd.1 he)).trans (hd e (by simp[he]))) (λw' q D=>?_);refine h w' ?_ (by rw[D];simp);exact ((Fr.refl _ _).putObj (.inl (by simp)) _).trans' q (λi _ hi=>by simp[hi])
theorem zT {f:FuncId} {fn:Func} {c:Code} {args:Array Value} {w:World} {R:Ending->World->Prop} (hf:P.funcs[f]?=some fn) (hb:fn.body=some c) (h:c.wpIn bK 0 P (bodyPostM bK 0 P fn R) {tmps:=args++gi (fn.ntmps-args.size) undef,defers:=[] } w):Calls P f args w R :=
 (callsIn_wide (n:=0)).1 (callsIn_of_wp_marks hf hb trivial h)
end
theorem cY.sub {C C1 C2:Nat->Prop} {W W':World} (h:cY C C1 W W') (l:∀k,C2 k->C1 k):cY C C2 W W':=⟨h.1,λk hk=>h.2 k (l k hk)⟩
theorem cY.below {C:Nat->Prop} {W W':World} (h:Below W.heap.size W W'):cY C C W W':=QN ((Fr.refl _ _).below h)
theorem qB {w:World} {b j:Nat} {cs:Array Value} {t:TypeId} {l:Nat×Nat} {v:Value} (h:w.heap[b]?=some (.cells cs t l)) (hv:cs[j]?=some v):w.cell? ⟨b,j,none⟩=some v:=by
 simp[World.cell?,h,hv]
theorem JY {w:World} {b:Nat} {cs:Array Value} {t:TypeId} (h:w.heap[b]?=some (.cells cs t (0,0))) (j:Nat):w.frozen? ⟨b,j,none⟩=false:=by
 simp[nH,h]
section
variable {α:Type} {enc:α->List Value} {size:Nat}
theorem sR (hz:∀x,(enc x).length=size) (L:List α):(L.flatMap enc).length=L.length*size:=by
 induction L with
 |nil=>simp
 |cons x L l=>simp[l,hz,dC];omega
theorem F7 (hz:∀x,(enc x).length=size):∀ (L:List α) (n j:Nat) (x:α),L[n]?=some x->j<size->(L.flatMap enc)[n*size+j]?=(enc x)[j]?
 |[],n,j,x,h,hj=>by simp at h
 |y::L,0,j,x,h,hj=>by
  simp at h;subst h;simp only[aK,qe,bY];rw[ea (by rw[hz];exact hj)]
 |y::L,n+1,j,x,h,hj=>by
  simp at h;simp only[aK];rw[eK (by rw[hz,dC];omega),hz];have:(n+1)*size+j-size=n*size+j:=by rw[dC];omega
  rw[this];exact F7 hz L n j x h hj
theorem JZ (hz:∀x,(enc x).length=size):∀ (L:List α) (n j:Nat) (x y:α) (u:Value),L[n]?=some x->j<size->enc y=(enc x).set j u ->
  (L.flatMap enc).set (n*size+j) u=(L.set n y).flatMap enc
 |[],n,j,x,y,u,h,hj,he=>by simp at h
 |z::L,0,j,x,y,u,h,hj,he=>by
  simp at h;subst h;simp only[aK,qe,bY,List.set_cons_zero];rw[List.set_append_left _ _ (by rw[hz];exact hj),he]
 |z::L,n+1,j,x,y,u,h,hj,he=>by
  simp at h;simp only[aK,List.set_cons_succ];rw[List.set_append_right _ _ (by rw[hz,dC];omega),hz];have:(n+1)*size+j-size=n*size+j:=by rw[dC];omega
  rw[this,JZ hz L n j x y u h hj he]
def Rw (enc:α->List Value) (w:World) (base:Nat) (e:TypeId) (size:Nat) (v:Value) (L:List α):Prop:=w.ownsRow base e size v L.length (L.flatMap enc)
theorem Rw.nil (w:World) (base:Nat) (e:TypeId):Rw enc w base e size (.slice none 0 0) ([]:List α):=uf w base e size
theorem Rw.shape {w:World} {base:Nat} {e:TypeId} {v:Value} {L:List α} (h:Rw enc w base e size v L) : (v=.slice none 0 0/\L=[])\/∃g cap,v=.slice (some ⟨g,0,none⟩) L.length cap/\base<=g/\g<w.heap.size/\L.length<=cap/\cap<=maxLen:=by
 rcases h.2 with⟨h1,h2⟩|⟨g,cap,q,h1,h2,h3,l,h5,_⟩
 ·exact .inl ⟨h1,cE h2⟩
 ·exact .inr ⟨g,cap,h1,h2,(dD.1 h3).1,l,h5⟩
theorem Rw.cell {w:World} {base:Nat} {e:TypeId} {g cap:Nat} {L:List α} (hz:∀x,(enc x).length=size) (h:Rw enc w base e size (.slice (some ⟨g,0,none⟩) L.length cap) L) {n:Nat} {x:α} (hx:L[n]?=some x) {j:Nat} {u:Value} (hj:j<size) (hu:(enc x)[j]?=some u):w.cell? ⟨g,n*size+j,none⟩=some u:=by
 have q:n<L.length:=(aq.1 hx).1;have l:n*size+j<L.length*size:=by
  have:(n+1)*size<=L.length*size:=jt _ q;rw[dC] at this;omega
 rw[World.ownsRow.cellAt h _ l,F7 hz L n j x hx hj,hu]
theorem Rw.frozen {w:World} {base:Nat} {e:TypeId} {g n cap:Nat} {L:List α} (h:Rw enc w base e size (.slice (some ⟨g,0,none⟩) n cap) L) (l:n=L.length) (j:Nat):w.frozen? ⟨g,j,none⟩=false:=by
 subst l;exact World.ownsRow.frozenAt h j
theorem Rw.stored {w:World} {base:Nat} {e:TypeId} {g cap:Nat} {L:List α} (hz:∀x,(enc x).length=size) (h:Rw enc w base e size (.slice (some ⟨g,0,none⟩) L.length cap) L) {n:Nat} {x:α} (hx:L[n]?=some x) {j:Nat} (hj:j<size) (y:α) {u:Value} (he:enc y=(enc x).set j u) : Rw enc (w.setCell ⟨g,n*size+j,none⟩ u) base e size (.slice (some ⟨g,0,none⟩) L.length cap) (L.set n y)/\w.grownBy (w.setCell ⟨g,n*size+j,none⟩ u) (some g):=by
 have:=World.ownsRow.stored h (n*size+j) u;refine⟨?_,this.2⟩;have h1:=this.1;rw[JZ hz L n j x y u hx hj he] at h1;unfold Rw;rw[List.length_set];exact h1
end
theorem cY.alloc {C C':Nat->Prop} {a w:World} (h:cY C C' a w) (o:Obj):cY C C' a (w.alloc o) :=
 ⟨h.1.alloc o,λk hk=>(h.2 k hk).imp id (λq=>⟨q.1,by simp;omega⟩)⟩
theorem cY.drew {C C':Nat->Prop} {a w:World} (h:cY C C' a w):cY C C' a w.drew:=⟨h.1.drew,h.2⟩
theorem cY.setCell {C C':Nat->Prop} {a w:World} (h:cY C C' a w) {p:Addr} (hp:C' p.block) (u:Value):cY C C' a (w.setCell p u):=by
 have l:(w.setCell p u).heap.size=w.heap.size:=by simp[nG]
 refine⟨h.1.setCell ?_ u,λk hk=>by rw[l];exact h.2 k hk⟩;rcases h.2 _ hp with h'|h'
 ·exact .inl h'
 ·exact .inr h'.1
theorem cY.toBelow {C C':Nat->Prop} {B:Nat} {w w':World} (h:cY C C' w w') (hB:B<=w.heap.size) (l:∀k,k<B->¬C k):Below B w w':=h.1.toBelow hB l
theorem J0 {C:Nat->Prop} {w w':World} (h:Below w.heap.size w w'):cY C C w w':=cY.below h
def ji {α:Type} (enc:α->List Value) (e:TypeId) (size:Nat) (v:Value) (L:List α) (C:Nat->Prop) (w:World):Prop :=
 Rw enc w 0 e size v L/\C=(λk=>v.ownBlock=some k)
section
variable {α:Type} {enc:α->List Value} {size:Nat} {e:TypeId} {v:Value} {L:List α} {C:Nat->Prop} {w w':World}
theorem ji.local (h:ji enc e size v L C w) (hk:∀k,C k->w'.heap[k]?=w.heap[k]?):ji enc e size v L C w':=by
 obtain⟨h1,rfl⟩:=h;refine⟨⟨h1.1,?_⟩,rfl⟩;rcases h1.2 with q|⟨g,cap,l,rfl,h5,D,rest⟩
 ·exact .inl q
 ·exact .inr ⟨g,cap,l,rfl,h5,(hk g rfl).trans D,rest⟩
theorem ji.lt (h:ji enc e size v L C w):∀k,C k->k<w.heap.size:=by
 obtain⟨h1,rfl⟩:=h;exact λk hk=>(gj h1 k hk).2
theorem ji.nil:ji enc e size (.slice none 0 0) ([]:List α) (λ_=>False) w:=⟨Rw.nil _ _ _,by funext k;simp[cn]⟩
theorem ji.shape (h:ji enc e size v L C w) : (v=.slice none 0 0/\L=[]/\C=λ_=>False)\/∃g cap,v=.slice (some ⟨g,0,none⟩) L.length cap/\g<w.heap.size/\L.length<=cap/\cap<=maxLen/\C=(λk=>k=g):=by
 obtain⟨h1,rfl⟩:=h;rcases h1.shape with⟨rfl,h2⟩|⟨g,cap,rfl,_,h3,l,h5⟩
 ·exact .inl ⟨rfl,h2,by funext k;simp[cn]⟩
 ·exact .inr ⟨g,cap,rfl,h3,l,h5,by funext k;simp[cn];exact⟨λh=>h.symm,λh=>h.symm⟩⟩
theorem ji.cell {g cap n:Nat} (hz:∀x,(enc x).length=size) (h:ji enc e size (.slice (some ⟨g,0,none⟩) n cap) L C w) (l:n=L.length) {i:Nat} {x:α} (hx:L[i]?=some x) {j:Nat} {u:Value} (hj:j<size) (hu:(enc x)[j]?=some u) : w.cell? ⟨g,i*size+j,none⟩=some u:=by subst l;exact h.1.cell hz hx hj hu
theorem ji.frozen {g cap n:Nat} (h:ji enc e size (.slice (some ⟨g,0,none⟩) n cap) L C w) (l:n=L.length) (j:Nat):w.frozen? ⟨g,j,none⟩=false:=h.1.frozen l j
end
theorem F8 (P:Program) (w:World) (base:Nat) (t ty e:TypeId) (i:TypeInfo) (z:Value) (size bytes:Nat) (ht:P.underlying t=some (.slice e)) (hi:P.info? e=some i) (hz:i.zero=some z) (W:i.size=size) (a2:i.bytes=bytes) (v:Value) (n:Nat) (xs:List Value) (M:w.ownsRow base e size v n xs) (a:Addr) (m c:Nat) (l:List Value) (hl:l.length=m*size) (D:∀j u,l[j]?=some u->w.cell? (a.add j)=some u) (h1:∀u∈l,u.oneCell'=true) (a3:n+m<=maxLen) (H:(n+m)*bytes<=140737488355328) {v':Value} {w':World} (q:(c9 #[t,t] ty #[v,.slice (some a) m c]).run P w=.ok v' w'):∀g,v'.ownBlock=some g->v.ownBlock=some g\/(w.heap.size<=g):=by
 subst W;subst a2;have aw:n+m<=9223372036854775807:=by simp only[maxLen] at a3;omega
 rcases M.2 with⟨rfl,rfl⟩|⟨g,cap,ao,rfl,a6,hg,a4,a5,a1,a0⟩
 ·by_cases hm:m=0
  ·subst hm;have hn:l=[]:=cE (by simpa using hl);subst hn;have h:(c9 #[t,t] ty #[.slice none 0 0,.slice (some a) 0 c]).run P w=.ok (.slice none 0 0) w:=by
    simp[c9,run_underlying ht,sizeOf,typeInfo,hi,kc,mn,loadCells,loadCellsFrom]
   rw[h] at q;cases q;simp[cn]
  ·have hr:=run_append_nil (P:=P) w t ty e i z ht hi hz a m c l hl D z1 z1 (by have hb:=H;simp only[bY] at hb;omega);rw[hr] at q;cases q;intro g hg;simp[cn] at hg;exact .inr z1
 ·by_cases J:n+m<=cap
  ·have ag:n*i.size+l.length<=ao.size:=by rw[hl,a1,<-dC];exact jt _ J
   have hr:=run_append_room (P:=P) w t ty e i ht hi g n cap ao hg a m c l hl D h1 J ag;rw[hr] at q;cases q;intro g' Z;exact .inl (by simpa [cn] using Z)
  ·have holds:∀j u,xs[j]?=some u->w.cell? ((⟨g,0,none⟩:Addr).add j)=some u:=M.cells (g:=g) rfl;have hr:=run_append_grow (P:=P) w t ty e i z ht hi hz ⟨g,0,none⟩ n cap xs M.1 holds a m c l hl D z1 z1 (growslice_fits z1 H);rw[hr] at q;cases q;intro g' Z;simp[cn] at Z;exact .inr z1
theorem QQ (P:Program) (w:World) (base:Nat) (t u ty e:TypeId) (i:TypeInfo) (ht:P.underlying t=some (.slice e)) (hu:P.underlying u=some .string) (hi:P.info? e=some i) (hz:i.zero=some (.int .u8 0)) (q:i.size=1) (M:i.bytes=1) (v:Value) (n:Nat) (xs:List Value) (D:w.ownsRow base e 1 v n xs) (s:V) (a0:n+s.size<=maxLen) (ag:n+s.size<=140737488355328) {v':Value} {w':World} (l:(c9 #[t,u] ty #[v,.string s]).run P w=.ok v' w'):∀g,v'.ownBlock=some g->v.ownBlock=some g\/(w.heap.size<=g):=by
 have Z:n+s.size<=9223372036854775807:=by simp only[maxLen] at a0;omega
 have a2:xs.length=n:=by simpa using D.1
 rcases D.2 with⟨rfl,rfl⟩|⟨g,cap,W,rfl,a5,hg,a3,a4,aw,ao⟩
 ·by_cases hm:s.size=0
  ·have hf:=run_firstCells_string (P:=P) w 1 s;rw[hm] at hf;have hn:strCells s=[]:=cE (by rw[strCells_length];exact hm);have h:(c9 #[t,u] ty #[.slice none 0 0,.string s]).run P w=.ok (.slice none 0 0) w:=by
    simp[c9,run_underlying ht,run_underlying hu,sizeOf,typeInfo,hi,q,kc,hm,hf]
   rw[h] at l;cases l;simp[cn]
  ·have hr:=run_append_nil_string (P:=P) w t u ty e i (.int .u8 0) ht hu hi hz s z1 z1 (by rw[M];omega);rw[hr] at l;cases l;intro g hg;simp[cn] at hg;exact .inr z1
 ·by_cases H:n+s.size<=cap
  ·have a1:W.size=cap:=by simpa using aw
   have hr:=run_append_room_string (P:=P) w t u ty e i ht hu hi q g n cap W hg s H z1;rw[hr] at l;cases l;intro g' J;exact .inl (by simpa [cn] using J)
  ·have holds:∀j u,xs[j]?=some u->w.cell? ((⟨g,0,none⟩:Addr).add j)=some u:=D.cells (g:=g) rfl;have hr:=run_append_grow_string (P:=P) w t u ty e i (.int .u8 0) ht hu hi hz ⟨g,0,none⟩ n cap xs (by rw[q];omega) holds s z1 z1 (growslice_fits z1 (by rw[M];omega));rw[hr] at l;cases l;intro g' J;simp[cn] at J;exact .inr z1
theorem C7 {w w':World} {v l:Value} (hg:w.grownBy w' v.ownBlock) (hb:∀g,l.ownBlock=some g->v.ownBlock=some g\/w.heap.size<=g) (q:∀g,l.ownBlock=some g->g<w'.heap.size) : cY (λk=>v.ownBlock=some k) (λk=>l.ownBlock=some k) w w' :=
 ⟨(Fr.refl _ _).grown hg (λr hr=>.inl hr),λk hk=>(hb k hk).imp id (λh=>⟨h,q k hk⟩)⟩
section
variable {F:Fence} {n:Nat} {P:Program}
theorem QR {α:Type} {enc:α->List Value} {size:Nat} (w:World) (t ty e:TypeId) (i:TypeInfo) (z:Value) (bytes:Nat) (ht:P.underlying t=some (.slice e)) (hi:P.info? e=some i) (hz:i.zero=some z) (q:i.size=size) (W:i.bytes=bytes) (aw:z.cells.size=size) (hsz:0<size) (M:∀x,(enc x).length=size) (h1:∀x,∀u∈enc x,u.oneCell'=true) (v:Value) (L:List α) (C:Nat->Prop) (l:ji enc e size v L C w) (ys:List α) (b c:Nat) (e':TypeId) (fz:Nat×Nat) (hb:w.heap[b]?=some (.cells (ys.flatMap enc).toArray e' fz)) (hn:L.length+ys.length<=2147483648) (H:bytes<=65536) : ∃J w',(c9 #[t,t] ty #[v,.slice (some ⟨b,0,none⟩) ys.length c]).run P w=.ok J w'/\∃C',ji enc e size J (L++ys) C' w'/\cY C C' w w':=by
 obtain⟨l,rfl⟩:=l;have hl:(ys.flatMap enc).length=ys.length*size:=sR M ys;have D:∀j u,(ys.flatMap enc)[j]?=some u->w.cell? ((⟨b,0,none⟩:Addr).add j)=some u:=by
  intro j u hu;have ag:(⟨b,0,none⟩:Addr).add j=⟨b,j,none⟩:=by unfold pu;split<;>simp_all
  rw[ag,qB hb (v:=u) (by simpa using hu)]
 have ao:∀u∈ys.flatMap enc,u.oneCell'=true:=by
  intro u hu;obtain⟨x,hx,hu⟩:=jD.1 hu;exact h1 x u hu
 have Z:(L.length+ys.length)*bytes<=140737488355328:=by
  have:(L.length+ys.length)*bytes<=2147483648*65536:=Nat.mul_le_mul z1 H;omega
 obtain⟨J,w',hr,r1,r2,_⟩:=run_append_own (P:=P) w 0 t ty e i z size bytes ht hi hz q W aw hsz v L.length (L.flatMap enc) l ⟨b,0,none⟩ ys.length c (ys.flatMap enc) hl D ao (by simp[maxLen];omega) Z (bT _);have a0:=F8 P w 0 t ty e i z size bytes ht hi hz q W v L.length (L.flatMap enc) l ⟨b,0,none⟩ ys.length c (ys.flatMap enc) hl D ao (by simp[maxLen];omega) Z hr;have hR:Rw enc w' 0 e size J (L++ys):=by
  unfold Rw;rw[aa,fa];exact r1
 exact⟨J,w',hr,_,⟨hR,rfl⟩,C7 r2 a0 (λg hg=>(gj hR g hg).2)⟩
end
theorem J1 (a b:V):strCells (a++b)=strCells a++strCells b:=by
 unfold strCells;rw[ByteArray.data_append];simp
def mv (e:TypeId) (v:Value) (b:V) (C:Nat->Prop) (w:World):Prop:=w.ownsRow 0 e 1 v b.size (strCells b)/\C=(λk=>v.ownBlock=some k)
section
variable {e:TypeId} {v:Value} {b:V} {C:Nat->Prop} {w w':World}
theorem mv.local (h:mv e v b C w) (hk:∀k,C k->w'.heap[k]?=w.heap[k]?):mv e v b C w':=by
 obtain⟨h1,rfl⟩:=h;refine⟨⟨h1.1,?_⟩,rfl⟩;rcases h1.2 with q|⟨g,cap,l,rfl,h5,D,rest⟩
 ·exact .inl q
 ·exact .inr ⟨g,cap,l,rfl,h5,(hk g rfl).trans D,rest⟩
theorem mv.lt (h:mv e v b C w):∀k,C k->k<w.heap.size:=by
 obtain⟨h1,rfl⟩:=h;exact λk hk=>(gj h1 k hk).2
theorem mv.ext {D l:Nat->Prop} (h:mv e v b C w) (hx:cY D l w w') (hd:∀k,C k->¬D k):mv e v b C w' :=
 h.local (λk hk=>hx.1.keep k (h.lt k hk) (hd k hk))
theorem mv.nil:mv e (.slice none 0 0) ⟨#[]⟩ (λ_=>False) w:=⟨uf w 0 e 1,by funext k;simp[cn]⟩
theorem mv.shape (h:mv e v b C w) : (v=.slice none 0 0/\b=⟨#[]⟩/\C=λ_=>False)\/∃g cap l,v=.slice (some ⟨g,0,none⟩) b.size cap/\g<w.heap.size/\b.size<=cap/\cap<=maxLen/\C=(λk=>k=g)/\w.heap[g]?=some (.cells l e (0,0)):=by
 obtain⟨h1,rfl⟩:=h;rcases h1.2 with⟨rfl,h2⟩|⟨g,cap,l,rfl,h2,h3,q,h5,_⟩
 ·exact .inl ⟨rfl,by apply ByteArray.ext;exact nW h2,by funext k;simp[cn]⟩
 ·exact .inr ⟨g,cap,l,rfl,(dD.1 h3).1,q,h5,by funext k;simp[cn];exact⟨λh=>h.symm,λh=>h.symm⟩,h3⟩
theorem mv.conv {P:Program} (h:mv e v b C w) (src dst:TypeId) (l:P.underlying src=some (.slice e)) (he:P.underlying e=some (.int .u8)) (hd:P.underlying dst=some .string) : (convert src dst v).run P w=.ok (.string b) w:=by
 obtain⟨h,-⟩:=h;rcases h.2 with⟨rfl,h2⟩|⟨g,cap,D,rfl,_,_,_⟩
 ·have hb:b=⟨#[]⟩:=by
   apply ByteArray.ext;exact nW h2
  rw[hb];exact run_convert_nil_bytes w src dst e 0 l he hd
 ·have q:b.data.toList.length=b.size:=by rw[eC];rfl
  have:=run_convert_bytes_back (P:=P) w src dst e ⟨g,0,none⟩ cap b.data.toList l he hd (λj hj=>by
   refine World.ownsRow.cells h rfl j _ ?_;unfold strCells;rw[cx,aJ hj];rfl)
  rw[q] at this;rw[this]
end
section
variable {F:Fence} {n:Nat} {P:Program}
theorem J6 (w:World) (t u ty e:TypeId) (i:TypeInfo) (ht:P.underlying t=some (.slice e)) (hu:P.underlying u=some .string) (hi:P.info? e=some i) (hz:i.zero=some (.int .u8 0)) (q:i.size=1) (H:i.bytes=1) (v:Value) (b:V) (C:Nat->Prop) (l:mv e v b C w) (s:V) (M:b.size+s.size<=140737488355328) : ∃D w',(c9 #[t,u] ty #[v,.string s]).run P w=.ok D w'/\∃C',mv e D (b++s) C' w'/\cY C C' w w':=by
 obtain⟨l,rfl⟩:=l;obtain⟨D,w',hr,r1,r2,_⟩:=run_append_own_string (P:=P) w 0 t u ty e i ht hu hi hz q H v b.size (strCells b) l s (by simp[maxLen];omega) M (bT _);have J:=QQ P w 0 t u ty e i ht hu hi hz q H v b.size (strCells b) l s (by simp[maxLen];omega) M hr;have W:w'.ownsRow 0 e 1 D (b++s).size (strCells (b++s)):=by rw[J1,aM];exact r1
 exact⟨D,w',hr,_,⟨W,rfl⟩,C7 r2 J (λg hg=>(gj W g hg).2)⟩
theorem QS (w:World) {ops:Array Oper} {rest:List Oper} {o:Oper} {a:Act} {Q:Exit->Act->World->Prop} (H:o.guard=none) (sl x:Operand) (t u:TypeId) (W:o.op=.call {callee:=.builtin .append,args:=#[sl,x],argTypes:=#[t,u] }) (e:TypeId) (i:TypeInfo) (ht:P.underlying t=some (.slice e)) (hu:P.underlying u=some .string) (hi:P.info? e=some i) (hz:i.zero=some (.int .u8 0)) (l:i.size=1) (J:i.bytes=1) (v:Value) (b:V) (C:Nat->Prop) (M:a.eval sl=v) (q:mv e v b C w) (s:V) (hx:a.eval x=.string s) (Z:b.size+s.size<=140737488355328) (h:∀D w' C',mv e D (b++s) C' w'->cY C C' w w'->wpList P ops Q rest (a.put o.dst D) w'):wpList P ops Q (o::rest) a w:=by
 refine wpList_plain H λK hK=>?_;obtain⟨D,w',hr,C',h2,h3⟩:=J6 (P:=P) w t u o.type e i ht hu hi hz l J v b C q s Z;unfold Oper.wp execOp;simp only[W,resolve,invoke,builtin,al,jS,cD,fL,au,fm,M,hx,hr];exact hK _ _ (h D w' C' h2 h3)
theorem QT (w:World) (t ty e:TypeId) (i:TypeInfo) (ht:P.underlying t=some (.slice e)) (hi:P.info? e=some i) (hz:i.zero=some (.int .u8 0)) (D:i.size=1) (M:i.bytes=1) (v:Value) (b:V) (C:Nat->Prop) (q:mv e v b C w) (ys:V) (l c:Nat) (e':TypeId) (fz:Nat×Nat) (hb:w.heap[l]?=some (.cells (strCells ys).toArray e' fz)) (hn:b.size+ys.size<=140737488355328) : ∃J w',(c9 #[t,t] ty #[v,.slice (some ⟨l,0,none⟩) ys.size c]).run P w=.ok J w'/\∃C',mv e J (b++ys) C' w'/\cY C C' w w':=by
 obtain⟨q,rfl⟩:=q;have hl:(strCells ys).length=ys.size*1:=by rw[strCells_length];omega
 have H:∀j u,(strCells ys)[j]?=some u->w.cell? ((⟨l,0,none⟩:Addr).add j)=some u:=by
  intro j u hu;have W:(⟨l,0,none⟩:Addr).add j=⟨l,j,none⟩:=by unfold pu;split<;>simp_all
  rw[W,qB hb (v:=u) (by simpa using hu)]
 obtain⟨J,w',hr,r1,r2,_⟩:=run_append_own (P:=P) w 0 t ty e i (.int .u8 0) 1 1 ht hi hz D M rfl z1 v b.size (strCells b) q ⟨l,0,none⟩ ys.size c (strCells ys) hl H (strCells_oneCell ys) (by simp[maxLen];omega) z1 (bT _);have Z:=F8 P w 0 t ty e i (.int .u8 0) 1 1 ht hi hz D M v b.size (strCells b) q ⟨l,0,none⟩ ys.size c (strCells ys) hl H (strCells_oneCell ys) (by simp[maxLen];omega) z1 hr;have hR:w'.ownsRow 0 e 1 J (b++ys).size (strCells (b++ys)):=by rw[J1,aM];exact r1
 exact⟨J,w',hr,_,⟨hR,rfl⟩,C7 r2 Z (λg hg=>(gj hR g hg).2)⟩
def kf (o:Oper):List Nat:=(o.after.toList.filter (Region.binds .any)).map (·.on)
def gU (F:Fence) (n:Nat) (P:Program) (ops:Array Oper) (Q:Exit->Act->World->Prop) (Inv:(Nat->Prop)->Act->World->Prop):List Oper->Nat->Prop
 |[],_=>True
 |o::rest,i=>(∀D a w,¬D i->(∀j∈kf o,D j)->Inv D a w->wpListIn F n P ops (Exit.then (Inv (λj=>D j\/j=i)) Q) [o] a w)/\gU F n P ops Q Inv rest (i+1)
theorem gU.get {ops:Array Oper} {Q:Exit->Act->World->Prop} {Inv:(Nat->Prop)->Act->World->Prop}:∀ {l:List Oper} {k:Nat},gU F n P ops Q Inv l k->∀i o,l[i]?=some o ->
  (∀D a w,¬D (k+i)->(∀j∈kf o,D j)->Inv D a w->wpListIn F n P ops (Exit.then (Inv (λj=>D j\/j=k+i)) Q) [o] a w)
 |[],_,_,i,o,ho=>by simp at ho
 |x::l,k,h,0,o,ho=>by simp at ho;subst ho;exact h.1
 |x::l,k,h,i+1,o,ho=>by
  have:=gU.get h.2 i o (by simpa using ho);rwa [show k+1+i=k+(i+1) by omega] at this
theorem ql {ops:Array Oper} {Q:Exit->Act->World->Prop} {o:Oper} {K H:Act->World->Prop} {a:Act} {w:World} (h:∀a w,K a w->H a w) (l:wpListIn F n P ops (Exit.then K Q) [o] a w):wpListIn F n P ops (Exit.then H Q) [o] a w:=by
 simp only[wpListIn] at l |-
 split
 ·rename_i D;rw[aj D] at l;unfold qU at l |-
  refine⟨l.1,?_⟩;have l:=l.2;generalize (o.semAt F.round a.eval).run P w=r at *;cases r with
  |ok x w'=>
   cases x<;>simp only[iF] at l |- <;>
    first
     |exact h _ _ l
     |exact⟨l.1,mR l.2 (λe q he=>by cases e<;>first | exact h _ _ he | exact he)⟩
     |exact⟨l.1,nX l.2 (λ_ _ he=>h _ _ he)⟩
     |exact⟨l.1,mS l.2 (λe q he=>by cases e<;>first | exact h _ _ he | exact he)⟩
     |exact l
  |halt x w'=>cases x<;>simp only[iF] at l |-<;>exact l
 ·rename_i D;rw[ai D] at l;exact⟨l.1,h _ _ l.2⟩
theorem QU {ops:Array Oper} {Q:Exit->Act->World->Prop} {i:Nat} {o:Oper} {K:Act->World->Prop} {a:Act} {w:World} (H:ops[i]?=some o) (h:wpListIn F n P ops (Exit.then K Q) [o] a w):wpOpIn F n P ops Q i K a w:=by
 unfold wpOpIn;rw[H];simp only[wpListIn] at h;show (if _ then _ else _)
 split
 ·rename_i D;rw[aj D] at h;have l:=h;unfold qU at l |-
  refine⟨l.1,?_⟩;have l:=l.2;generalize (o.semAt F.round a.eval).run P w=r at *;cases r with
  |ok x w'=>
   cases x<;>simp only[iF] at l |- <;>
    first
     |exact l
     |exact⟨l.1,mR l.2 (λe q he=>by cases e<;>exact he)⟩
     |exact⟨l.1,nX l.2 (λ_ _ he=>he)⟩
     |exact⟨l.1,mS l.2 (λe q he=>by cases e<;>exact he)⟩
  |halt x w'=>cases x<;>simp only[iF] at l |-<;>exact l
 ·rename_i D;rw[ai D] at h;exact h
theorem QV (m j:Nat):(gi m false).getD j false=false:=by
 simp only[fW];split<;>simp
theorem J7:∀ (l:List Bool) (i:Nat),l[i]?=some false->((l.set i true).filter id).length=(l.filter id).length+1
 |[],i,h=>by simp at h
 |x::l,0,h=>by simp at h;subst h;simp
 |x::l,i+1,h=>by
  have:=J7 l i (by simpa using h);cases x<;>simp[this]
theorem QW (A:Array Bool) (i:Nat) (l:i<A.size) (h:A.getInternal i l=false):((A.setIfInBounds i true).toList.filter id).length=(A.toList.filter id).length+1:=by
 rw[Array.toList_setIfInBounds];refine J7 _ _ ?_;have q:A[i]=false:=h;simp[l,q]
theorem QX {ops:Array Oper} {Q:Exit->Act->World->Prop} {Inv:(Nat->Prop)->Act->World->Prop} (W:(ops.toList.zipIdx.all λ(o,i)=>(kf o).all λj=>decide (j<i))=true) (a1:gU F n P ops Q Inv ops.toList 0) (J:∀D a w,(∀i<ops.size,D i)->Inv D a w->Q .normal a w):∀ (bN:Nat) (l:Array Bool) (a:Act) (w:World), l.size=ops.size->(ops.size<=bN+(l.toList.filter id).length)->Inv (λj=>l.getD j false=true) a w->wpAnyIn F n P .any ops Q bN l a w:=by
 have ao:∀ (l:Array Bool),l.size=ops.size->Region.ready .any ops l=[]->∀i<ops.size,l.getD i false=true:=by
  intro l hsz hr i
  induction i using Nat.strongRecOn with
  |_ i ih=>
   intro hi;rcases hb:l.getD i false with _|_
   ·exfalso;have a8:l.getD i true=false:=by
     have W:i<l.size:=by omega
     simp only[fW,W,dif_pos] at hb |-
     exact hb
    have:i∈Region.ready .any ops l:=by
     refine mem_ready.2 ⟨a8,ops[i],fp hi,λe he a7=>?_⟩;have h1:=bm.1 W (ops[i],i) (by
      rw[List.mem_zipIdx_iff_getElem?];simp[fp hi])
     have h2:=bm.1 h1 e.on (by
      unfold kf;exact aT.2 ⟨e,cG.2 ⟨by simpa using he,a7⟩,rfl⟩)
     have h3:e.on<i:=by simpa using h2
     exact ih e.on h3 z1
    rw[hr] at this;cases this
   ·rfl
 intro bN
 induction bN with
 |zero=>
  intro l a w hsz hf hi;have a3:(l.toList.filter id).length=l.toList.length:=by
   have:=List.length_filter_le id l.toList;simp only[eC] at *;omega
  have hall:∀b∈l.toList,id b=true:=List.length_filter_eq_length_iff.1 a3;have q:∀i<ops.size,l.getD i false=true:=by
   intro i hi;have H:i<l.size:=by omega
   simp only[fW,H,dif_pos];exact hall _ (by simp)
  refine⟨?_,J _ a w q hi⟩;refine List.eq_nil_iff_forall_not_mem.2 λi hm=>?_;have:=(mem_ready.1 hm).1;have h2:i<ops.size:=by
   obtain⟨o,ho,_⟩:=(mem_ready.1 hm).2;exact (dD.1 ho).1
  have h3:=q i h2;have H:i<l.size:=by omega
  simp only[fW,H,dif_pos] at this h3;have h4:l[i]=false:=this;have h5:l[i]=true:=h3;rw[h4] at h5;cases h5
 |succ bN ih=>
  intro l a w hsz hf hi;refine⟨λhr=>J _ a w (ao l hsz hr) hi,λi hm=>?_⟩;obtain⟨Z,o,ho,a0⟩:=mem_ready.1 hm;have a9:i<ops.size:=(dD.1 ho).1;have H:i<l.size:=by omega
  have a2:¬l.getD i false=true:=by
   simp only[fW,H,dif_pos] at Z |-
   show ¬l[i]=true;have h4:l[i]=false:=Z;rw[h4];simp
  have M:=a1.get i o (by simpa using ho) (λj=>l.getD j false=true) a w (by simpa using a2) (λj hj=>by
   obtain⟨e,he,rfl⟩:=aT.1 (show j∈((o.after.toList.filter (Region.binds .any)).map (·.on)) from hj);obtain⟨a6,a5⟩:=cG.1 he;exact a0 e (by simpa using a6) a5) hi
  refine wpOpIn_mono (λa' w' aw=>?_) (QU ho M);refine ih _ a' w' (by simp[hsz]) ?_ ?_
  ·have h1:=QW l i H (by simpa only[fW,H,dif_pos] using Z);omega
  ·have he:(λj=>(l.setIfInBounds i true).getD j false=true)=(λj=>l.getD j false=true\/j=0+i):=by
    funext j;apply propext;by_cases ag:j=i
    ·subst ag;simp[fW,H]
    ·have a4:i≠j:=λh=>ag h.symm;simp only[bY,ag,or_false];rw[getD_set_ne false a4]
   rw[he];exact aw
theorem C8 {id:Nat} {ops:Array Oper} {Q:Exit->Act->World->Prop} {a:Act} {w:World} (hm:P.follows .mixedOrders=true) (H:(ops.toList.zipIdx.all λ(o,i)=>(kf o).all λj=>decide (j<i))=true) (Inv:(Nat->Prop)->Act->World->Prop) (h0:Inv (λ_=>False) a w.drew) (q:gU F n P ops Q Inv ops.toList 0) (l:∀D a w,(∀i<ops.size,D i)->Inv D a w->Q .normal a w):(Code.region id ops true).wpIn F n P Q a w:=by
 refine wpIn_region_any hm (QX H q l ops.size _ a _ (by simp) z1 ?_);have he:(λj=>(gi ops.size false).getD j false=true)=(λ_=>False):=by
  funext j;rw[QV];simp
 rw[he];exact h0
def Clo (ops:Array Oper) (D:Nat->Prop):Prop:=∀i o,ops[i]?=some o->D i->∀j∈kf o,D j
theorem Clo.add {ops:Array Oper} {D:Nat->Prop} {i:Nat} {o:Oper} (h:Clo ops D) (H:ops[i]?=some o) (hd:∀j∈kf o,D j):Clo ops (λj=>D j\/j=i):=by
 intro k q l hk j hj;rcases hk with hk|rfl
 ·exact .inl (h k q l hk j hj)
 ·rw[H] at l;cases l;exact .inl (hd j hj)
end
structure bG where
 P:(Nat->Prop)->World->Prop
 lt:∀ {C w},P C w->∀k,C k->k<w.heap.size
 loc:∀ {C w w'},P C w->w.heap.size<=w'.heap.size->(∀k,C k->w'.heap[k]?=w.heap[k]?)->P C w'
def cT:bG:=⟨λC _=>∀k,¬C k,λh k hk=>absurd hk (h k),λh _ _=>h⟩
def obj (b:Nat) (o:Obj):bG :=
 ⟨λC w=>(∀k,C k↔k=b)/\w.heap[b]?=some o,λh k hk=>(h.1 k).1 hk▸ny h.2,λh _ hk=>⟨h.1,(hk b ((h.1 b).2 rfl)).trans h.2⟩⟩
def cells (b:Nat) (l:List Value) (t:TypeId):bG:=obj b (.cells l.toArray t (0,0))
def F9 (p:Prop):bG:=⟨λC _=>(∀k,¬C k)/\p,λh k hk=>absurd hk (h.1 k),λh _ _=>h⟩
def aP:List bG->(Nat->Prop)->World->Prop
 |[],C,_=>∀k,¬C k
 |A::L,C,w=>∃C1 C2,A.P C1 w/\aP L C2 w/\(∀k,C1 k->¬C2 k)/\(∀k,C k↔C1 k\/C2 k)
theorem aP.lt:∀ {L:List bG} {C:Nat->Prop} {w:World},aP L C w->∀k,C k->k<w.heap.size
 |[],C,w,h,k,hk=>absurd hk (h k)
 |A::L,C,w,⟨C1,C2,h1,h2,_,h4⟩,k,hk=>by
  rcases (h4 k).1 hk with h|h
  ·exact A.lt h1 k h
  ·exact aP.lt h2 k h
theorem aP.loc:∀ {L:List bG} {C:Nat->Prop} {w w':World},aP L C w->w.heap.size<=w'.heap.size->(∀k,C k->w'.heap[k]?=w.heap[k]?)->aP L C w'
 |[],C,w,w',h,_,_=>h
 |A::L,C,w,w',⟨C1,C2,h1,h2,h3,h4⟩,hs,hk=>
  ⟨C1,C2,A.loc h1 hs (λk h=>hk k ((h4 k).2 (.inl h))),aP.loc h2 hs (λk h=>hk k ((h4 k).2 (.inr h))),h3,h4⟩
theorem aP.congr {L:List bG} {C C':Nat->Prop} {w:World} (h:aP L C w) (hc:∀k,C' k↔C k):aP L C' w:=by
 have:C'=C:=funext λk=>propext (hc k);rw[this];exact h
def iR (L:List bG):bG:=⟨aP L,aP.lt,aP.loc⟩
def aH (L As R:List bG):Prop:=∀C w,aP L C w->∃C1 C2,aP As C1 w/\aP R C2 w/\(∀k,C1 k->¬C2 k)/\(∀k,C k↔C1 k\/C2 k)
theorem aP.take:∀ {L:List bG} {k:Nat} {A:bG} {C:Nat->Prop} {w:World},L[k]?=some A->aP L C w ->
  ∃C1 C2,A.P C1 w/\aP (L.set k cT) C2 w/\(∀k,C1 k->¬C2 k)/\(∀k,C k↔C1 k\/C2 k)
 |B::L,0,A,C,w,hk,⟨C1,C2,h1,h2,h3,h4⟩=>by
  simp at hk;subst hk;exact⟨C1,C2,h1,⟨λ_=>False,C2,λ_ h=>h,h2,λ_ h=>h.elim,λk=>by simp⟩,h3,h4⟩
 |B::L,k+1,A,C,w,hk,⟨C1,C2,h1,h2,h3,h4⟩=>by
  obtain⟨D,l,g1,g2,q,g4⟩:=aP.take (L:=L) (k:=k) (by simpa using hk) h2;refine⟨D,λj=>C1 j\/l j,g1,⟨C1,l,h1,g2,λj h h'=>h3 j h ((g4 j).2 (.inr h')),λj=>Iff.rfl⟩,λj h h'=>?_,λj=>?_⟩
  ·rcases h' with h'|h'
   ·exact h3 j h' ((g4 j).2 (.inl h))
   ·exact q j h h'
  ·rw[h4,g4];exact or_left_comm
theorem aP.put:∀ {L:List bG} {k:Nat} {A:bG} {C1 C2 C:Nat->Prop} {w:World},k<L.length->A.P C1 w->aP (L.set k cT) C2 w->(∀k,C1 k->¬C2 k)->(∀k,C k↔C1 k\/C2 k)->aP (L.set k A) C w
 |B::L,0,A,C1,C2,C,w,hk,hA,⟨D1,D2,g1,g2,g3,g4⟩,h3,h4=>by
  have e:∀k,C2 k↔D2 k:=λk=>by rw[g4];constructor;exact λh=>h.resolve_left (g1 k);exact .inr
  exact⟨C1,C2,hA,g2.congr e,h3,h4⟩
 |B::L,k+1,A,C1,C2,C,w,hk,hA,⟨D1,D2,g1,g2,g3,g4⟩,h3,h4=>by
  refine⟨D1,λj=>C1 j\/D2 j,g1,aP.put (L:=L) (k:=k) (by simpa using hk) hA g2 (λj h h'=>h3 j h ((g4 j).2 (.inr h'))) (λj=>Iff.rfl),λj h h'=>?_,λj=>?_⟩
  ·rcases h' with h'|h'
   ·exact h3 j h' ((g4 j).2 (.inl h))
   ·exact g3 j h h'
  ·rw[h4,g4];exact or_left_comm
theorem aH.nil {L:List bG}:aH L [] L:=λC w h=>⟨λ_=>False,C,λ_ h=>h,h,λ_ h=>h.elim,λk=>by simp⟩
theorem aH.cons {L As R:List bG} {k:Nat} {A:bG} (hk:L[k]?=some A) (h:aH (L.set k cT) As R):aH L (A::As) R:=by
 intro C w hL;obtain⟨C1,C2,h1,h2,h3,q⟩:=aP.take hk hL;obtain⟨l,H,g1,g2,D,g4⟩:=h C2 w h2;refine⟨λj=>C1 j\/l j,H,⟨C1,l,h1,g1,λj h h'=>h3 j h ((g4 j).2 (.inl h')),λj=>Iff.rfl⟩,g2,λj h h'=>?_,λj=>?_⟩
 ·rcases h with h|h
  ·exact h3 j h ((g4 j).2 (.inr h'))
  ·exact D j h h'
 ·rw[q,g4,or_assoc]
theorem QY {L As Bs R:List bG} {k:Nat} (hk:L[k]?=some (iR As)) (h:aH (L.set k cT) Bs R):aH L (As++Bs) R:=by
 intro C w hL;obtain⟨C1,C2,h1,h2,h3,M⟩:=aP.take hk hL;obtain⟨H,D,g1,g2,l,g4⟩:=h C2 w h2;have q:∀ {A B:List bG} {C1 C2:Nat->Prop} {w:World},aP A C1 w->aP B C2 w->(∀k,C1 k->¬C2 k)->aP (A++B) (λk=>C1 k\/C2 k) w:=by
  intro A
  induction A with
  |nil=>intro B C1 C2 w h1 h2 h3;exact h2.congr (λk=>⟨λh=>h.resolve_left (h1 k),.inr⟩)
  |cons A L J=>
   rintro B C1 C2 w ⟨H,D,g1,g2,l,g4⟩ h2 h3;exact⟨H,λk=>D k\/C2 k,g1,J g2 h2 (λk h=>h3 k ((g4 k).2 (.inr h))),λk h h'=>h'.elim (l k h) (h3 k ((g4 k).2 (.inl h))),λk=>by show C1 k\/C2 k↔_;rw[g4,or_assoc]⟩
 refine⟨λj=>C1 j\/H j,D,q h1 g1 (λj h h'=>h3 j h ((g4 j).2 (.inl h'))),g2,λj h h'=>?_,λj=>?_⟩
 ·rcases h with h|h
  ·exact h3 j h ((g4 j).2 (.inr h'))
  ·exact l j h h'
 ·rw[M,g4,or_assoc]
theorem sq {L As:List bG} (k:Nat) (hk:L[k]?=some (iR As)):aH L As (L.set k cT):=by
 have:=QY hk aH.nil;rwa [aE] at this
theorem aH.consS {L As Bs q R:List bG} (h1:aH L As q) (h2:aH q Bs R):aH L (iR As::Bs) R:=by
 intro C w hL;obtain⟨C1,C2,a1,M,l,J⟩:=h1 C w hL;obtain⟨D,W,g1,g2,H,g4⟩:=h2 C2 w M;refine⟨λj=>C1 j\/D j,W,⟨C1,D,a1,g1,λj h h'=>l j h ((g4 j).2 (.inl h')),λj=>Iff.rfl⟩,g2,λj h h'=>?_,λj=>?_⟩
 ·rcases h with h|h
  ·exact l j h ((g4 j).2 (.inr h'))
  ·exact H j h h'
 ·rw[J,g4,or_assoc]
def zU (L:List bG):List Nat->List bG
 |[]=>L
 |k::ks=>zU (L.set k cT) ks
def qm (L:List bG):List Nat->Option (List bG)
 |[]=>some []
 |k::ks=>match L[k]?,qm L ks with
  |some A,some As=>some (A::As)
  |_,_=>none
def tE:List Nat->Bool
 |[]=>true
 |k::ks=>!ks.contains k&&tE ks
theorem Gb {L:List bG} {k:Nat} {B:bG}:∀ {ks:List Nat},ks.contains k=false->qm (L.set k B) ks=qm L ks
 |[],_=>rfl
 |j::ks,h=>by
  simp only[iC,bU] at h;have l:k≠j:=by have:=h.1;simp at this;exact this
  simp only[qm,Gb (ks:=ks) h.2,sL l]
theorem ct {L As:List bG}:∀ (ks:List Nat),qm L ks=some As->tE ks=true->aH L As (zU L ks):=by
 intro ks
 induction ks generalizing L As with
 |nil=>intro h _;simp only[qm,ia] at h;subst h;exact aH.nil
 |cons k ks l=>
  intro h hd;simp only[tE,aN,cX] at hd;simp only[qm] at h;split at h
  ·rename_i A q h1 h2;cases h;exact aH.cons h1 (l (by rw[Gb hd.1];exact h2) hd.2)
  ·cases h
theorem aP.append:∀ {A B:List bG} {C1 C2:Nat->Prop} {w:World},aP A C1 w->aP B C2 w->(∀k,C1 k->¬C2 k)->aP (A++B) (λk=>C1 k\/C2 k) w
 |[],B,C1,C2,w,h1,h2,h3=>h2.congr (λk=>⟨λh=>h.resolve_left (h1 k),.inr⟩)
 |A::L,B,C1,C2,w,⟨D1,D2,g1,g2,g3,g4⟩,h2,h3=>
  ⟨D1,λk=>D2 k\/C2 k,g1,aP.append g2 h2 (λk h=>h3 k ((g4 k).2 (.inr h))),λk h h'=>h'.elim (g3 k h) (h3 k ((g4 k).2 (.inl h))),λk=>by show C1 k\/C2 k↔_;rw[g4,or_assoc]⟩
def Holds (w0:World) (K:Nat->Prop) (L:List bG) (w:World):Prop:=∃C,aP L C w/\cY K C w0 w
section
variable {w0 w w':World} {K:Nat->Prop} {L As R:List bG} {A B:bG} {k:Nat}
theorem Holds.split (h:Holds w0 K L w) (H:aH L As R):∃C1,aP As C1 w/\∀Bs l w',cY C1 l w w'->aP Bs l w'->Holds w0 K (R++Bs) w':=by
 obtain⟨C,hL,hx⟩:=h;obtain⟨C1,C2,h1,h2,h3,q⟩:=H C w hL;refine⟨C1,h1,λBs l w' he hB=>?_⟩;have hsz:=he.1.size;have D:aP R C2 w':=h2.loc hsz (λk hk=>he.1.keep k (h2.lt k hk) (λh=>h3 k h hk));have hd:∀k,C2 k->¬l k:=λk hk h'=>by
  rcases he.2 k h' with h|h
  ·exact h3 k h hk
  ·have:=h2.lt k hk;omega
 refine⟨_,D.append hB hd,hx.1.trans' he.1 (λi hi hc=>?_),λk hk=>?_⟩
 ·rcases hx.2 i ((q i).2 (.inl hc)) with h|h
  ·exact h
  ·omega
 ·have:=hx.1.size;rcases hk with hk|hk
  ·rcases hx.2 k ((q k).2 (.inr hk)) with h|h
   ·exact .inl h
   ·exact .inr z1
  ·rcases he.2 k hk with h|h
   ·rcases hx.2 k ((q k).2 (.inl h)) with h|h
    ·exact .inl h
    ·exact .inr z1
   ·exact .inr z1
theorem Holds.splitX (h:Holds w0 K L w) (H:aH L As R):∃C1,cY K C1 w0 w/\aP As C1 w/\∀Bs l w',cY C1 l w w'->aP Bs l w'->Holds w0 K (R++Bs) w':=by
 obtain⟨C,hL,hx⟩:=h;obtain⟨C1,C2,h1,h2,h3,q⟩:=H C w hL;refine⟨C1,⟨hx.1,λk hk=>hx.2 k ((q k).2 (.inl hk))⟩,h1,λBs l w' he hB=>?_⟩;have hsz:=he.1.size;have D:aP R C2 w':=h2.loc hsz (λk hk=>he.1.keep k (h2.lt k hk) (λh=>h3 k h hk));have hd:∀k,C2 k->¬l k:=λk hk h'=>by
  rcases he.2 k h' with h|h
  ·exact h3 k h hk
  ·have:=h2.lt k hk;omega
 refine⟨_,D.append hB hd,hx.1.trans' he.1 (λi hi hc=>?_),λk hk=>?_⟩
 ·rcases hx.2 i ((q i).2 (.inl hc)) with h|h
  ·exact h
  ·omega
 ·have:=hx.1.size;rcases hk with hk|hk
  ·rcases hx.2 k ((q k).2 (.inr hk)) with h|h
   ·exact .inl h
   ·exact .inr z1
  ·rcases he.2 k hk with h|h
   ·rcases hx.2 k ((q k).2 (.inl h)) with h|h
    ·exact .inl h
    ·exact .inr z1
   ·exact .inr z1
theorem Holds.focus (h:Holds w0 K L w) (hk:L[k]?=some A):∃C1,A.P C1 w/\∀B l w',cY C1 l w w'->B.P l w'->Holds w0 K (L.set k B) w':=by
 obtain⟨C,hL,hx⟩:=h;obtain⟨C1,C2,h1,h2,h3,D⟩:=aP.take hk hL;refine⟨C1,h1,λB l w' he hB=>?_⟩;have q:k<L.length:=(aq.1 hk).1;have hsz:=he.1.size;have H:aP (L.set k cT) C2 w':=h2.loc hsz (λk hk=>he.1.keep k (h2.lt k hk) (λh=>h3 k h hk));have hd:∀k,l k->¬C2 k:=λk h' hk=>by
  rcases he.2 k h' with h|h
  ·exact h3 k h hk
  ·have:=h2.lt k hk;omega
 refine⟨_,aP.put q hB H hd (λk=>Iff.rfl),hx.1.trans' he.1 (λi hi hc=>?_),λk hk=>?_⟩
 ·rcases hx.2 i ((D i).2 (.inl hc)) with h|h
  ·exact h
  ·omega
 ·have:=hx.1.size;rcases hk with hk|hk
  ·rcases he.2 k hk with h|h
   ·rcases hx.2 k ((D k).2 (.inl h)) with h|h
    ·exact .inl h
    ·exact .inr z1
   ·exact .inr z1
  ·rcases hx.2 k ((D k).2 (.inr hk)) with h|h
   ·exact .inl h
   ·exact .inr z1
theorem Holds.obj {b:Nat} {o:Obj} (h:Holds w0 K L w) (hk:L[k]?=some (obj b o)):w.heap[b]?=some o:=by
 obtain⟨C1,h1,_⟩:=h.focus hk;exact h1.2
theorem Holds.cell {b j:Nat} {l:List Value} {t:TypeId} {v:Value} (h:Holds w0 K L w) (hk:L[k]?=some (cells b l t)) (hj:l[j]?=some v):w.cell? ⟨b,j,none⟩=some v :=
 qB (h.obj hk) (by simpa using hj)
theorem Holds.drew (h:Holds w0 K L w):Holds w0 K L w.drew:=by
 obtain⟨C,h1,h2⟩:=h;exact⟨C,h1.loc (aS _) (λ_ _=>rfl),h2.drew⟩
theorem Holds.grow {Bs:List bG} {C':Nat->Prop} (h:Holds w0 K L w) (hx:cY (λ_=>False) C' w w') (hB:aP Bs C' w'):Holds w0 K (L++Bs) w':=by
 obtain⟨C1,h1,h2⟩:=h.split (aH.nil (L:=L));exact h2 Bs C' w' (by
  have:C1=λ_=>False:=funext λk=>propext ⟨λh=>absurd h (h1 k),λh=>h.elim⟩;rw[this];exact hx) hB
theorem aP.one {C:Nat->Prop} (h:A.P C w):aP [A] C w:=⟨C,λ_=>False,h,λ_ h=>h,λ_ _ h=>h,λk=>by simp⟩
theorem Holds.alloc (h:Holds w0 K L w) (o:Obj):Holds w0 K (L++[Go.Proofs.YtncjnoakkghmmaaGreatDoor.obj w.heap.size o]) (w.alloc o):=by
 refine h.grow (C':=λk=>k=w.heap.size) ⟨(Fr.refl _ _).alloc _,λk hk=>.inr ⟨by omega,by simp;omega⟩⟩ (aP.one ⟨λk=>Iff.rfl,fQ w o⟩)
theorem Holds.setCell {b j:Nat} {l l':List Value} {t:TypeId} {v:Value} (h:Holds w0 K L w) (hk:L[k]?=some (cells b l t)) (q:l.set j v=l'):Holds w0 K (L.set k (cells b l' t)) (w.setCell ⟨b,j,none⟩ v):=by
 obtain⟨C1,h1,h2⟩:=h.focus hk;refine h2 _ C1 _ ((cY.refl _ _).setCell ((h1.1 b).2 rfl) v) ⟨h1.1,?_⟩;subst q;have:=h1.2;simp[nG,this,Array.getElem?_modify]
theorem Holds.weaken {L':List bG} (h:Holds w0 K L w) (l:aH L L' R):Holds w0 K L' w:=by
 obtain⟨C,hL,hx⟩:=h;obtain⟨C1,C2,h1,h2,h3,q⟩:=l C w hL;exact⟨C1,h1,hx.1,λk hk=>hx.2 k ((q k).2 (.inl hk))⟩
def rr (A B:bG):Prop:=∀C w,A.P C w->B.P C w
theorem Holds.ent (h:Holds w0 K L w) (hk:L[k]?=some A) (he:rr A B):Holds w0 K (L.set k B) w:=by
 obtain⟨C1,h1,h2⟩:=h.focus hk;exact h2 B C1 w (cY.refl _ _) (he _ _ h1)
theorem Holds.rewE {l:bG} (h:Holds w0 K L w) (hk:L[k]?=some A) (he:A=l):Holds w0 K (L.set k l) w:=by
 subst he;obtain⟨C1,h1,h2⟩:=h.focus hk;exact h2 A C1 w (cY.refl _ _) h1
theorem Holds.starCons {j:Nat} {X:List bG} (h:Holds w0 K L w) (hk:L[k]?=some A) (hj:L[j]?=some (iR X)) (q:k≠j):Holds w0 K ((L.set k cT).set j (iR (A::X))) w:=by
 obtain⟨C,hL,hx⟩:=h;obtain⟨C1,C2,h1,h2,h3,H⟩:=aP.take hk hL;have l:(L.set k cT)[j]?=some (iR X):=by rw[sL q];exact hj
 obtain⟨D,M,g1,g2,J,g4⟩:=aP.take l h2;refine⟨C,aP.put (C1:=λi=>C1 i\/D i) (C2:=M) (aq.1 l).1 ⟨C1,D,h1,g1,λi a b=>h3 i a ((g4 i).2 (.inl b)),λi=>Iff.rfl⟩ g2 (λi a b=>?_) (λi=>?_),hx⟩
 ·rcases a with a|a
  ·exact h3 i a ((g4 i).2 (.inr b))
  ·exact J i a b
 ·rw[H,g4,or_assoc]
theorem Holds.star0 (h:Holds w0 K L w):Holds w0 K (L++[iR []]) w:=by
 obtain⟨C,hL,hx⟩:=h;exact⟨_,hL.append (aP.one (A:=iR []) (C:=λ_=>False) (λ_ h=>h)) (λ_ _ h=>h),hx.1,λk hk=>hx.2 k (hk.resolve_right (λh=>h))⟩
end
def At (N:Nat) (dfs:List Deferred) (σ:List (Nat×Value)) (a:Act):Prop:=a.tmps.size=N/\a.defers=dfs/\∀t v,σ.lookup t=some v->a.tmps.getD t undef=v
def ev (σ:List (Nat×Value)):Operand->Option Value
 |.tmp t=>σ.lookup t
 |.const v=>some v
 |.func f=>some (.func (.func f) #[] #[])
 |.global _=>none
theorem At.ev {N:Nat} {dfs:List Deferred} {σ:List (Nat×Value)} {a:Act} (h:At N dfs σ a) {x:Operand} {v:Value} (hx:ev σ x=some v):a.eval x=v:=by
 cases x<;>simp[Go.Proofs.YtncjnoakkghmmaaGreatDoor.ev] at hx
 ·exact h.2.2 _ _ hx
 ·exact hx
 ·exact hx
theorem At.put {N:Nat} {dfs:List Deferred} {σ:List (Nat×Value)} {a:Act} (h:At N dfs σ a) {d:Nat} (hd:d<N) (v:Value):At N dfs ((d,v)::σ) (a.put (some d) v):=by
 refine⟨by simp[Act.put,h.1],h.2.1,λt u ht=>?_⟩;simp only[eI] at ht;split at ht
 ·rename_i e;have:t=d:=by simpa using e
  subst this;cases ht;have h1:=h.1;simp[Act.put,fW,h1,hd]
 ·rename_i e;have:t≠d:=by simpa using e
  rw[<-h.2.2 t u ht];have D:¬d=t:=λh=>this h.symm;show (a.tmps.setIfInBounds d v).getD t undef=_;by_cases q:t<a.tmps.size
  ·have l:t<(a.tmps.setIfInBounds d v).size:=by simpa using q
   unfold fW;rw[dif_pos l,dif_pos q];show (a.tmps.setIfInBounds d v)[t]=a.tmps[t];exact Array.getElem_setIfInBounds_ne q D
  ·have l:¬t<(a.tmps.setIfInBounds d v).size:=by simpa using q
   unfold fW;rw[dif_neg l,dif_neg q]
def sr (σ σ':List (Nat×Value)):Prop:=∀a N dfs,At N dfs σ a->At N dfs σ' a
theorem ss {σ:List (Nat×Value)}:sr σ []:=λa N dfs h=>⟨h.1,h.2.1,λt v ht=>by cases ht⟩
theorem Gc {σ σ':List (Nat×Value)} {t:Nat} {v:Value} (h:σ.lookup t=some v) (l:sr σ σ'):sr σ ((t,v)::σ'):=λa N dfs ha=>by
 refine⟨ha.1,ha.2.1,λs u hu=>?_⟩;simp only[eI] at hu;split at hu
 ·rename_i e;have:s=t:=by simpa using e
  subst this;cases hu;exact ha.2.2 _ _ h
 ·exact (l a N dfs ha).2.2 s u hu
theorem J8 {σ:List (Nat×Value)}:sr σ σ:=λa N dfs h=>h
class bA (F:Fence):Prop where
 fn:∀f,F.fn f
 depth:F.depth=none
 calls:∀ {P:Program} {f:FuncId} {args:Array Value} {w:World} {R:Ending->World->Prop},Calls P f args w R->CallsIn F 0 P f args w R
 rounds:∀ {P:Program} {l:Nat} {f:FuncId} {tmps:Array Value} {assign body:Code} {w:World} {R:Ending->World->Prop},RoundIn bK 0 P l f tmps assign body w R->RoundIn F 0 P l f tmps assign body w R
instance:bA bK:=⟨λ_=>trivial,rfl,λh=>callsIn_wide.2 h,λh=>h⟩
instance (l:Nat):bA (Fence.wide.inRound l):=⟨λ_=>trivial,rfl,λh=>CallsIn.inRound l (callsIn_wide.2 h),λh=>h⟩
def TO (F:Fence) (P:Program) (w0:World) (K:Nat->Prop) (N:Nat) (dfs:List Deferred) (ops:Array Oper) (Q:Exit->Act->World->Prop) (rest:List Oper) (σ:List (Nat×Value)) (L:List bG):Prop :=
 ∀a w,At N dfs σ a->Holds w0 K L w->wpListIn F 0 P ops Q rest a w
def TC (F:Fence) (P:Program) (w0:World) (K:Nat->Prop) (N:Nat) (dfs:List Deferred) (Q:Exit->Act->World->Prop) (c:Code) (σ:List (Nat×Value)) (L:List bG):Prop :=
 ∀a w,At N dfs σ a->Holds w0 K L w->c.wpIn F 0 P Q a w
def TX (w0:World) (K:Nat->Prop) (N:Nat) (dfs:List Deferred) (Q:Exit->Act->World->Prop) (e:Exit) (σ:List (Nat×Value)) (L:List bG):Prop :=
 ∀a w,At N dfs σ a->Holds w0 K L w->Q e a w
def St (w0:World) (K:Nat->Prop) (N:Nat) (dfs:List Deferred) (σ:List (Nat×Value)) (L:List bG) (a:Act) (w:World):Prop:=At N dfs σ a/\Holds w0 K L w
def gd (ops:Array Oper) (σ:List (Nat×Value)):Option (Nat×Bool)->Option Bool
 |none=>some true
 |some (j,b)=>match (ops[j]?).bind (·.dst) with
  |some t=>match σ.lookup t with
   |some (.bool c)=>some (c==b)
   |some (.tuple _)=>some false
   |_=>none
  |none=>none
def mW (P:Program) (t:TypeId):Prop:=∃d,P.underlying t=some d/\d.isRow=false
def qC (P:Program) (t:TypeId) (n:Nat):Prop:=∃d,P.underlying t=some d/\d.isRow=true/\(P.info? t).map (·.size)=some n
def bI (P:Program) (t:TypeId) (n:Nat):Prop:=(P.info? t).map (·.size)=some n
def cC (P:Program) (t:TypeId) (cs:List Value):Prop:=(P.info? t).bind (λi=>i.zero.map (·.cells.toList))=some cs
def kE (P:Program) (t:TypeId) (f off:Nat):Prop:=∃fs l,P.underlying t=some (.struct fs)/\fs[f]?=some l/\l.offset=off/\(P.info? l.type).map (λi=>i.size != 0)=some true
theorem bI.some {P:Program} {t:TypeId} {n:Nat} (h:bI P t n):∃i,P.info? t=some i/\i.size=n:=by
 unfold bI at h;cases hi:P.info? t with
 |none=>simp[hi] at h
 |some i=>exact⟨i,rfl,by simpa [hi] using h⟩
theorem cC.some {P:Program} {t:TypeId} {cs:List Value} (h:cC P t cs):∃i z,P.info? t=some i/\i.zero=some z/\z.cells.toList=cs:=by
 unfold cC at h;cases hi:P.info? t with
 |none=>simp[hi] at h
 |some i=>
  cases hz:i.zero with
  |none=>simp[hi,hz] at h
  |some z=>exact⟨i,z,rfl,hz,by simpa [hi,hz] using h⟩
section
variable {F:Fence} {P:Program} {w0:World} {K:Nat->Prop} {N:Nat} {dfs:List Deferred} {ops:Array Oper} {Q:Exit->Act->World->Prop} {rest:List Oper} {σ σ':List (Nat×Value)} {L L' R As Bs:List bG} {o:Oper} {v:Value}
 {d:Nat} {t:TypeId} {op:Op} {ty:TypeId} {pos:String} {aft:Array Edge} {g:Option (Nat×Bool)} {x y z:Operand} {c c1 c2:Code} {k:Nat} {A B:bG}
theorem J9 {a:Act} {N:Nat} (q:a.tmps.size=N) {t:Nat} {b:Bool} (h:a.tmps.getD t undef=.bool b):a.tmps[t]?=some (.bool b):=by
 unfold fW at h;split at h
 ·rename_i l;have h':a.tmps[t]=.bool b:=h;simp[l,h']
 ·simp[undef] at h
theorem wv {a:Act} (ha:At N dfs σ a) (hg:gd ops σ o.guard=some true):mo o (yielded ops a.tmps)=true:=by
 unfold gd at hg;unfold mo;split at hg
 ·rename_i e;rw[e]
 ·rename_i j b e;rw[e];split at hg
  ·rename_i t ht;split at hg
   ·rename_i c hc;simp only[ia] at hg;have l:c=b:=by simpa using hg
    subst l;have h1:=J9 ha.1 (ha.2.2 _ _ hc);simp[yielded,ht,h1]
   ·cases hg
   ·cases hg
  ·cases hg
theorem QZ {a:Act} {t:Nat} {vs:Array Value} (h:a.tmps.getD t undef=.tuple vs):∀b,a.tmps[t]?≠some (.bool b):=by
 intro b hb;rw[o6,hb] at h;cases h
theorem Q0 {a:Act} (ha:At N dfs σ a) (hg:gd ops σ o.guard=some false):mo o (yielded ops a.tmps)=false:=by
 unfold gd at hg;unfold mo;split at hg
 ·cases hg
 ·rename_i j b e;rw[e];split at hg
  ·rename_i t ht;split at hg
   ·rename_i c hc;simp only[ia] at hg;have h1:=J9 ha.1 (ha.2.2 _ _ hc);simp[yielded,ht,h1];simpa using hg
   ·rename_i vs hc;have h1:=QZ (ha.2.2 _ _ hc);have h2:yielded ops a.tmps j=none:=by
     unfold yielded;rw[ht];show (match a.tmps[t]? with | some (.bool b)=>some b | _=>none)=none
     split
     ·rename_i b h3;exact absurd h3 (h1 b)
     ·rfl
    simp[h2]
   ·cases hg
  ·cases hg
theorem pD [bA F] (hg:gd ops σ o.guard=some true) (hnd:∀c,o.op≠.defer c) (h:∀a w,At N dfs σ a->Holds w0 K L w->∃v w',(execOp a.eval o).run P w=.ok (.value v) w'/\wpListIn F 0 P ops Q rest (a.put o.dst v) w'):TO F P w0 K N dfs ops Q (o::rest) σ L:=by
 intro a w ha l;obtain⟨v,w',h1,h2⟩:=h a w ha l;simp only[wpListIn,wv ha hg,if_true];refine⟨λf _=>bA.fn f,?_⟩;rw[jf F _ _ hnd,h1];exact h2
theorem C9 [bA F] (hg:gd ops σ o.guard=some true) (hnd:∀c,o.op≠.defer c) (h:∀a w,At N dfs σ a->Holds w0 K L w->∃w',(execOp a.eval o).run P w=.ok .skip w'/\wpListIn F 0 P ops Q rest (a.put o.dst undef) w'):TO F P w0 K N dfs ops Q (o::rest) σ L:=by
 intro a w ha l;obtain⟨w',h1,h2⟩:=h a w ha l;simp only[wpListIn,wv ha hg,if_true];refine⟨λf _=>bA.fn f,?_⟩;rw[jf F _ _ hnd,h1];exact h2
theorem kJ [bA F] (hg:gd ops σ g=some true) (hd:d<N) (hnd:∀c,op≠.defer c) (hr:∀a w,At N dfs σ a->Holds w0 K L w->(execOp a.eval ⟨some d,op,ty,pos,aft,g⟩).run P w=.ok (.value v) w) (h:TO F P w0 K N dfs ops Q rest ((d,v)::σ) L):TO F P w0 K N dfs ops Q (⟨some d,op,ty,pos,aft,g⟩::rest) σ L :=
 pD hg hnd λa w ha l=>⟨v,w,hr a w ha l,h _ _ (ha.put hd v) l⟩
theorem Q1 [bA F] (hg:gd ops σ g=some false) (hd:d<N) (h:TO F P w0 K N dfs ops Q rest ((d,undef)::σ) L):TO F P w0 K N dfs ops Q (⟨some d,op,ty,pos,aft,g⟩::rest) σ L:=by
 intro a w ha l;simp only[wpListIn,Q0 (o:=⟨some d,op,ty,pos,aft,g⟩) ha hg];exact⟨λf _=>bA.fn f,h _ _ (ha.put hd undef) l⟩
theorem bC (h:TX w0 K N dfs Q .normal σ L):TO F P w0 K N dfs ops Q [] σ L:=λa w ha l=>h a w ha l
theorem Kf (q:sr σ σ') (h:TO F P w0 K N dfs ops Q rest σ' L):TO F P w0 K N dfs ops Q rest σ L:=λa w ha l=>h a w (q _ _ _ ha) l
variable (k) in
theorem su (hk:L[k]?=some A) (he:rr A B) (h:TO F P w0 K N dfs ops Q rest σ (L.set k B)):TO F P w0 K N dfs ops Q rest σ L:=λa w ha l=>h a w ha (l.ent hk he)
theorem Q2 (hk:L[k]?=some A) (he:rr A B) (h:TC F P w0 K N dfs Q c σ (L.set k B)):TC F P w0 K N dfs Q c σ L:=λa w ha l=>h a w ha (l.ent hk he)
theorem sv [bA F] (hg:gd ops σ g=some true) (hd:d<N) (hx:ev σ x=some v) (h:TO F P w0 K N dfs ops Q rest ((d,v)::σ) L):TO F P w0 K N dfs ops Q (⟨some d,.move x,ty,pos,aft,g⟩::rest) σ L :=
 kJ hg hd (by simp) (λa w ha l=>by simp[execOp,ha.ev hx]) h
theorem Q3 [bA F] (hg:gd ops σ g=some true) (hd:d<N) (hx:ev σ x=some v) (h:TO F P w0 K N dfs ops Q rest ((d,v)::σ) L):TO F P w0 K N dfs ops Q (⟨some d,.assign x,ty,pos,aft,g⟩::rest) σ L :=
 kJ hg hd (by simp) (λa w ha l=>by simp[execOp,ha.ev hx]) h
theorem Ks [bA F] (b:Bool) (hg:gd ops σ g=some true) (hd:d<N) (hc:ev σ x=some (.bool b)) (hv:ev σ (if b then y else z)=some v) (h:TO F P w0 K N dfs ops Q rest ((d,v)::σ) L) :
  TO F P w0 K N dfs ops Q (⟨some d,.pick x y z,ty,pos,aft,g⟩::rest) σ L :=
 kJ hg hd (by simp) (λa w ha l=>by
  have h1:=ha.ev hc;have h2:=ha.ev hv;cases b<;>simp_all [execOp,asBool]) h
theorem jX [bA F] {b:BinOp} {l:TypeId} {v1 v2:Value} (hg:gd ops σ g=some true) (hd:d<N) (hx:ev σ x=some v1) (hy:ev σ y=some v2) (hb:∀w:World,(do eqGuard b t x y v1 v2;binOp b t v1 v2:Sem Value).run P w=.ok v w) (h:TO F P w0 K N dfs ops Q rest ((d,v)::σ) L) : TO F P w0 K N dfs ops Q (⟨some d,.binOp b t x y l,ty,pos,aft,g⟩::rest) σ L :=
 kJ hg hd (by simp) (λa w ha q=>by
  have:=hb w;simp only[execOp,ha.ev hx,ha.ev hy,al] at this |-
  rw[this];rfl) h
theorem lh [bA F] {b:UnOp} {v1:Value} (hg:gd ops σ g=some true) (hd:d<N) (hx:ev σ x=some v1) (hb:∀w:World,(Op.unary b v1).run P w=.ok v w) (h:TO F P w0 K N dfs ops Q rest ((d,v)::σ) L) : TO F P w0 K N dfs ops Q (⟨some d,.unOp b t x,ty,pos,aft,g⟩::rest) σ L :=
 kJ hg hd (by simp) (λa w ha l=>by
  simp only[execOp,ha.ev hx,al,hb w];rfl) h
theorem jI [bA F] {s:TypeId} {v1:Value} (hg:gd ops σ g=some true) (hd:d<N) (hx:ev σ x=some v1) (hb:∀w:World,(convert s t v1).run P w=.ok v w) (h:TO F P w0 K N dfs ops Q rest ((d,v)::σ) L) : TO F P w0 K N dfs ops Q (⟨some d,.convert s t x,ty,pos,aft,g⟩::rest) σ L :=
 kJ hg hd (by simp) (λa w ha l=>by
  simp only[execOp,ha.ev hx,al,hb w];rfl) h
theorem ci [bA F] {b off l:Nat} {f fo:Nat} (hf:kE P t f fo) (hg:gd ops σ g=some true) (hd:d<N) (hx:ev σ x=some (.pointer (some ⟨b,off,none⟩))) (D:off+fo=l) (h:TO F P w0 K N dfs ops Q rest ((d,.pointer (some ⟨b,l,none⟩))::σ) L) : TO F P w0 K N dfs ops Q (⟨some d,.fieldAddr t x f,ty,pos,aft,g⟩::rest) σ L:=by
 subst D;obtain⟨fs,q,hu,hf,rfl,hz⟩:=hf;obtain⟨i,hi,hz⟩:∃i,P.info? q.type=some i/\i.size≠0:=by
  cases hi:P.info? q.type with
  |none=>simp[hi] at hz
  |some i=>exact⟨i,rfl,by simpa [hi] using hz⟩
 refine kJ hg hd (by simp) (λa w ha H=>?_) h;simp[execOp,ha.ev hx,Instr.fieldAt,al,run_underlying hu,hf,fq,fieldPlace,sizeOf,typeInfo,hi,hz,jM]
theorem fF [bA F] {f:Nat} {vs:Array Value} (hg:gd ops σ g=some true) (hd:d<N) (hx:ev σ x=some (.tuple vs)) (hv:vs[f]?=some v) (h:TO F P w0 K N dfs ops Q rest ((d,v)::σ) L) : TO F P w0 K N dfs ops Q (⟨some d,.extract x f,ty,pos,aft,g⟩::rest) σ L :=
 kJ hg hd (by simp) (λa w ha l=>by simp[execOp,ha.ev hx,Instr.extract,hv]) h
theorem oI [bA F] {v1 v2:Value} (hg:gd ops σ g=some true) (hd:d<N) (hx:ev σ x=some v1) (hy:ev σ y=some v2) (hb:∀w:World,(ki t v1 v2).run P w=.ok v w) (h:TO F P w0 K N dfs ops Q rest ((d,v)::σ) L) : TO F P w0 K N dfs ops Q (⟨some d,.index t x y,ty,pos,aft,g⟩::rest) σ L :=
 kJ hg hd (by simp) (λa w ha l=>by simp only[execOp,ha.ev hx,ha.ev hy,al,hb w];rfl) h
def evO (σ:List (Nat×Value)):Option Operand->Option (Option Value)
 |none=>some none
 |some x=>(ev σ x).map some
theorem At.evO {a:Act} (h:At N dfs σ a) {x:Option Operand} {v:Option Value} (hx:evO σ x=some v):x.map a.eval=v:=by
 cases x with
 |none=>simpa [Go.Proofs.YtncjnoakkghmmaaGreatDoor.evO] using hx
 |some x=>
  simp only[Go.Proofs.YtncjnoakkghmmaaGreatDoor.evO,da] at hx;obtain⟨u,hu,rfl⟩:=hx;simp[h.ev hu]
theorem jj [bA F] {v1:Value} {lo hi:Option Operand} {D hv:Option Value} (hg:gd ops σ g=some true) (hd:d<N) (hx:ev σ x=some v1) (l:evO σ lo=some D) (q:evO σ hi=some hv) (hb:∀w:World,(iG t v1 D hv none).run P w=.ok v w) (h:TO F P w0 K N dfs ops Q rest ((d,v)::σ) L) : TO F P w0 K N dfs ops Q (⟨some d,.slice t x lo hi none,ty,pos,aft,g⟩::rest) σ L :=
 kJ hg hd (by simp) (λa w ha H=>by simp only[execOp,ha.ev hx,ha.evO l,ha.evO q,Option.map_none,al,hb w];rfl) h
def evP (σ:List (Nat×Value)):List (Nat×Operand)->Option (List (Nat×Value))
 |[]=>some []
 |(i,x)::r=>match ev σ x,evP σ r with
  |some v,some l=>some ((i,v)::l)
  |_,_=>none
theorem At.evP {a:Act} (h:At N dfs σ a):∀ {ps:List (Nat×Operand)} {vs:List (Nat×Value)},evP σ ps=some vs->ps.map (λ(i,x)=>(i,a.eval x))=vs
 |[],vs,hx=>by simpa [Go.Proofs.YtncjnoakkghmmaaGreatDoor.evP] using hx
 |(i,x)::r,vs,hx=>by
  simp only[Go.Proofs.YtncjnoakkghmmaaGreatDoor.evP] at hx;split at hx
  ·rename_i v l h1 h2;cases hx;simp[h.ev h1,At.evP h h2]
  ·cases hx
def evL (σ:List (Nat×Value)):List Operand->Option (List Value)
 |[]=>some []
 |x::r=>match ev σ x,evL σ r with
  |some v,some l=>some (v::l)
  |_,_=>none
theorem At.evL {a:Act} (h:At N dfs σ a):∀ {ps:List Operand} {vs:List Value},evL σ ps=some vs->ps.map a.eval=vs
 |[],vs,hx=>by simpa [Go.Proofs.YtncjnoakkghmmaaGreatDoor.evL] using hx
 |x::r,vs,hx=>by
  simp only[Go.Proofs.YtncjnoakkghmmaaGreatDoor.evL] at hx;split at hx
  ·rename_i v l h1 h2;cases hx;simp[h.ev h1,At.evL h h2]
  ·cases hx
variable (v) in
theorem fH [bA F] (ps:List (Nat×Operand)) {vs:List (Nat×Value)} (hg:gd ops σ g=some true) (hd:d<N) (hx:evP σ ps=some vs) (hb:∀w:World,(Instr.build t vs.toArray).run P w=.ok v w) (h:TO F P w0 K N dfs ops Q rest ((d,v)::σ) L) : TO F P w0 K N dfs ops Q (⟨some d,.build t ps.toArray,ty,pos,aft,g⟩::rest) σ L :=
 kJ hg hd (by simp) (λa w ha l=>by
  have:=hb w;simp only[execOp,fL,ha.evP hx,al,this];rfl) h
theorem xC [bA F] {fn:Fn} (x1 x2:List Operand) {q l:List Value} (hg:gd ops σ g=some true) (hd:d<N) (h1:evL σ x1=some q) (h2:evL σ x2=some l) (h:TO F P w0 K N dfs ops Q rest ((d,.func fn q.toArray l.toArray)::σ) L) : TO F P w0 K N dfs ops Q (⟨some d,.makeFunc fn x1.toArray x2.toArray,ty,pos,aft,g⟩::rest) σ L :=
 kJ hg hd (by simp) (λa w ha D=>by simp[execOp,Instr.makeFunc,ha.evL h1,ha.evL h2]) h
theorem iS [bA F] {a0:Addr} (hg:gd ops σ g=some true) (hd:d<N) (hx:ev σ x=some (.pointer (some a0))) (h:TO F P w0 K N dfs ops Q rest ((d,.pointer (some a0))::σ) L) : TO F P w0 K N dfs ops Q (⟨some d,.nilCheck x,ty,pos,aft,g⟩::rest) σ L :=
 kJ hg hd (by simp) (λa w ha l=>by simp[execOp,ha.ev hx]) h
theorem lE [bA F] (hg:gd ops σ g=some true) (hd:d<N) (hx:ev σ x=some v) (h:∀b,TO F P w0 K N dfs ops Q rest ((d,.pointer (some ⟨b,0,none⟩))::σ) (L++[cells b v.cells.toList t])):TO F P w0 K N dfs ops Q (⟨some d,.box t x,ty,pos,aft,g⟩::rest) σ L :=
 pD hg (by simp) λa w ha l=>⟨.pointer (some ⟨w.heap.size,0,none⟩),w.alloc (.cells v.cells t),by simp[execOp,ha.ev hx,Instr.box,newVar,newRow,al],h _ _ _ (ha.put hd _) (by simpa [cells] using l.alloc (.cells v.cells t (0,0)))⟩
theorem Kz [bA F] (l:∀w,Holds w0 K L w->v.oneCell'=true) (hg:gd ops σ g=some true) (hd:d<N) (hx:ev σ x=some v) (h:∀b,TO F P w0 K N dfs ops Q rest ((d,.pointer (some ⟨b,0,none⟩))::σ) (L++[cells b [v] t])):TO F P w0 K N dfs ops Q (⟨some d,.box t x,ty,pos,aft,g⟩::rest) σ L :=
 pD hg (by simp) λa w ha D=>⟨.pointer (some ⟨w.heap.size,0,none⟩),w.alloc (.cells v.cells t),by simp[execOp,ha.ev hx,Instr.box,newVar,newRow,al],h _ _ _ (ha.put hd _) (by
  have q:v.cells=#[v]:=by have:=l w D;cases v<;>simp_all [rZ,pv]
  rw[q];simpa [cells] using D.alloc (.cells #[v] t (0,0)))⟩
theorem fZ [bA F] {cs:List Value} (hz:cC P t cs) (hg:gd ops σ g=some true) (hd:d<N) (h:∀b,TO F P w0 K N dfs ops Q rest ((d,.pointer (some ⟨b,0,none⟩))::σ) (L++[cells b cs t])):TO F P w0 K N dfs ops Q (⟨some d,.alloc t,ty,pos,aft,g⟩::rest) σ L:=by
 obtain⟨i,q,hi,l,rfl⟩:=hz.some;exact pD hg (by simp) λa w ha D=>⟨.pointer (some ⟨w.heap.size,0,none⟩),w.alloc (.cells q.cells t),by simp[execOp,Instr.alloc,zeroValue,typeInfo,hi,l,newVar,newRow,al],h _ _ _ (ha.put hd _) (by simpa [cells] using D.alloc (.cells q.cells t (0,0)))⟩
variable (k) in
theorem bW [bA F] {b j:Nat} {l:List Value} {e:TypeId} (D:mW P t) (hg:gd ops σ g=some true) (hd:d<N) (hx:ev σ x=some (.pointer (some ⟨b,j,none⟩))) (hk:L[k]?=some (cells b l e)) (hj:l[j]?=some v) (h:TO F P w0 K N dfs ops Q rest ((d,v)::σ) L):TO F P w0 K N dfs ops Q (⟨some d,.load t x,ty,pos,aft,g⟩::rest) σ L:=by
 obtain⟨dd,hu,hr⟩:=D;exact kJ hg hd (by simp) (λa w ha q=>by
  have hc:=q.cell hk hj;cases dd<;>simp_all [execOp,ha.ev hx,lK,fq,loadVar,isAgg,al,run_underlying hu]) h
variable (k) in
theorem ju [bA F] {b j n:Nat} {l:List Value}(cs:List Value) {e:TypeId} (J:qC P t n) (hg:gd ops σ g=some true) (hd:d<N) (hx:ev σ x=some (.pointer (some ⟨b,j,none⟩))) (hk:L[k]?=some (cells b l e)) (q:(l.drop j).take n=cs) (H:cs.length=n) (h:TO F P w0 K N dfs ops Q rest ((d,.agg cs.toArray)::σ) L) : TO F P w0 K N dfs ops Q (⟨some d,.load t x,ty,pos,aft,g⟩::rest) σ L:=by
 subst H;obtain⟨dd,hu,hr,hi⟩:=J;exact kJ hg hd (by simp) (λa w ha D=>by
  have hc:w.rangeAt b j cs:=λi u hu=>by
   refine D.cell hk ?_;rw[<-q] at hu;rw[iQ] at hu;split at hu
   ·rw[iD] at hu;exact hu
   ·cases hu
  simp only[execOp,ha.ev hx,al,run_loadAt_mid w b j t cs dd hc hu hr hi];rfl) h
variable (k) in
theorem fJ [bA F] {b j:Nat} {l:List Value}(l':List Value) {e:TypeId} {u:Value} (M:bI P t 1) (hg:gd ops σ g=some true) (hx:ev σ x=some (.pointer (some ⟨b,j,none⟩))) (hy:ev σ y=some v) (hk:L[k]?=some (cells b l e)) (hj:l[j]?=some u) (q:∀w,Holds w0 K L w->v.oneCell'=true) (J:l.set j v=l') (h:TO F P w0 K N dfs ops Q rest σ (L.set k (cells b l' e))):TO F P w0 K N dfs ops Q (⟨none,.store t x y,ty,pos,aft,g⟩::rest) σ L:=by
 obtain⟨i,hi,hsz⟩:=M.some;exact C9 hg (by simp) λa w ha D=>⟨_,by
  have h1:=q w D;have hc:=D.cell hk hj;have hf:w.frozen? ⟨b,j,none⟩=false:=by simp[nH,D.obj hk]
  have H:v.cells=#[v]:=by cases v<;>simp_all [rZ,pv]
  simp[execOp,ha.ev hx,ha.ev hy,Instr.storeAt,fq,storeVar,sizeOf,typeInfo,hi,hsz,H,storeCells,al,run_store _ _ _ _ _ h1,hc,hf,jM],h _ _ ha (D.setCell hk J)⟩
def sS (l:List Value) (j:Nat):List Value->List Value
 |[]=>l
 |v::vs=>sS (l.set j v) (j+1) vs
theorem vj:∀ (vs l:List Value) (j:Nat),(sS l j vs).length=l.length
 |[],l,j=>rfl
 |v::vs,l,j=>by simp[sS,vj vs]
theorem Holds.setCells {b:Nat} {e:TypeId} (q:k<L.length):∀ (vs:List Value) (j:Nat) (l:List Value) (w:World),Holds w0 K (L.set k (cells b l e)) w->Holds w0 K (L.set k (cells b (sS l j vs) e)) (w.setCells b j vs)
 |[],j,l,w,h=>h
 |v::vs,j,l,w,h=>by
  have hk:(L.set k (cells b l e))[k]?=some (cells b l e):=by simp[q]
  have:=h.setCell (j:=j) (v:=v) hk rfl;rw[List.set_set] at this;simp only[World.setCells,sS];exact Holds.setCells q vs (j+1) _ _ this
theorem KA {α:Type} {L:List α} {k:Nat} {A:α} (hk:L[k]?=some A):L.set k A=L:=by
 apply nI;intro i;rw[u6];split
 ·rename_i e;subst e;rw[hk];simp[(aq.1 hk).1]
 ·rfl
variable (k) in
theorem fI [bA F] {b j n:Nat} {l:List Value}(l' vs:List Value) {e:TypeId} (W:bI P t n) (hg:gd ops σ g=some true) (hx:ev σ x=some (.pointer (some ⟨b,j,none⟩))) (hy:ev σ y=some (.agg vs.toArray)) (hk:L[k]?=some (cells b l e)) (H:vs.length=n) (hj:j+n<=l.length) (h1:vs.all (·.oneCell')=true) (J:sS l j vs=l') (h:TO F P w0 K N dfs ops Q rest σ (L.set k (cells b l' e))):TO F P w0 K N dfs ops Q (⟨none,.store t x y,ty,pos,aft,g⟩::rest) σ L:=by
 subst J;subst H;have q:k<L.length:=(aq.1 hk).1;refine C9 hg (by simp) λa w ha D=>⟨w.setCells b j vs,?_,h _ _ ha (Holds.setCells q vs j l w (by rw[KA hk];exact D))⟩;have ht:w.there b j vs.toArray.size:=λi hi=>by
  have M:i<vs.length:=by simpa using hi
  have hc:=D.cell hk (aJ (show j+i<l.length by omega));exact⟨by rw[hc];rfl,by simp[nH,D.obj hk]⟩
 simp only[execOp,ha.ev hx,ha.ev hy,al,run_storeAt_mid w b j t vs.toArray ht (by simpa [bI] using W) (by simpa using h1)];rfl
end
def Ro (w0:World) (K:Nat->Prop) (RO:List (Nat×Obj)):Prop:=∀p∈RO,w0.heap[p.1]?=some p.2/\¬K p.1
theorem Ro.nil {w0:World} {K:Nat->Prop}:Ro w0 K []:=λp hp=>by cases hp
theorem Holds.ro {w0 w:World} {K:Nat->Prop} {L:List bG} {RO:List (Nat×Obj)} (h:Holds w0 K L w) (hr:Ro w0 K RO) {i b:Nat} {o:Obj} (hi:RO[i]?=some (b,o)):w.heap[b]?=some o:=by
 obtain⟨C,_,hx⟩:=h;obtain⟨h1,h2⟩:=hr _ (aF hi);exact hx.1.at h1 h2
def KB {β:Type} (w0:World) (K:Nat->Prop) (N:Nat) (dfs:List Deferred) (D:β->Prop) (l:β->List (Nat×Value)) (q:β->List bG) (a:Act) (w:World):Prop:=∃b,D b/\St w0 K N dfs (l b) (q b) a w
def Gd {β:Type} (w0:World) (K:Nat->Prop) (N:Nat) (J:β->Prop) (D:β->List Deferred) (q:β->List (Nat×Value)) (H:β->List bG) (μ:β->Nat) (b:β) (a:Act) (w:World):Prop:=∃l,J l/\μ l<μ b/\St w0 K N (D l) (q l) (H l) a w
section
variable {F:Fence} {P:Program} {w0:World} {K:Nat->Prop} {N:Nat} {dfs:List Deferred} {ops:Array Oper} {Q:Exit->Act->World->Prop} {rest:List Oper} {σ σ':List (Nat×Value)} {L L' R As Bs:List bG} {o:Oper} {v:Value}
 {d:Nat} {t:TypeId} {op:Op} {ty:TypeId} {pos:String} {aft:Array Edge} {g:Option (Nat×Bool)} {x y z:Operand} {c c1 c2:Code} {k:Nat} {A B:bG} {RO:List (Nat×Obj)}
theorem bX {id:Nat} {l:List Oper} (h:TO F P w0 K N dfs l.toArray Q l σ L):TC F P w0 K N dfs Q (.region id l.toArray false) σ L:=λa w ha q=>wpIn_region_lit (h a w ha q)
theorem bV (h:TC F P w0 K N dfs (Exit.then (c2.wpIn F 0 P Q) Q) c1 σ L):TC F P w0 K N dfs Q (.seq c1 c2) σ L:=λa w ha l=>wpIn_seq (h a w ha l)
theorem bw (h:TX w0 K N dfs Q .normal σ L):TC F P w0 K N dfs Q .skip σ L:=λa w ha l=>wpIn_skip (h a w ha l)
theorem dG {id:Nat} (h:TX w0 K N dfs Q (.exit id) σ L):TC F P w0 K N dfs Q (.exit id) σ L:=λa w ha l=>wpIn_exit (h a w ha l)
theorem bO (h:TX w0 K N dfs Q .ret σ L):TC F P w0 K N dfs Q .ret σ L:=λa w ha l=>wpIn_ret (h a w ha l)
theorem KC {l:Nat} (h:TX w0 K N dfs Q .normal σ L):TC F P w0 K N dfs Q (.label l) σ L:=λa w ha q=>wpIn_label (h a w ha q)
theorem ck {id:Nat} (h:TC F P w0 K N dfs (lc id Q) c σ L):TC F P w0 K N dfs Q (.block id c) σ L:=λa w ha l=>wpIn_block (h a w ha l)
theorem jy (hc:ev σ x=some (.bool true)) (h:TC F P w0 K N dfs Q c1 σ L):TC F P w0 K N dfs Q (.cond x c1 c2) σ L:=λa w ha l=>wpIn_cond_true (ha.ev hc) (h a w ha l)
theorem eU (hc:ev σ x=some (.bool false)) (h:TC F P w0 K N dfs Q c2 σ L):TC F P w0 K N dfs Q (.cond x c1 c2) σ L:=λa w ha l=>wpIn_cond_false (ha.ev hc) (h a w ha l)
theorem Q4 {b:Bool} (hc:ev σ x=some (.bool b)) (ht:b=true->TC F P w0 K N dfs Q c1 σ L) (hf:b=false->TC F P w0 K N dfs Q c2 σ L):TC F P w0 K N dfs Q (.cond x c1 c2) σ L :=
 λa w ha l=>wpIn_cond_split (ha.ev hc) (λh=>ht h a w ha l) (λh=>hf h a w ha l)
theorem Q5 {s:Nat} {b:Bool} (l:σ.lookup s=some (.bool b)) (ht:b=true->TO F P w0 K N dfs ops Q rest ((s,.bool true)::σ) L) (hf:b=false->TO F P w0 K N dfs ops Q rest ((s,.bool false)::σ) L) : TO F P w0 K N dfs ops Q rest σ L:=by
 cases b with
 |true=>exact Kf (Gc l J8) (ht rfl)
 |false=>exact Kf (Gc l J8) (hf rfl)
theorem cu (h:TC F P w0 K N dfs Q c σ L):TX w0 K N dfs (Exit.then (c.wpIn F 0 P Q) Q) .normal σ L:=h
theorem bS {id:Nat} {q:Act->World->Prop} (h:TX w0 K N dfs Q (.exit id) σ L):TX w0 K N dfs (Exit.then q Q) (.exit id) σ L:=h
theorem bZ {q:Act->World->Prop} (h:TX w0 K N dfs Q .ret σ L):TX w0 K N dfs (Exit.then q Q) .ret σ L:=h
theorem cg {id:Nat} (h:TX w0 K N dfs Q .normal σ L):TX w0 K N dfs (lc id Q) .normal σ L:=h
theorem cK {id:Nat} (h:TX w0 K N dfs Q .ret σ L):TX w0 K N dfs (lc id Q) .ret σ L:=h
theorem dH {id:Nat} (h:TX w0 K N dfs Q .normal σ L):TX w0 K N dfs (lc id Q) (.exit id) σ L:=λa w ha l=>by
 show (if id=id then Q .normal a w else Q (.exit id) a w);rw[aj rfl];exact h a w ha l
theorem Da {id l:Nat} (q:l≠id) (h:TX w0 K N dfs Q (.exit l) σ L):TX w0 K N dfs (lc id Q) (.exit l) σ L:=λa w ha D=>by
 show (if l=id then Q .normal a w else Q (.exit l) a w);rw[ai q];exact h a w ha D
theorem Q6 (q:Nat->Act->World->Prop) (m:Nat) {a:Act} {w:World} (M:q m a w) (round:∀m a w,q m a w->c.wpIn F 0 P (Exit.then (λJ w'=>∃l<m,q l J w') Q) a w):(Code.loop c).wpIn F 0 P Q a w:=by
 refine wpIn_loop (λa w=>∃m,q m a w) (λa w=>leastOf (λm=>q m a w)) ⟨m,M⟩ λa w W=>?_;obtain⟨h1,h2⟩:=leastOf_spec W;refine wpIn_mono (round _ a w h1) λe J w' H=>?_;cases e with
 |normal=>
  obtain⟨l,D,h3⟩:=H;exact⟨⟨l,h3⟩,Nat.lt_of_le_of_lt ((leastOf_spec ⟨l,h3⟩).2 l h3) D⟩
 |_=>exact H
theorem Q7 {β:Type} (H:β->Prop) (q:β->List Deferred) (l:β->List (Nat×Value)) (D:β->List bG) (μ:β->Nat) (b0:β) (hI:H b0) (hd:dfs=q b0) (W:sr σ (l b0)) (hL:aH L (D b0) R) (round:∀b,H b->TC F P w0 K N (q b) (Exit.then (Gd w0 K N H q l D μ b) Q) c (l b) (D b)):TC F P w0 K N dfs Q (.loop c) σ L:=λa w ha Z=>by
 subst hd;refine Q6 (λm a w=>∃b,H b/\μ b=m/\St w0 K N (q b) (l b) (D b) a w) (μ b0) ⟨b0,hI,rfl,W _ _ _ ha,Z.weaken hL⟩ ?_;rintro m a w ⟨b,hb,rfl,h1,h2⟩;refine wpIn_mono (round b hb a w h1 h2) λe a' w' J=>?_;cases e with
 |normal=>obtain⟨M,h3,h4,h5⟩:=J;exact⟨μ M,h4,M,h3,rfl,h5⟩
 |_=>exact J
theorem Q8 {β:Type} {J:β->Prop} {D:β->List Deferred} {q:β->List (Nat×Value)} {H:β->List bG} {μ:β->Nat} {b:β} (l:β) (hI:J l) (W:μ l<μ b) (hd:dfs=D l) (M:sr σ (q l)) (hL:aH L (H l) R) : TX w0 K N dfs (Exit.then (Gd w0 K N J D q H μ b) Q) .normal σ L:=λa w ha Z=>by
 subst hd;exact⟨l,hI,W,M _ _ _ ha,Z.weaken hL⟩
variable (k) in
theorem vk {l:bG} (hk:L[k]?=some A) (he:A=l) (h:TO F P w0 K N dfs ops Q rest σ (L.set k l)):TO F P w0 K N dfs ops Q rest σ L:=λa w ha q=>h a w ha (q.rewE hk he)
variable (k) in
theorem vl {e:Exit} (j:Nat) {X:List bG} (hk:L[k]?=some A) (hj:L[j]?=some (iR X)) (l:k≠j) (h:TX w0 K N dfs Q e σ ((L.set k cT).set j (iR (A::X)))):TX w0 K N dfs Q e σ L:=λa w ha q=>h a w ha (q.starCons hk hj l)
theorem vm (h:TC F P w0 K N dfs Q c σ (L++[iR []])):TC F P w0 K N dfs Q c σ L:=λa w ha l=>h a w ha l.star0
theorem Dc [bA F] {b j:Nat}(i:Nat) {l:List Value} {e:TypeId} {J:Nat×Nat} (hr:Ro w0 K RO) (H:mW P t) (hg:gd ops σ g=some true) (hd:d<N) (hx:ev σ x=some (.pointer (some ⟨b,j,none⟩))) (hi:RO[i]?=some (b,.cells l.toArray e J)) (hj:l[j]?=some v) (h:TO F P w0 K N dfs ops Q rest ((d,v)::σ) L):TO F P w0 K N dfs ops Q (⟨some d,.load t x,ty,pos,aft,g⟩::rest) σ L:=by
 obtain⟨dd,hu,q⟩:=H;exact kJ hg hd (by simp) (λa w ha D=>by
  have hc:w.cell? ⟨b,j,none⟩=some v:=qB (D.ro hr hi) (by simpa using hj);cases dd<;>simp_all [execOp,ha.ev hx,lK,fq,loadVar,isAgg,al,run_underlying hu]) h
def Fn (P:Program) (f:FuncId) (vs:List Value) (As:List bG) {β:Type} (l:β->Value) (Bs:β->List bG):Prop :=
 ∀w C,aP As C w->Calls P f vs.toArray w λe w'=>∃x:β,e=.returned (l x)/\∃C',aP (Bs x) C' w'/\cY C C' w w'
def zV (P:Program) (f:FuncId) (vs:List Value) (As:List bG) {β:Type} (l:β->Value) (Bs:β->List bG) (w:World) (C:Nat->Prop):Prop :=
 aP As C w->Calls P f vs.toArray w λe w'=>∃x:β,e=.returned (l x)/\∃C',aP (Bs x) C' w'/\cY C C' w w'
def eO (P:Program) (f:FuncId) (vs:List Value) (v:Value):Prop:=∀w,Calls P f vs.toArray w λe w'=>e=.returned v/\Below w.heap.size w w'
theorem pc {f:FuncId} {vs:List Value} {v:Value} (h:∀w,Calls P f vs.toArray w λe w'=>e=.returned v/\w=w'):eO P f vs v:=λw=>(h w).mono λe w' ⟨h1,h2⟩=>⟨h1,h2▸Below.refl _ _⟩
theorem eO.fn {f:FuncId} {vs:List Value} {v:Value} (h:eO P f vs v):Fn P f vs [] (λ_:Unit=>v) (λ_=>[]):=λw C l=>
 (h w).mono λe w' ⟨h1,h2⟩=>⟨(),h1,C,l,J0 h2⟩
theorem Fn.p {f:FuncId} {vs:List Value} {v:Value} (h:Fn P f vs [] (λ_:Unit=>v) (λ_=>[])):eO P f vs v:=λw=>
 (h w (λ_=>False) (λ_ h=>h)).mono λe w' ⟨_,h1,C',h2,h3⟩=>⟨h1,h3.toBelow (aS _) (λ_ _ h=>h)⟩
theorem Q9 [bA F] {xs:List Operand} {D:Array TypeId} {f:FuncId} {first cap:Array Value} {vs l:List Value} {β:Type} {Vo:β->Value} {Bs:β->List bG} {dst:Option Nat} (hg:gd ops σ g=some true) (hx:ev σ x=some (.func (.func f) first cap)) (J:evL σ xs=some vs) (hv:first.toList++vs++cap.toList=l) (H:∀args w,(callFunc f args).run P w=.ok (.enter f args) w) (hF:∀w C,cY K C w0 w->zV P f l As Vo Bs w C) (hs:aH L As R) (h:∀b a w Z,Z=a.put dst (Vo b)->At N dfs σ a->Holds w0 K (R++Bs b) w->wpListIn F 0 P ops Q rest Z w) : TO F P w0 K N dfs ops Q (⟨dst,.call {callee:=.value x,args:=xs.toArray,argTypes:=D },ty,pos,aft,g⟩::rest) σ L:=by
 intro a w ha hw;simp only[wpListIn,wv (o:=⟨dst,.call { callee:=.value x,args:=xs.toArray,argTypes:=D },ty,pos,aft,g⟩) ha hg,if_true];refine⟨λf _=>bA.fn f,?_⟩;have h1:(execOp a.eval ⟨dst,.call { callee:=.value x,args:=xs.toArray,argTypes:=D },ty,pos,aft,g⟩).run P w=.ok (.enter f l.toArray) w:=by
  have e:first++vs.toArray++cap=l.toArray:=by rw[<-hv];simp
  simp only[execOp,resolve,fL,ha.evL J,ha.ev hx,nf,al,jS,cD,invoke,e,H]
 rw[jf F _ _ (by simp),h1];refine⟨(λh=>by rw[bA.depth (F:=F)] at h;cases h),?_⟩;obtain⟨C1,M,hA,q⟩:=hw.splitX hs;refine bA.calls ((hF w C1 M hA).mono ?_);rintro e w' ⟨b,rfl,C',hB,W⟩;exact h b a w' _ rfl ha (q _ _ _ W hB)
theorem KD [bA F] {xs:List Operand} {H:Array TypeId} {f:FuncId} {first cap:Array Value} {vs l:List Value} {β:Type} {M:β->Value} {Bs:β->List bG} {dst:Option Nat} (hg:gd ops σ g=some true) (hx:ev σ x=some (.func (.func f) first cap)) (D:evL σ xs=some vs) (hv:first.toList++vs++cap.toList=l) (q:∀args w,(callFunc f args).run P w=.ok (.enter f args) w) (Z:Fn P f l As M Bs) (W:aH L As R) (h:∀b a w J,J=a.put dst (M b)->At N dfs σ a->Holds w0 K (R++Bs b) w->wpListIn F 0 P ops Q rest J w) : TO F P w0 K N dfs ops Q (⟨dst,.call {callee:=.value x,args:=xs.toArray,argTypes:=H },ty,pos,aft,g⟩::rest) σ L :=
 Q9 hg hx D hv q (λw C _=>Z w C) W h
theorem ir [bA F] {xs:List Operand} {J:Array TypeId} {f:FuncId} {first cap:Array Value} (vs:List Value){l:List Value} {β:Type} {M:β->Value} {Bs:β->List bG} (hg:gd ops σ g=some true) (hd:d<N) (hx:ev σ x=some (.func (.func f) first cap)) (D:evL σ xs=some vs) (hv:first.toList++vs++cap.toList=l) (q:∀args w,(callFunc f args).run P w=.ok (.enter f args) w) (hF:Fn P f l As M Bs) (Z:aH L As R) (h:∀b,TO F P w0 K N dfs ops Q rest ((d,M b)::σ) (R++Bs b)) : TO F P w0 K N dfs ops Q (⟨some d,.call {callee:=.value x,args:=xs.toArray,argTypes:=J },ty,pos,aft,g⟩::rest) σ L :=
 KD hg hx D hv q hF Z λb a w a' H ha W=>by subst H;exact h b _ _ (ha.put hd _) W
variable (v) in
theorem dF [bA F] {xs:List Operand} {J:Array TypeId} {f:FuncId} {first cap:Array Value} (vs:List Value){l:List Value} (hg:gd ops σ g=some true) (hd:d<N) (hx:ev σ x=some (.func (.func f) first cap)) (D:evL σ xs=some vs) (hv:first.toList++vs++cap.toList=l) (q:∀args w,(callFunc f args).run P w=.ok (.enter f args) w) (W:eO P f l v) (h:TO F P w0 K N dfs ops Q rest ((d,v)::σ) L) : TO F P w0 K N dfs ops Q (⟨some d,.call {callee:=.value x,args:=xs.toArray,argTypes:=J },ty,pos,aft,g⟩::rest) σ L :=
 KD hg hx D hv q W.fn aH.nil λb a w Z H ha M=>by
  subst H;rw[aE] at M;exact h _ _ (ha.put hd _) M
def YC (P:Program) (l:Nat) {α:Type} (enc:α->List Value) (xs:List α) (H X:List α->bG) (w0:World) (K:Nat->Prop):Prop :=
 ∀pre x post C q,xs=pre++x::post->cY K C w0 q->(H pre).P C q ->
  F5 P l (enc x).toArray q λb D=>∃C',cY C C' q D/\((b=true/\(H (pre++[x])).P C' D)\/(b=false/\(X (pre++[x])).P C' D))
theorem Holds.focus' {w:World} (h:Holds w0 K L w) (hk:L[k]?=some A):∃C1,cY K C1 w0 w/\A.P C1 w/\∀B l w',cY C1 l w w'->B.P l w'->Holds w0 K (L.set k B) w':=by
 obtain⟨C1,h1,h2⟩:=h.focus hk;have h':=h;obtain⟨C,hL,hx⟩:=h';obtain⟨M,J,g1,g2,H,g4⟩:=aP.take hk hL;refine⟨M,⟨hx.1,λj hj=>hx.2 j ((g4 j).2 (.inl hj))⟩,g1,?_⟩;intro B l w' he hB;have q:k<L.length:=(aq.1 hk).1;have hsz:=he.1.size;have D:aP (L.set k cT) J w':=g2.loc hsz (λk hk=>he.1.keep k (g2.lt k hk) (λh=>H k h hk));have hd:∀k,l k->¬J k:=λk h' hk=>by
  rcases he.2 k h' with h|h
  ·exact H k h hk
  ·have:=g2.lt k hk;omega
 refine⟨_,aP.put q hB D hd (λk=>Iff.rfl),hx.1.trans' he.1 (λi hi hc=>?_),λk hk=>?_⟩
 ·rcases hx.2 i ((g4 i).2 (.inl hc)) with h|h
  ·exact h
  ·omega
 ·have:=hx.1.size;rcases hk with hk|hk
  ·rcases he.2 k hk with h|h
   ·rcases hx.2 k ((g4 k).2 (.inl h)) with h|h
    ·exact .inl h
    ·exact .inr z1
   ·exact .inr z1
  ·rcases hx.2 k ((g4 k).2 (.inr hk)) with h|h
   ·exact .inl h
   ·exact .inr z1
theorem Ra [bA F] {xs:List Operand} {H:Array TypeId} {l:Nat} {α:Type} {enc:α->List Value} {zs:List α} {Ia X:List α->bG} {dst:Option Nat} (hy:YC P l enc zs Ia X w0 K) (hg:gd ops σ g=some true) (hx:ev σ x=some (.func (.yield l) #[] #[])) {pre:List α} {e:α} {post:List α} (hz:zs=pre++e::post) (ag:evL σ xs=some (enc e)) (hk:L[k]?=some (Ia pre)) (ht:∀a w Z,Z=a.put dst (.bool true)->At N dfs σ a->Holds w0 K (L.set k (Ia (pre++[e]))) w->wpListIn F 0 P ops Q rest Z w) (hf:∀a w Z,Z=a.put dst (.bool false)->At N dfs σ a->Holds w0 K (L.set k (X (pre++[e]))) w->wpListIn F 0 P ops Q rest Z w) : TO F P w0 K N dfs ops Q (⟨dst,.call {callee:=.value x,args:=xs.toArray,argTypes:=H },ty,pos,aft,g⟩::rest) σ L:=by
 intro a w ha hw;simp only[wpListIn,wv (o:=⟨dst,.call { callee:=.value x,args:=xs.toArray,argTypes:=H },ty,pos,aft,g⟩) ha hg,if_true];refine⟨λf _=>bA.fn f,?_⟩;obtain⟨C1,W,hi,q⟩:=hw.focus' hk;obtain⟨fn,tmps,assign,body,M,D⟩:=hy pre e post C1 w hz W hi;have h1:(execOp a.eval ⟨dst,.call { callee:=.value x,args:=xs.toArray,argTypes:=H },ty,pos,aft,g⟩).run P w=.ok (.round l fn tmps assign body) w:=by
  simp only[execOp,resolve,fL,ha.evL ag,ha.ev hx,nf,al,jS,cD,invoke,Array.empty_append,M]
 rw[jf F _ _ (by simp),h1];refine⟨(λh=>by rw[bA.depth (F:=F)] at h;cases h),?_⟩;have hr:RoundIn F 0 P l fn tmps assign body w _:=bA.rounds D;refine hr.mono ?_;rintro e' w' ⟨b,rfl,C',J,h|h⟩
 ·obtain⟨rfl,h⟩:=h;exact ht a w' _ rfl ha (q _ _ _ J h)
 ·obtain⟨rfl,h⟩:=h;exact hf a w' _ rfl ha (q _ _ _ J h)
variable (k) in
theorem xD [bA F] {xs:List Operand} {J:Array TypeId} {l:Nat} {α:Type} {enc:α->List Value} {zs:List α} {M X:List α->bG} (hy:YC P l enc zs M X w0 K) (hg:gd ops σ g=some true) (hd:d<N) (hx:ev σ x=some (.func (.yield l) #[] #[])) {pre:List α} {e:α} {post:List α} (hz:zs=pre++e::post) (D:evL σ xs=some (enc e)) (hk:L[k]?=some (M pre)) (ht:TO F P w0 K N dfs ops Q rest ((d,.bool true)::σ) (L.set k (M (pre++[e])))) (hf:TO F P w0 K N dfs ops Q rest ((d,.bool false)::σ) (L.set k (X (pre++[e])))) : TO F P w0 K N dfs ops Q (⟨some d,.call {callee:=.value x,args:=xs.toArray,argTypes:=J },ty,pos,aft,g⟩::rest) σ L :=
 Ra hy hg hx hz D hk (λa w W q ha H=>by subst q;exact ht _ _ (ha.put hd _) H) (λa w W q ha H=>by subst q;exact hf _ _ (ha.put hd _) H)
end
def vn (vs:List Value):List (Nat×Value):=vs.zipIdx.map λp=>(p.2,p.1)
theorem KE:∀ (vs:List Value) (k t:Nat) (v:Value),((vs.zipIdx k).map λp=>(p.2,p.1)).lookup t=some v->k<=t/\vs[t-k]?=some v
 |[],k,t,v,h=>by simp at h
 |u::vs,k,t,v,h=>by
  simp only[List.zipIdx_cons,au,eI] at h;split at h
  ·rename_i e;have:t=k:=by simpa using e
   subst this;cases h;simp
  ·rename_i e;have l:t≠k:=by simpa using e
   obtain⟨h1,h2⟩:=KE vs (k+1) t v h;refine⟨by omega,?_⟩;rw[show t-k=(t-(k+1))+1 by omega];simpa using h2
theorem zW {N:Nat} (vs:List Value) (D:vs.length<=N):At N [] (vn vs) {tmps:=vs.toArray++gi (N-vs.toArray.size) undef,defers:=[] }:=by
 refine⟨by simp;omega,rfl,λt v h=>?_⟩;obtain⟨_,h2⟩:=KE vs 0 t v h;have h3:vs[t]?=some v:=by simpa using h2
 have l:t<vs.length:=(aq.1 h3).1;have q:(vs.toArray++gi (N-vs.toArray.size) undef)[t]?=some v:=by
  rw[Array.getElem?_append_left (by simpa using l)];simpa using h3
 rw[o6,q];rfl
def FR (P:Program) {β:Type} (l:β->Value) (Bs:β->List bG) (w0:World) (K:Nat->Prop) (e:Ending) (w:World):Prop:=∃x:β,e=.returned (l x)/\Holds w0 K (Bs x) w
section
variable {F:Fence} {P:Program} {w0:World} {K:Nat->Prop} {N:Nat} {dfs:List Deferred} {ops:Array Oper} {Q:Exit->Act->World->Prop} {rest:List Oper} {σ σ':List (Nat×Value)} {L L' R As Bs:List bG} {o:Oper} {v:Value}
 {d:Nat} {t:TypeId} {op:Op} {ty:TypeId} {pos:String} {aft:Array Edge} {g:Option (Nat×Bool)} {x y z:Operand} {c c1 c2:Code} {k:Nat} {A B:bG} {RO:List (Nat×Obj)}
theorem Fn.intro {f:FuncId} {fn:Func} {vs:List Value} {β:Type} {l:β->Value} {Bs:β->List bG} (hf:P.funcs[f]?=some fn) (hb:fn.body=some c) (q:fn.ntmps=N) (D:vs.length<=N) (h:∀w0 K,TC bK P w0 K N [] (bodyPostM bK 0 P fn (FR P l Bs w0 K)) c (vn vs) As):Fn P f vs As l Bs:=by
 subst q;intro w C hA;refine (zT hf hb (h w C _ w (zW vs D) ⟨C,hA,cY.refl _ _⟩)).mono ?_;rintro e w' ⟨x,rfl,C',hB,hx⟩;exact⟨x,rfl,C',hB,hx⟩
theorem zV.intro {f:FuncId} {fn:Func} {vs:List Value} {β:Type} {l:β->Value} {Bs:β->List bG} {w:World} {C:Nat->Prop} (hf:P.funcs[f]?=some fn) (hb:fn.body=some c) (q:fn.ntmps=N) (D:vs.length<=N) (h:TC bK P w C N [] (bodyPostM bK 0 P fn (FR P l Bs w C)) c (vn vs) As):zV P f vs As l Bs w C:=by
 subst q;intro hA;refine (zT hf hb (h _ w (zW vs D) ⟨C,hA,cY.refl _ _⟩)).mono ?_;rintro e w' ⟨x,rfl,C',hB,hx⟩;exact⟨x,rfl,C',hB,hx⟩
theorem eO.intro {f:FuncId} {fn:Func} {vs:List Value} (hf:P.funcs[f]?=some fn) (hb:fn.body=some c) (l:fn.ntmps=N) (q:vs.length<=N) (h:∀w0 K,TC bK P w0 K N [] (bodyPostM bK 0 P fn (FR P (λ_:Unit=>v) (λ_=>[]) w0 K)) c (vn vs) []):eO P f vs v:=Fn.p (Fn.intro hf hb l q h)
inductive oJ (P:Program) (σ:List (Nat×Value)) (L:List bG):ResultVar->Value->Prop
 |tmp {t:Nat} {v:Value} (h:σ.lookup t=some v):oJ P σ L (.tmp t) v
 |cell {s b:Nat} {t:TypeId} {k:Nat} {v:Value} {e:TypeId} (hT:mW P t) (hs:σ.lookup s=some (.pointer (some ⟨b,0,none⟩))) (hk:L[k]?=some (cells b [v] e)):oJ P σ L (.cell s t) v
 |cells {s b n:Nat} {t:TypeId} {k:Nat} {cs:List Value} {e:TypeId} (hT:qC P t n) (hs:σ.lookup s=some (.pointer (some ⟨b,0,none⟩))) (hk:L[k]?=some (Go.Proofs.YtncjnoakkghmmaaGreatDoor.cells b cs e)) (hn:cs.length=n):oJ P σ L (.cell s t) (.agg cs.toArray)
inductive kj (P:Program) (σ:List (Nat×Value)) (L:List bG):List ResultVar->List Value->Prop
 |nil:kj P σ L [] []
 |cons {r:ResultVar} {rs:List ResultVar} {v:Value} {vs:List Value} (h:oJ P σ L r v) (hs:kj P σ L rs vs):kj P σ L (r::rs) (v::vs)
def vo:List Value->Value
 |[v]=>v
 |vs=>.tuple vs.toArray
def ww (tmps:Array Value):ResultVar->Sem Value
 |.tmp t=>pure (tmps.getD t undef)
 |.cell a t=>do loadVar t (<-asAddr (tmps.getD a undef))
theorem oJ.run {r:ResultVar} (h:oJ P σ L r v) {a:Act} {w:World} (ha:At N dfs σ a) (l:Holds w0 K L w):(ww a.tmps r).run P w=.ok v w:=by
 cases h with
 |tmp h=>simp[ww,ha.2.2 _ _ h]
 |@cell s b t k v e hT hs hk=>
  obtain⟨dd,hu,hr⟩:=hT;have hc:=l.cell hk (j:=0) (v:=v) rfl;have:=ha.2.2 _ _ hs;cases dd<;>simp_all [ww,asAddr,loadVar,isAgg,al,run_underlying hu]
 |@cells s b n t k cs e hT hs hk hn=>
  subst hn;obtain⟨dd,hu,hr,hi⟩:=hT;have hc:w.rangeAt b 0 cs:=λi u hu=>l.cell hk (by simpa using hu);have:=ha.2.2 _ _ hs;simp[ww,asAddr,al,this,run_loadVar_mid w b 0 t cs dd hc hu hr hi]
theorem kj.run {rs:List ResultVar} {vs:List Value} (h:kj P σ L rs vs) {a:Act} {w:World} (ha:At N dfs σ a) (q:Holds w0 K L w):(rs.mapM (ww a.tmps)).run P w=.ok vs w:=by
 induction h with
 |nil=>simp
 |cons h D l=>simp[List.mapM_cons,al,h.run ha q,l]
theorem zX {fn:Func} (rs:List ResultVar) {vs:List Value} (l:fn.results=rs.toArray) (h:kj P σ L rs vs) {a:Act} {w:World} (ha:At N dfs σ a) (q:Holds w0 K L w):(results fn a.tmps).run P w=.ok (vo vs) w:=by
 have h1:=h.run ha q;have h2:(fn.results.mapM (ww a.tmps)).run P w=.ok vs.toArray w:=by
  rw[l,List.mapM_toArray,map_eq_pure_bind,al,h1];rfl
 have h3:results fn a.tmps=(do let vs <-fn.results.mapM (ww a.tmps);pure (if h:vs.size=1 then vs[0] else .tuple vs)):=rfl
 rw[h3,al,h2];rcases vs with _|⟨v,_|⟨u,vs⟩⟩
 ·rfl
 ·rfl
 ·simp[vo]
theorem eW {fn:Func} (rs:List ResultVar) {vs:List Value} {β:Type} {D:β->Value} {Bs:β->List bG} {e:Exit} (b:β) (he:e=.ret\/e=.normal) (q:fn.results=rs.toArray) (l:kj P σ L rs vs) (hv:vo vs=D b) (J:aH L (Bs b) R) : TX w0 K N [] (bodyPostM F 0 P fn (FR P D Bs w0 K)) e σ L:=by
 intro a w ha H;have h1:=zX _ q l ha H;have h2:LeavesInM F 0 P fn a.tmps (FR P D Bs w0 K) a.defers .returning w:=by
  rw[ha.2.1];exact⟨vo vs,h1,b,by rw[hv],H.weaken J⟩
 rcases he with rfl|rfl<;>exact h2
def iJ (d:Nat):bG:=obj d (.deferred (some []))
theorem aP.marks {w:World}:∀ {ds:List Nat} {C:Nat->Prop},aP (ds.map iJ) C w->ds.Nodup/\(∀d∈ds,w.heap[d]?=some (.deferred (some [])))/\∀k,C k↔k∈ds
 |[],C,h=>⟨List.nodup_nil,by simp,λk=>by simp;exact h k⟩
 |d::ds,C,⟨C1,C2,h1,h2,h3,h4⟩=>by
  obtain⟨g1,g2,l⟩:=aP.marks h2;have hd:∀k,C1 k↔k=d:=h1.1;refine⟨ka.2 ⟨λhm=>h3 d ((hd d).2 rfl) ((l d).2 hm),g1⟩,?_,λk=>by rw[h4,hd,l];simp⟩;intro e he;rcases bg.1 he with rfl|he
  ·exact h1.2
  ·exact g2 e he
theorem Ge {fn:Func} {tmps:Array Value} {H:Ending->World->Prop} (ds:List Nat) {w:World} (hm:aH L (ds.map iJ) L') (J:Holds w0 K L w) (h:∀w',Holds w0 K L' w'->∃v,(results fn tmps).run P w'=.ok v w'/\H (.returned v) w'):LeavesInM bK 0 P fn tmps H (qW ds) .returning w:=by
 obtain⟨C,hL,hx⟩:=J;obtain⟨C1,C2,h1,h2,h3,q⟩:=hm C w hL;obtain⟨g1,g2,D⟩:=aP.marks h1;refine JX ds w g1 g2 λw' hf hsz=>h w' ?_;refine⟨C2,h2.loc z1 (λj hj=>hf.keep j (h2.lt j hj) (λl=>h3 j ((D j).2 l) hj)),hx.1.trans' hf (λi hi l=>?_),λj hj=>?_⟩
 ·rcases hx.2 i ((q i).2 (.inl ((D i).2 l))) with h|h
  ·exact h
  ·omega
 ·rcases hx.2 j ((q j).2 (.inr hj)) with h|h
  ·exact .inl h
  ·exact .inr z1
theorem sw {fn:Func} (rs:List ResultVar) {vs:List Value} {β:Type} {H:β->Value} {Bs:β->List bG} {e:Exit} (ds:List Nat) (b:β) (he:e=.ret\/e=.normal) (hm:aH L (ds.map iJ) L') (D:fn.results=rs.toArray) (q:kj P σ L' rs vs) (hv:vo vs=H b) (M:aH L' (Bs b) R):TX w0 K N (qW ds) (bodyPostM bK 0 P fn (FR P H Bs w0 K)) e σ L:=by
 intro a w ha J;have h2:LeavesInM bK 0 P fn a.tmps (FR P H Bs w0 K) a.defers .returning w:=by
  rw[ha.2.1];exact Ge ds hm J λw' l=>⟨vo vs,zX _ D q ha l,b,by rw[hv],l.weaken M⟩
 rcases he with rfl|rfl<;>exact h2
def uu (P:Program) (gf:FuncId) (l:List Value) {α:Type} (enc:α->List Value) (xs:List α) (RO:List (Nat×Obj)):Prop :=
 ∀w,(∀p∈RO,w.heap[p.1]?=some p.2)->F6 P gf l.toArray (λx=>(enc x).toArray) xs (λk=>∃p∈RO,p.1=k) w
def Dd (l:(Nat->Prop)->World->Prop) (D:∀C W W',l C W->W.heap.size<=W'.heap.size->(∀k,C k->W'.heap[k]?=W.heap[k]?)->l C W'):bG :=
 ⟨λC w=>l C w/\∀k,C k->k<w.heap.size,λh=>h.2,λh q hk=>⟨D _ _ _ h.1 q hk,λk H=>fx (h.2 k H) q⟩⟩
def FY {α:Type} (xs:List α) (l X:List α->bG) (w0:World) (K:Nat->Prop) (e:Ending) (w:World):Prop :=
 (∃v,e=.returned v)/\(Holds w0 K [l xs] w\/∃pre x post,xs=pre++x::post/\Holds w0 K [X (pre++[x])] w)
theorem uu.intro {gf:FuncId} {fn:Func} {q:List Value} {α:Type} {enc:α->List Value} {xs:List α} (hf:P.funcs[gf]?=some fn) (hb:fn.body=some c) (hn:fn.ntmps=N) (hN:q.length+1<=N) (h:∀l w0 K (Z X:List α->bG),Ro w0 K RO->YC P l enc xs Z X w0 K -> TC bK P w0 K N [] (bodyPostM bK 0 P fn (FY xs Z X w0 K)) c (vn (.func (.yield l) #[] #[]::q)) [Z []]):uu P gf q enc xs RO:=by
 subst hn;intro w a0 l Z X C0 W hD hsz M a2 ao hy h0;have aw:Ro W C0 RO:=λp hp=>⟨(hD p.1 ⟨p,hp,rfl⟩).2.trans (a0 p hp),λhc=>(M _ hc).2 ⟨p,hp,rfl⟩⟩;have:=h l W C0 (λpre=>Dd (Z pre) (λC W W'=>a2 pre C W W')) (λpre=>Dd (X pre) (λC W W'=>ao pre C W W')) aw (λpre x post C W1 D he hi=>by
  obtain⟨f1,t1,a1,b1,ag,hr2⟩:=hy pre x post C W1 D he hi.1;refine⟨f1,t1,a1,b1,ag,hr2.mono ?_⟩;rintro e w2 ⟨b,rfl,C',hx,hc⟩;have H:∀k,C' k->k<w2.heap.size:=λk hk=>by
   have:=hx.1.size;rcases hx.2 k hk with h|h
   ·have:=hi.2 k h;omega
   ·exact h.2
  exact⟨b,rfl,C',hx,hc.imp (λh=>⟨h.1,h.2,H⟩) (λh=>⟨h.1,h.2,H⟩)⟩)
 have hs:(Value.func (.yield l) #[] #[]::q).toArray=#[.func (.yield l) #[] #[]]++q.toArray:=by simp
 rw[<-hs];refine (zT hf hb (this _ W (zW _ (by simpa using hN)) ⟨C0,aP.one ⟨h0,λk hk=>(M k hk).1⟩,cY.refl _ _⟩)).mono ?_;rintro e w' ⟨he,J⟩;refine⟨he,?_⟩;rcases J with⟨C',J,hx⟩|⟨pre,x,post,D,C',J,hx⟩
 ·obtain⟨C1,C2,g1,g2,_,g4⟩:=J;have:C'=C1:=funext λk=>propext (by rw[g4];exact⟨λh=>h.resolve_right (g2 k),.inl⟩);subst this;exact⟨C',hx,.inl g1.1⟩
 ·obtain⟨C1,C2,g1,g2,_,g4⟩:=J;have:C'=C1:=funext λk=>propext (by rw[g4];exact⟨λh=>h.resolve_right (g2 k),.inl⟩);subst this;exact⟨C',hx,.inr ⟨pre,x,post,D,g1.1⟩⟩
theorem zY {fn:Func} {α:Type} {xs:List α} {D X:List α->bG} {e:Exit} (ds:List Nat) (he:e=.ret\/e=.normal) (hm:aH L (ds.map iJ) L') (q:fn.results=#[]) (hA:D xs=A) (J:aH L' [A] R) : TX w0 K N (qW ds) (bodyPostM bK 0 P fn (FY xs D X w0 K)) e σ L:=by
 subst hA;intro a w ha H;have h2:LeavesInM bK 0 P fn a.tmps (FY xs D X w0 K) a.defers .returning w:=by
  rw[ha.2.1];exact Ge ds hm H λw' l=>⟨_,zX [] q .nil ha l,⟨_,rfl⟩,.inl (l.weaken J)⟩
 rcases he with rfl|rfl<;>exact h2
theorem xE {fn:Func} {α:Type} {xs:List α} {H X:List α->bG} {e:Exit} (ds:List Nat) (pre:List α) (x:α) (post:List α) (q:xs=pre++x::post) (he:e=.ret\/e=.normal) (hm:aH L (ds.map iJ) L') (D:fn.results=#[]) (M:aH L' [X (pre++[x])] R) : TX w0 K N (qW ds) (bodyPostM bK 0 P fn (FY xs H X w0 K)) e σ L:=by
 intro a w ha J;have h2:LeavesInM bK 0 P fn a.tmps (FY xs H X w0 K) a.defers .returning w:=by
  rw[ha.2.1];exact Ge ds hm J λw' l=>⟨_,zX [] D .nil ha l,⟨_,rfl⟩,.inr ⟨pre,x,post,q,l.weaken M⟩⟩
 rcases he with rfl|rfl<;>exact h2
def RQ {α β γ:Type} (Inv:List α->β->Prop) (LI:List α->β->List bG) (X:Code->List α->γ->Prop) (LX:Code->List α->γ->List bG) (pre:List α) (w1:World) (q:Nat->Prop):Exit->Act->World->Prop
 |.normal,_,w=>∃b,Inv pre b/\Holds w1 q (LI pre b) w
 |.ret,_,w=>∃b,X .ret pre b/\Holds w1 q (LX .ret pre b) w
 |.exit id,_,w=>∃b,X (.exit id) pre b/\Holds w1 q (LX (.exit id) pre b) w
 |.goto l,_,w=>∃b,X (.goto l) pre b/\Holds w1 q (LX (.goto l) pre b) w
 |.panic _,_,_=>False
 |.outgrown,_,_=>False
section
variable {α β γ:Type} {Inv:List α->β->Prop} {LI:List α->β->List bG} {X:Code->List α->γ->Prop} {LX:Code->List α->γ->List bG} {pre:List α}
theorem nz (b:β) (h:Inv pre b) (q:aH L (LI pre b) R):TX w0 K N dfs (RQ Inv LI X LX pre w0 K) .normal σ L:=λa w ha l=>⟨b,h,l.weaken q⟩
theorem oK (b:γ) (h:X .ret pre b) (q:aH L (LX .ret pre b) R):TX w0 K N dfs (RQ Inv LI X LX pre w0 K) .ret σ L:=λa w ha l=>⟨b,h,l.weaken q⟩
end
def De (ps:List Nat) (vs:List Value) (σ:List (Nat×Value)):List (Nat×Value):=(ps.zip vs).foldl (λσ p=>p::σ) σ
theorem At.zip {a:Act} (h:At N dfs σ a) (ps:List Nat) (vs:List Value) (hp:∀p∈ps,p<N):At N [] (De ps vs σ) {tmps:=(ps.toArray.zip vs.toArray).foldl (λt p=>t.setIfInBounds p.1 p.2) a.tmps,defers:=[] }:=by
 have key:∀ (l:List (Nat×Value)) (σ:List (Nat×Value)) (D:Array Value),(∀p∈l,p.1<N)->At N [] σ { tmps:=D,defers:=[] } ->
   At N [] (l.foldl (λσ p=>p::σ) σ) { tmps:=l.foldl (λt p=>t.setIfInBounds p.1 p.2) D,defers:=[] }:=by
  intro l
  induction l with
  |nil=>intro σ D _ h;exact h
  |cons p l J=>
   intro σ D hp h;simp only[List.foldl_cons];exact J _ _ (λq M=>hp q (ak _ M)) (h.put (hp p (ar ..)) p.2)
 have:=key (ps.zip vs) σ a.tmps (λp H=>hp _ (List.of_mem_zip H).1) ⟨h.1,rfl,h.2.2⟩;simpa [De] using this
theorem Holds.split2 {w:World} (h:Holds w0 K L w) (H:aH L As R):∃C1 C2,aP As C1 w/\aP R C2 w/\(∀k,C1 k->¬C2 k)/\cY K C1 w0 w/\∀Bs l w',cY C1 l w w'->aP Bs l w'->Holds w0 K (R++Bs) w':=by
 have h0:=h;obtain⟨C,hL,hx⟩:=h;obtain⟨C1,C2,h1,h2,h3,q⟩:=H C w hL;refine⟨C1,C2,h1,h2,h3,⟨hx.1,λk hk=>hx.2 k ((q k).2 (.inl hk))⟩,λBs l w' he hB=>?_⟩;have hsz:=he.1.size;have D:aP R C2 w':=h2.loc hsz (λk hk=>he.1.keep k (h2.lt k hk) (λh=>h3 k h hk));have hd:∀k,C2 k->¬l k:=λk hk h'=>by
  rcases he.2 k h' with h|h
  ·exact h3 k h hk
  ·have:=h2.lt k hk;omega
 refine⟨_,D.append hB hd,hx.1.trans' he.1 (λi hi hc=>?_),λk hk=>?_⟩
 ·rcases hx.2 i ((q i).2 (.inl hc)) with h|h
  ·exact h
  ·omega
 ·have:=hx.1.size;rcases hk with hk|hk
  ·rcases hx.2 k ((q k).2 (.inr hk)) with h|h
   ·exact .inl h
   ·exact .inr z1
  ·rcases he.2 k hk with h|h
   ·rcases hx.2 k ((q k).2 (.inl h)) with h|h
    ·exact .inl h
    ·exact .inr z1
   ·exact .inr z1
def pX (R:List bG) (RO:List (Nat×Obj)):List (Nat×Obj)->Prop
 |[]=>True
 |p::ps=>((∃k:Nat,R[k]?=some (obj p.1 p.2))\/∃k:Nat,RO[k]?=some p)/\pX R RO ps
theorem pX.mem {R:List bG} {RO:List (Nat×Obj)}:∀ {D:List (Nat×Obj)},pX R RO D->∀p∈D,((∃k:Nat,R[k]?=some (obj p.1 p.2))\/∃k:Nat,RO[k]?=some p)
 |[],_,p,hp=>by cases hp
 |q::D,h,p,hp=>by
  rcases bg.1 hp with rfl|hp
  ·exact h.1
  ·exact pX.mem h.2 p hp
theorem aP.mem {b:Nat} {o:Obj}:∀ {R:List bG} {C:Nat->Prop} {w:World} {k:Nat},R[k]?=some (obj b o)->aP R C w->w.heap[b]?=some o/\C b:=by
 intro R C w k hk h;obtain⟨C1,C2,h1,_,_,l⟩:=aP.take hk h;exact⟨h1.2,(l b).2 (.inl ((h1.1 b).2 rfl))⟩
theorem Ro.snoc {RO:List (Nat×Obj)} {b:Nat} {o:Obj} (h:Ro w0 K RO) (hb:w0.heap[b]?=some o) (l:¬K b):Ro w0 K (RO++[(b,o)]):=λp hp=>by
 rcases bv.1 hp with hp|hp
 ·exact h p hp
 ·rw[List.mem_singleton.1 hp];exact⟨hb,l⟩
section
variable {α β γ δ:Type}
variable (α β γ δ) in
theorem wx {gf:FuncId} {ao:List Value} {enc:α->List Value} {xs:List α} {D:List (Nat×Obj)} (ps:List Nat) {assign body:Code} (a4:Ro w0 K RO) (hg:ev σ x=some (.func (.func gf) #[] ao.toArray)) (a8:∀args w,(callFunc gf args).run P w=.ok (.enter gf args) w) (hY:uu P gf ao enc xs D) (Inv:List α->β->Prop) (LI:List α->β->List bG) (X:Code->List α->γ->Prop) (LX:Code->List α->γ->List bG) (σJ:List α->α->β->δ->List (Nat×Value)) (LJ:List α->α->β->δ->List bG) (b0:β) (h0:Inv [] b0) (hs:aH L (LI [] b0) R) (hD:pX R RO D) (bb:∀x,(enc x).length=ps.length) (bh:∀p∈ps,p<N) (ag:∀l r pre e post b w1 K1,xs=pre++e::post->cY K K1 w0 w1->Ro w1 K1 (RO++[(l,.loop r)])->Inv pre b -> TC (Fence.wide.inRound l) P w1 K1 N [] (Exit.then (λa w=>∃j,St w1 K1 N [] (σJ pre e b j) (LJ pre e b j) a w) (λ_ _ _=>False)) assign (De ps (enc e) σ) (LI pre b)) (a3:∀l r pre e post b j w1 K1,xs=pre++e::post->cY K K1 w0 w1->Ro w1 K1 (RO++[(l,.loop r)])->Inv pre b->TC (Fence.wide.inRound l) P w1 K1 N [] (RQ Inv LI X LX (pre++[e]) w1 K1) body (σJ pre e b j) (LJ pre e b j)) (a2:∀d b,Inv xs b->TX w0 K N ({target:=.collected d,args:=#[] }::dfs) Q .normal σ (R++(LI xs b++[iJ d]))) (a0:∀d c pre e post b,xs=pre++e::post->X c (pre++[e]) b->TC bK P w0 K N ({target:=.collected d,args:=#[] }::dfs) Q c σ (R++(LX c (pre++[e]) b++[iJ d]))) : TC bK P w0 K N dfs Q (.rangeFunc x ps.toArray assign body) σ L:=by
 intro a w ha hw;obtain⟨C1,C2,g1,g2,g3,gx,Z⟩:=hw.split2 hs;have a5:∀p∈D,w.heap[p.1]?=some p.2/\¬C1 p.1:=λp hp=>by
  rcases hD.mem p hp with⟨k,hk⟩|⟨k,hk⟩
  ·obtain⟨h1,h2⟩:=aP.mem hk g2;exact⟨h1,λh=>g3 _ h h2⟩
  ·refine⟨hw.ro a4 hk,λh=>?_⟩;obtain⟨h1,h2⟩:=a4 _ (aF hk);rcases gx.2 _ h with h|h
   ·exact h2 h
   ·have:=ny h1;omega
 have a7:=g1.lt;have aw:∀ {C:Nat->Prop} {W:World},cY K C w0 W->Ro W C RO:=λ{C W} hx p hp=>by
  obtain⟨h1,h2⟩:=a4 p hp;refine⟨hx.1.at h1 h2,λh=>?_⟩;rcases hx.2 _ h with h|h
  ·exact h2 h
  ·have:=ny h1;omega
 refine QP gf ao.toArray (ha.ev hg) a8 (hY w (λp hp=>(a5 p hp).1)) (λk ⟨p,hp,hk⟩=>⟨hk▸ny (a5 p hp).1,rfl⟩) (aS _) (λe=>by simp[bb])
  (λpre C W=>∃b,Inv pre b/\aP (LI pre b) C W) (λc pre C W=>∃b,X c pre b/\aP (LX c pre b) C W)
  (λpre e a1 C W=>∃b j,Inv pre b/\At N [] (σJ pre e b j) a1/\aP (LJ pre e b j) C W) ?_ ?_ ?_ C1 (λk hk=>⟨a7 k hk,λ⟨p,hp,e⟩=>(a5 p hp).2 (e▸hk)⟩) ⟨b0,h0,g1⟩ ?_ ?_ ?_ ?_
 ·rintro pre C W W' ⟨b,h1,h2⟩ hs hk;exact⟨b,h1,h2.loc hs hk⟩
 ·rintro c pre C W W' ⟨b,h1,h2⟩ hs hk;exact⟨b,h1,h2.loc hs hk⟩
 ·rintro pre e a1 _ C W W' ⟨b,j,h1,h2,h3⟩ hs hk;exact⟨b,j,h1,h2,h3.loc hs hk⟩
 ·rintro l pre e post C W1 J q ⟨b,hb,hi⟩ hn hl ⟨r,hr⟩;have M:cY K C w0 W1:=gx.trans q;refine wpIn_mono (ag l r pre e post b W1 C J M ((aw M).snoc hr hn) hb _ W1 (ha.zip ps (enc e) bh) ⟨C,hi,cY.refl _ _⟩) ?_;rintro ex a' w' hq;cases ex with
  |normal=>
   obtain⟨j,hj,C',bs,a9⟩:=hq;exact⟨C',a9,b,j,hb,hj,bs⟩
  |_=>exact hq
 ·rintro l pre e post C W1 a1 J q ⟨b,j,hb,bk,hi⟩ hn hl ⟨r,hr⟩;have M:cY K C w0 W1:=gx.trans q;refine wpIn_mono (a3 l r pre e post b j W1 C J M ((aw M).snoc hr hn) hb a1 W1 bk ⟨C,hi,cY.refl _ _⟩) ?_;rintro ex a' w' hq;cases ex with
  |normal=>obtain⟨b',h1,C',h2,h3⟩:=hq;exact⟨C',h3,b',h1,h2⟩
  |ret=>obtain⟨b',h1,C',h2,h3⟩:=hq;exact⟨C',h3,b',h1,h2⟩
  |exit id=>obtain⟨b',h1,C',h2,h3⟩:=hq;exact⟨C',h3,b',h1,h2⟩
  |goto id=>obtain⟨b',h1,C',h2,h3⟩:=hq;exact⟨C',h3,b',h1,h2⟩
  |panic _=>exact hq
  |outgrown=>exact hq
 ·rintro d C W q ⟨b,hb,hi⟩ hd a6 H;refine a2 d b hb _ W ⟨ha.1,by rw[<-ha.2.1],ha.2.2⟩ (Z _ (λk=>C k\/k=d) W ⟨q.1,λk hk=>?_⟩ ?_)
  ·rcases hk with hk|rfl
   ·exact q.2 k hk
   ·exact .inr ⟨hd,ny H⟩
  ·exact hi.append (aP.one ⟨λk=>Iff.rfl,H⟩) (λk hk e=>a6 (e▸hk))
 ·rintro d c pre e post C W J q ⟨b,hb,hi⟩ hd a6 H;refine a0 d c pre e post b J hb _ W ⟨ha.1,by rw[<-ha.2.1],ha.2.2⟩ (Z _ (λk=>C k\/k=d) W ⟨q.1,λk hk=>?_⟩ ?_)
  ·rcases hk with hk|rfl
   ·exact q.2 k hk
   ·exact .inr ⟨hd,ny H⟩
  ·exact hi.append (aP.one ⟨λk=>Iff.rfl,H⟩) (λk hk e=>a6 (e▸hk))
end
end
def jn:List Nat->Bool
 |[]=>true
 |x::l=>!l.contains x&&jn l
theorem xF:∀ {l:List Nat},jn l=true->l.Nodup
 |[],_=>List.nodup_nil
 |x::l,h=>by
  simp only[jn,aN,cX] at h;exact ka.2 ⟨by have:=h.1;simpa using this,xF h.2⟩
open Classical in
noncomputable def dl (D:Nat->Prop):List (Nat×Nat×Value)->List (Nat×Value)
 |[]=>[]
 |(i,t,v)::r=>if D i then (t,v)::dl D r else dl D r
theorem Gf {D:Nat->Prop} (σ:List (Nat×Value)):∀ {l:List (Nat×Nat×Value)} {m i t:Nat} {v:Value},(l.map (λp=>p.2.1)).Nodup->l[m]?=some (i,t,v)->D i->(dl D l++σ).lookup t=some v
 |[],m,i,t,v,_,hm,_=>by simp at hm
 |(i',t',v')::r,0,i,t,v,hu,hm,hd=>by
  simp at hm;obtain⟨rfl,rfl,rfl⟩:=hm;simp[dl,hd]
 |(i',t',v')::r,m+1,i,t,v,hu,hm,hd=>by
  simp only[au,ka] at hu;have q:r[m]?=some (i,t,v):=by simpa using hm
  have J:=Gf σ hu.2 q hd;have H:(t==t')=false:=by
   have:t∈r.map (λp=>p.2.1):=aT.2 ⟨_,aF q,rfl⟩;simp;rintro rfl;exact hu.1 this
  simp only[dl];split
  ·simp only[aW,eI,H];exact J
  ·exact J
theorem jY {D:Nat->Prop} {σ:List (Nat×Value)} {l:List (Nat×Nat×Value)} (m:Nat){i t:Nat} {v:Value} (hu:jn (l.map (λp=>p.2.1))=true) (hm:l[m]?=some (i,t,v)) (hd:D i):(dl D l++σ).lookup t=some v:=Gf _ (xF hu) hm hd
theorem eG {D:Nat->Prop} {σ:List (Nat×Value)} {t:Nat} {v:Value}:∀ {l:List (Nat×Nat×Value)},(l.map (λp=>p.2.1)).contains t=false->σ.lookup t=some v->(dl D l++σ).lookup t=some v
 |[],_,h=>h
 |(i',t',v')::r,hc,h=>by
  simp only[au,iC,bU] at hc;have q:=eG (D:=D) hc.2 h;simp only[dl];split
  ·simp only[aW,eI,hc.1];exact q
  ·exact q
theorem KF {D:Nat->Prop} {σ:List (Nat×Value)} {t:Nat}:∀ {l:List (Nat×Nat×Value)},(l.map (λp=>p.2.1)).contains t=false->(dl D l++σ).lookup t=σ.lookup t
 |[],_=>rfl
 |(i',t',v')::r,hc=>by
  simp only[au,iC,bU] at hc;have q:=KF (D:=D) (σ:=σ) hc.2;simp only[dl];split
  ·simp only[aW,eI,hc.1];exact q
  ·exact q
theorem KG {D:Nat->Prop} {σ:List (Nat×Value)} {q:List (Nat×Nat×Value)} {m i t:Nat} {v:Value} (hu:(q.map (λp=>p.2.1)).Nodup) (hi:(q.map (λp=>p.1)).Nodup) (hm:q[m]?=some (i,t,v)) : sr ((t,v)::(dl D q++σ)) (dl (λj=>D j\/j=i) q++σ):=by
 have key:∀ (l:List (Nat×Nat×Value)) (s:Nat) (u:Value),(∀p∈l,p.1=i->p.2.1=t/\p.2.2=v)->(∀p∈l,p.2.1=t->p.1=i)->(Go.Proofs.YtncjnoakkghmmaaGreatDoor.dl (λj=>D j\/j=i) l++σ).lookup s=some u->s≠t->(Go.Proofs.YtncjnoakkghmmaaGreatDoor.dl D l++σ).lookup s=some u:=by
  intro l
  induction l with
  |nil=>intro s u _ _ h _;exact h
  |cons p l W=>
   obtain⟨i',t',v'⟩:=p;intro s u h1 h2 h H;have W:=λh=>W s u (λp hp=>h1 p (ak _ hp)) (λp hp=>h2 p (ak _ hp)) h H;simp only[Go.Proofs.YtncjnoakkghmmaaGreatDoor.dl] at h |-
   by_cases hd:D i'
   ·rw[aj (.inl hd)] at h;rw[aj hd];simp only[aW,eI] at h |-
    split at h
    ·exact h
    ·exact W h
   ·rw[ai hd];by_cases M:i'=i
    ·rw[aj (.inr M)] at h;obtain⟨h3,_⟩:=h1 _ (ar ..) M;have h4:t'=t:=h3;simp only[aW,eI] at h;split at h
     ·rename_i e;exact absurd ((by simpa using e:s=t').trans h4) H
     ·exact W h
    ·rw[ai (by rintro (h | h);exact hd h;exact M h)] at h;exact W h
 have h1:∀p∈q,p.1=i->p.2.1=t/\p.2.2=v:=by
  intro p hp e;obtain⟨n,Z⟩:=iZ.1 hp;have e1:(q.map (λp=>p.1))[n]?=some i:=by simp[Z,e]
  have e2:(q.map (λp=>p.1))[m]?=some i:=by simp[hm]
  have hl:n<(q.map (λp=>p.1)).length:=(aq.1 e1).1;have:=(va hl hi).1 (e1.trans e2.symm);subst this;rw[Z] at hm;cases hm;exact⟨rfl,rfl⟩
 have h2:∀p∈q,p.2.1=t->p.1=i:=by
  intro p hp e;obtain⟨n,Z⟩:=iZ.1 hp;have e1:(q.map (λp=>p.2.1))[n]?=some t:=by simp[Z,e]
  have e2:(q.map (λp=>p.2.1))[m]?=some t:=by simp[hm]
  have hl:n<(q.map (λp=>p.2.1)).length:=(aq.1 e1).1;have:=(va hl hu).1 (e1.trans e2.symm);subst this;rw[Z] at hm;cases hm;rfl
 intro a N dfs ha;refine⟨ha.1,ha.2.1,λs u hs=>?_⟩;by_cases J:s=t
 ·subst J;have:=Gf σ (D:=λj=>D j\/j=i) hu hm (.inr rfl);rw[this] at hs;cases hs;exact ha.2.2 _ _ (by simp[eI])
 ·refine ha.2.2 s u ?_;have H:(s==t)=false:=by simpa using J
  simp only[eI,H];exact key q s u h1 h2 hs J
theorem KH {D:Nat->Prop} {i:Nat}:∀ {l:List (Nat×Nat×Value)},(l.map (λp=>p.1)).contains i=false->dl (λj=>D j\/j=i) l=dl D l
 |[],_=>rfl
 |(i',t',v')::r,hc=>by
  simp only[au,iC,bU] at hc;have H:=KH (D:=D) hc.2;have q:¬i'=i:=by have:=hc.1;simp at this;exact λh=>this h.symm
  simp only[dl,H];by_cases hd:D i'
  ·rw[aj (.inl hd),aj hd]
  ·rw[ai hd,ai (by rintro (h | h);exact hd h;exact q h)]
theorem vp:∀ {D:Nat->Prop} {l:List (Nat×Nat×Value)},(∀p∈l,D p.1)->dl D l=l.map (λp=>p.2)
 |D,[],_=>rfl
 |D,(i',t',v')::r,h=>by
  simp only[dl,au];rw[aj (h _ (ar ..)),vp (λp hp=>h p (ak _ hp))]
theorem zZ:∀ {l:List (Nat×Nat×Value)},dl (λ_=>False) l=[]
 |[]=>rfl
 |(i',t',v')::r=>by simp[dl,zZ]
def xG (acc:List (List Nat)) (o:Oper):List (List Nat):=acc++[(kf o++(kf o).flatMap (λj=>acc.getD j [])).eraseDups]
def sU (l:List Oper):List (List Nat):=l.foldl xG []
def wy (l:List Oper) (n:Nat):Bool:=((sU l).zipIdx.drop n).all λp=>(List.range p.2).all λj=>p.1.contains j
def KI (l:List Oper) (acc:List (List Nat)):Prop :=
 ∀i o,i<acc.length->l[i]?=some o->∀j∈acc.getD i [],∀ (D:Nat->Prop),(∀k q,l[k]?=some q->D k->∀j∈kf q,D j)->(∀j∈kf o,D j)->D j
theorem Gg:∀ (l done:List Oper) (acc:List (List Nat)),acc.length=done.length->KI (done++l) acc->(l.foldl xG acc).length=(done++l).length/\KI (done++l) (l.foldl xG acc)
 |[],done,acc,hl,hB=>⟨by simpa using hl,hB⟩
 |o::l,done,acc,hl,hB=>by
  have:=Gg l (done++[o]) (xG acc o) (by simp[xG,hl]) (by
   rw[av];intro i o' hi M j hj D hD hd;unfold xG at hi hj;by_cases H:i<acc.length
   ·rw[cR,ea H] at hj;exact hB i o' H M j (by rw[cR];exact hj) D hD hd
   ·have ag:i=acc.length:=by simp at hi;omega
    subst ag;have J:o=o':=by rw[hl] at M;simpa using M
    subst J;rw[cR] at hj;simp only[List.getElem?_concat_length,Option.getD_some,List.mem_eraseDups,bv,jD] at hj;rcases hj with hj|⟨k,hk,hj⟩
    ·exact hd j hj
    ·have Z:=hd k hk;by_cases W:k<acc.length
     ·obtain⟨ok,q⟩:∃ok,(done++o::l)[k]?=some ok:=⟨_,aJ (by simp;omega)⟩;exact hB k ok W q j hj D hD (hD k ok q Z)
     ·rw[cR,ja z1] at hj;simp at hj)
  rwa [av] at this
theorem Gh (l:List Oper):(sU l).length=l.length:=(Gg l [] [] rfl (λi o h=>by simp at h)).1
theorem Gi (l:List Oper) (i:Nat) (o:Oper) (H:l[i]?=some o):∀j∈(sU l).getD i [],∀ (D:Nat->Prop),(∀k q,l[k]?=some q->D k->∀j∈kf q,D j)->(∀j∈kf o,D j)->D j :=
 (Gg l [] [] rfl (λi o h=>by simp at h)).2 i o (by have:=Gh l;unfold sU at this;rw[this];exact (aq.1 H).1) H
section
variable {F:Fence} {P:Program} {w0:World} {K:Nat->Prop} {N:Nat} {dfs:List Deferred} {Q:Exit->Act->World->Prop} {σ:List (Nat×Value)} {L:List bG}
def bM (F:Fence) (P:Program) (w0:World) (K:Nat->Prop) (N:Nat) (dfs:List Deferred) (Q:Exit->Act->World->Prop) (ops:Array Oper) (σ:List (Nat×Value)) (L:List bG) (l:List (Nat×Nat×Value)):List Oper->Nat->Prop
 |[],_=>True
 |o::rest,i=>(∀D:Nat->Prop,¬D i->(∀j∈kf o,D j)->Clo ops D->jn (l.map (λp=>p.2.1))=true->jn (l.map (λp=>p.1))=true ->
   TO F P w0 K N dfs ops (Exit.then (λa w=>At N dfs (dl (λj=>D j\/j=i) l++σ) a/\Holds w0 K L w) Q) [o] (dl D l++σ) L)/\bM F P w0 K N dfs Q ops σ L l rest (i+1)
theorem bM.nil {ops:Array Oper} {l:List (Nat×Nat×Value)} {i:Nat}:bM F P w0 K N dfs Q ops σ L l [] i:=trivial
theorem bQ {ops:Array Oper} {l:List (Nat×Nat×Value)} {o:Oper} {rest:List Oper} {i:Nat} (h:∀D:Nat->Prop,¬D i->(∀j∈kf o,D j)->Clo ops D->jn (l.map (λp=>p.2.1))=true->jn (l.map (λp=>p.1))=true -> TO F P w0 K N dfs ops (Exit.then (λa w=>At N dfs (dl (λj=>D j\/j=i) l++σ) a/\Holds w0 K L w) Q) [o] (dl D l++σ) L) (q:bM F P w0 K N dfs Q ops σ L l rest (i+1)) : bM F P w0 K N dfs Q ops σ L l (o::rest) i:=⟨h,q⟩
theorem bM.get {ops:Array Oper} {q:List (Nat×Nat×Value)}:∀ {l:List Oper} {k:Nat},bM F P w0 K N dfs Q ops σ L q l k->∀i o,l[i]?=some o->∀D:Nat->Prop,¬D (k+i)->(∀j∈kf o,D j)->Clo ops D->jn (q.map (λp=>p.2.1))=true->jn (q.map (λp=>p.1))=true ->
   TO F P w0 K N dfs ops (Exit.then (λa w=>At N dfs (dl (λj=>D j\/j=k+i) q++σ) a/\Holds w0 K L w) Q) [o] (dl D q++σ) L
 |[],k,_,i,o,h=>by simp at h
 |x::l,k,h,0,o,ho=>by simp at ho;subst ho;exact h.1
 |x::l,k,h,i+1,o,ho=>by
  have:=bM.get h.2 i o (by simpa using ho);rwa [show k+1+i=k+(i+1) by omega] at this
theorem Df {ops:Array Oper} {l:List (Nat×Nat×Value)} {D:Nat->Prop} (m:Nat) {i t:Nat} {v:Value} (hu:jn (l.map (λp=>p.2.1))=true) (hi:jn (l.map (λp=>p.1))=true) (hm:l[m]?=some (i,t,v)) : TO F P w0 K N dfs ops (Exit.then (λa w=>At N dfs (Go.Proofs.YtncjnoakkghmmaaGreatDoor.dl (λj=>D j\/j=i) l++σ) a/\Holds w0 K L w) Q) [] ((t,v)::(Go.Proofs.YtncjnoakkghmmaaGreatDoor.dl D l++σ)) L:=λa w ha q=>⟨KG (xF hu) (xF hi) hm _ _ _ ha,q⟩
theorem Rb {ops:Array Oper} {l:List (Nat×Nat×Value)} {D:Nat->Prop} {i:Nat} (h:(l.map (λp=>p.1)).contains i=false) : TO F P w0 K N dfs ops (Exit.then (λa w=>At N dfs (dl (λj=>D j\/j=i) l++σ) a/\Holds w0 K L w) Q) [] (dl D l++σ) L:=λa w ha q=>⟨by rw[KH h];exact ha,q⟩
theorem me {ops:Array Oper} {S:List (Nat×Value)} {j t:Nat} {b:Bool} (hj:(ops[j]?).bind (·.dst)=some t) (h:S.lookup t=some (.bool b)):gd ops S (some (j,b))=some true:=by
 simp[gd,hj,h]
theorem zIT {ops:Array Oper} {S:List (Nat×Value)} {j t:Nat} {b:Bool} (hj:(ops[j]?).bind (·.dst)=some t) (h:S.lookup t=some (.bool (!b))):gd ops S (some (j,b))=some false:=by
 simp[gd,hj,h]
theorem zIS {ops:Array Oper} {S:List (Nat×Value)} {j t:Nat} {b:Bool} (hj:(ops[j]?).bind (·.dst)=some t) (h:S.lookup t=some undef):gd ops S (some (j,b))=some false:=by
 simp[gd,hj,h,undef]
theorem Rc (id:Nat) (pre tail:List Oper) (H:List (Nat×Nat×Value)) (hm:P.follows .mixedOrders=true) (bk:((pre++tail).zipIdx.all λ(o,i)=>(kf o).all λj=>decide (j<i))=true) (hT:wy (pre++tail) pre.length=true) (hval:H.all (λp=>decide (p.1<pre.length))=true) (hu:jn (H.map (λp=>p.2.1))=true) (hi:jn (H.map (λp=>p.1))=true) (a3:bM F P w0 K N dfs Q (pre++tail).toArray σ L H pre 0) (ag:TO F P w0 K N dfs (pre++tail).toArray Q tail (H.map (λp=>p.2)++σ) L):TC F P w0 K N dfs Q (.region id (pre++tail).toArray true) σ L:=by
 intro a w ha hw;have a7:∀ (D:Nat->Prop),Clo (pre++tail).toArray D->∀i o,pre.length<=i->(pre++tail)[i]?=some o->(∀j∈kf o,D j)->∀j<i,D j:=by
  intro D M i o hi ho hd j hj;have a4:=Gh (pre++tail);have a5:i<(sU (pre++tail)).length:=by rw[a4];exact (aq.1 ho).1
  have h1:=bm.1 hT ((sU (pre++tail))[i],i) (by
   rw[iZ];refine⟨i-pre.length,?_⟩;rw[iD,show pre.length+(i-pre.length)=i by omega,lZ,aJ a5];simp)
  have h2:=bm.1 h1 j (by simpa using hj);have h3:j∈(sU (pre++tail)).getD i []:=by
   rw[cR,aJ a5];simpa using h2
  exact Gi _ i o ho j h3 D (λk o' hk=>M k o' (by simpa using hk)) hd
 obtain⟨J,hJ⟩:∃J:(Nat->Prop)->Act->World->Prop,J=(λD a w=>Clo (pre++tail).toArray D/\((∃k,0<k/\(∀j,D j↔j<pre.length+k)/\wpListIn F 0 P (pre++tail).toArray Q (tail.drop k) a w)\/((∀j,D j->j<pre.length)/\At N dfs (dl D H++σ) a/\Holds w0 K L w))):=⟨_,rfl⟩;refine C8 hm (by simpa using bk) J (by subst hJ;exact
  ⟨λi o _ h=>h.elim,.inr ⟨λ_ h=>h.elim,by rw[zZ];exact ha,hw.drew⟩⟩) ?_ ?_
 ·have all:∀ (l:List Oper) (k:Nat),(∀i o,l[i]?=some o->(pre++tail)[k+i]?=some o)->gU F 0 P (pre++tail).toArray Q J l k:=by
   intro l
   induction l with
   |nil=>intro k _;trivial
   |cons o l ih=>
    intro k hl;refine⟨?_,ih (k+1) (λi o' bb=>by have:=hl (i+1) o' (by simpa using bb);rwa [show k+1+i=k+(i+1) by omega])⟩;have ho:(pre++tail)[k]?=some o:=hl 0 o rfl;subst hJ;rintro D a w hn hd ⟨M,hI⟩;have aw:Clo (pre++tail).toArray (λj=>D j\/j=k):=M.add (by simpa using ho) hd;have tl:∀ (m:Nat),(∀j,D j↔j<pre.length+m)->wpListIn F 0 P (pre++tail).toArray Q (tail.drop m) a w->pre.length<=k ->
      wpListIn F 0 P (pre++tail).toArray (Exit.then (λa w=>Clo (pre++tail).toArray (λj=>D j\/j=k)/\((∃k',0<k'/\(∀j,(D j\/j=k)↔j<pre.length+k')/\wpListIn F 0 P (pre++tail).toArray Q (tail.drop k') a w)\/((∀j,(D j\/j=k)->j<pre.length)/\At N dfs (dl (λj=>D j\/j=k) H++σ) a/\Holds w0 K L w))) Q) [o] a w:=by
     intro m W q hk;have b2:k=pre.length+m:=by
      have h1:¬k<pre.length+m:=λh=>hn ((W k).2 h);have h2:=a7 D M k o hk ho hd;by_cases h3:pre.length+m<k
      ·have:=(W _).1 (h2 _ h3);omega
      ·omega
     have a1:tail.drop m=o::tail.drop (m+1):=by
      rw[eK hk,show k-pre.length=m by omega] at ho;obtain⟨h1,h2⟩:=aq.1 ho;rw[<-h2];exact aQ h1
     rw[a1] at q;have a2:∀a' w',wpListIn F 0 P (pre++tail).toArray Q (tail.drop (m+1)) a' w'->(Clo (pre++tail).toArray (λj=>D j\/j=k)/\((∃k',0<k'/\(∀j,(D j\/j=k)↔j<pre.length+k')/\wpListIn F 0 P (pre++tail).toArray Q (tail.drop k') a' w')\/((∀j,(D j\/j=k)->j<pre.length)/\At N dfs (dl (λj=>D j\/j=k) H++σ) a'/\Holds w0 K L w'))) :=
      λa' w' h=>⟨aw,.inl ⟨m+1,by omega,λj=>by rw[W];omega,h⟩⟩
     have a6:wpListIn F 0 P (pre++tail).toArray (Exit.then (wpListIn F 0 P (pre++tail).toArray Q (tail.drop (m+1))) Q) [o] a w:=by
      simp only[wpListIn] at q |-
      split
      ·rename_i a0;rw[aj a0] at q;unfold qU at q |-
       refine⟨q.1,?_⟩;have hh:=q.2;generalize (o.semAt F.round a.eval).run P w=r at *;cases r with
       |ok x w'=>
        cases x<;>simp only[iF] at hh |- <;>
         first
          |exact hh
          |exact⟨hh.1,mR hh.2 (λe a8 he=>by cases e<;>exact he)⟩
          |exact⟨hh.1,nX hh.2 (λ_ _ he=>he)⟩
          |exact⟨hh.1,mS hh.2 (λe a8 he=>by cases e<;>exact he)⟩
       |halt x w'=>cases x<;>simp only[iF] at hh |-<;>exact hh
      ·rename_i a0;rw[ai a0] at q;exact q
     exact ql a2 a6
    rcases hI with⟨m,bh,W,q⟩|⟨W,Z,ao⟩
    ·refine tl m W q ?_;have:¬k<pre.length+m:=λh=>hn ((W k).2 h);omega
    ·by_cases hk:k<pre.length
     ·have a9:pre[k]?=some o:=by rw[ea hk] at ho;exact ho
      have:=a3.get k o a9 D (by rwa [bY]) hd M hu hi a w Z ao;rw[bY] at this;refine ql (λa' w' h=>⟨aw,.inr ⟨λj hj=>?_,h.1,h.2⟩⟩) this;rcases hj with hj|rfl
      ·exact W j hj
      ·exact hk
     ·have hall:=a7 D M k o z1 ho hd;have b3:k=pre.length:=by
       by_cases h:pre.length<k
       ·have:=W _ (hall _ h);omega
       ·omega
      have b1:∀j,D j↔j<pre.length+0:=λj=>⟨λh=>by have:=W j h;omega,λh=>hall j z1⟩;refine tl 0 b1 ?_ z1;rw[fj];refine ag a w ?_ ao;rw[vp (λp hp=>hall _ (by have:=bm.1 hval p hp;simp at this;omega))] at Z;exact Z
  exact all _ 0 (λi o ho=>by simpa using ho)
 ·subst hJ;rintro D a w W ⟨M,hI⟩;have hsz:(pre++tail).toArray.size=pre.length+tail.length:=by simp
  rcases hI with⟨m,bh,b0,q⟩|⟨bs,Z,ao⟩
  ·have:tail.length<=m:=by
    by_cases h:m<tail.length
    ·have:=(b0 (pre.length+m)).1 (W _ (by rw[hsz];omega));omega
    ·omega
   rw[bD this] at q;exact q
  ·have a1:tail=[]:=by
    rcases tail with _|⟨o,tail⟩
    ·rfl
    ·have:=bs pre.length (W _ (by rw[hsz];simp));omega
   subst a1;rw[vp (λp hp=>W _ (by have:=bm.1 hval p hp;simp at this;rw[hsz];omega))] at Z;exact ag a w Z ao
theorem KJ {D:Nat->Prop} {t:Nat} {v:Value}:∀ {l:List (Nat×Nat×Value)},(l.map (λp=>p.2.1)).contains t=false->sr ((t,v)::(Go.Proofs.YtncjnoakkghmmaaGreatDoor.dl D l++σ)) (Go.Proofs.YtncjnoakkghmmaaGreatDoor.dl D l++((t,v)::σ)):=by
 intro l hc a N dfs ha;refine⟨ha.1,ha.2.1,λs u J=>ha.2.2 s u ?_⟩;by_cases q:s=t
 ·subst q;rw[KF hc] at J;simpa [eI] using J
 ·have H:(s==t)=false:=by simpa using q
  have:∀ (vs:List (Nat×Nat×Value)),(Go.Proofs.YtncjnoakkghmmaaGreatDoor.dl D vs++((t,v)::σ)).lookup s=(Go.Proofs.YtncjnoakkghmmaaGreatDoor.dl D vs++σ).lookup s:=by
   intro vs
   induction vs with
   |nil=>simp[Go.Proofs.YtncjnoakkghmmaaGreatDoor.dl,eI,H]
   |cons p vs M=>
    obtain⟨i,t',W⟩:=p;simp only[Go.Proofs.YtncjnoakkghmmaaGreatDoor.dl];split
    ·simp only[aW,eI,M]
    ·exact M
  rw[this] at J;simp only[eI,H];exact J
theorem xH {ops:Array Oper} {Q:Exit->Act->World->Prop} {o:Oper} {r:List Oper} {a:Act} {w:World} (l:wpListIn F 0 P ops Q (o::r) a w):wpListIn F 0 P ops (Exit.then (wpListIn F 0 P ops Q r) Q) [o] a w:=by
 simp only[wpListIn] at l |-
 split
 ·rename_i D;rw[aj D] at l;unfold qU at l |-
  refine⟨l.1,?_⟩;have q:=l.2;generalize (o.semAt F.round a.eval).run P w=r at *;cases r with
  |ok x w'=>
   cases x<;>simp only[iF] at q |- <;>
    first
     |exact q
     |exact⟨q.1,mR q.2 (λe H he=>by cases e<;>exact he)⟩
     |exact⟨q.1,nX q.2 (λ_ _ he=>he)⟩
     |exact⟨q.1,mS q.2 (λe H he=>by cases e<;>exact he)⟩
  |halt x w'=>cases x<;>simp only[iF] at q |-<;>exact q
 ·rename_i D;rw[ai D] at l;exact l
theorem Gj {l:List Oper} {n:Nat} (Z:wy l n=true):∀ (D:Nat->Prop),Clo l.toArray D->∀i o,n<=i->l[i]?=some o->(∀j∈kf o,D j)->∀j<i,D j:=by
 intro D J i o hi M hd j hj;have q:=Gh l;have H:i<(sU l).length:=by rw[q];exact (aq.1 M).1
 have h1:=bm.1 Z ((sU l)[i],i) (by
  rw[iZ];refine⟨i-n,?_⟩;rw[iD,show n+(i-n)=i by omega,lZ,aJ H];simp)
 have h2:=bm.1 h1 j (by simpa using hj);have h3:j∈(sU l).getD i []:=by
  rw[cR,aJ H];simpa using h2
 exact Gi _ i o M j h3 D (λk W hk=>J k W (by simpa using hk)) hd
def ce (F:Fence) (P:Program) (w0:World) (K:Nat->Prop) (N:Nat) (dfs:List Deferred) (Q:Exit->Act->World->Prop) (ops:Array Oper) (σ:List (Nat×Value)) (L:List bG) (l:List (Nat×Nat×Value)) (e:Nat):List Oper->Nat->Prop
 |[],_=>True
 |o::rest,i=>(i≠e->∀D:Nat->Prop,¬D i->(∀j∈kf o,D j)->Clo ops D->jn (l.map (λp=>p.2.1))=true->jn (l.map (λp=>p.1))=true ->
   TO F P w0 K N dfs ops (Exit.then (λa w=>At N dfs (dl (λj=>D j\/j=i) l++σ) a/\Holds w0 K L w) Q) [o] (dl D l++σ) L)/\ce F P w0 K N dfs Q ops σ L l e rest (i+1)
theorem ce.nil {ops:Array Oper} {l:List (Nat×Nat×Value)} {e i:Nat}:ce F P w0 K N dfs Q ops σ L l e [] i:=trivial
theorem fw {ops:Array Oper} {l:List (Nat×Nat×Value)} {o:Oper} {rest:List Oper} {e i:Nat} (h:∀D:Nat->Prop,¬D i->(∀j∈kf o,D j)->Clo ops D->jn (l.map (λp=>p.2.1))=true->jn (l.map (λp=>p.1))=true -> TO F P w0 K N dfs ops (Exit.then (λa w=>At N dfs (dl (λj=>D j\/j=i) l++σ) a/\Holds w0 K L w) Q) [o] (dl D l++σ) L) (q:ce F P w0 K N dfs Q ops σ L l e rest (i+1)) : ce F P w0 K N dfs Q ops σ L l e (o::rest) i:=⟨λ_=>h,q⟩
theorem ce.here {ops:Array Oper} {l:List (Nat×Nat×Value)} {o:Oper} {rest:List Oper} {e:Nat} (q:ce F P w0 K N dfs Q ops σ L l e rest (e+1)) : ce F P w0 K N dfs Q ops σ L l e (o::rest) e:=⟨λh=>absurd rfl h,q⟩
theorem ce.get {ops:Array Oper} {q:List (Nat×Nat×Value)} {e:Nat}:∀ {l:List Oper} {k:Nat},ce F P w0 K N dfs Q ops σ L q e l k->∀i o,l[i]?=some o->k+i≠e->∀D:Nat->Prop,¬D (k+i)->(∀j∈kf o,D j)->Clo ops D->jn (q.map (λp=>p.2.1))=true->jn (q.map (λp=>p.1))=true ->
   TO F P w0 K N dfs ops (Exit.then (λa w=>At N dfs (dl (λj=>D j\/j=k+i) q++σ) a/\Holds w0 K L w) Q) [o] (dl D q++σ) L
 |[],k,_,i,o,h=>by simp at h
 |x::l,k,h,0,o,ho=>by simp at ho;subst ho;exact h.1
 |x::l,k,h,i+1,o,ho=>by
  have:=ce.get h.2 i o (by simpa using ho);rwa [show k+1+i=k+(i+1) by omega] at this
theorem Dh {id:Nat} {l:List Oper} (β:Type) (n e:Nat) (o:Oper) (H:List (Nat×Nat×Value)) (s1:β->List (Nat×Value)) (L1:β->List bG) (hm:P.follows .mixedOrders=true) (b0:(l.zipIdx.all λ(o,i)=>(kf o).all λj=>decide (j<i))=true) (hT:wy l n=true) (ho:l[e]?=some o) (b8:e<n) (bk:n<=l.length) (hval:H.all (λp=>decide (p.1<n)&&p.1 != e)=true) (hu:jn (H.map (λp=>p.2.1))=true) (hi:jn (H.map (λp=>p.1))=true) (a4:ce F P w0 K N dfs Q l.toArray σ L H e (l.take n) 0) (a2:∀b,ce F P w0 K N dfs Q l.toArray (s1 b++σ) (L1 b) H e (l.take n) 0) (a7:∀D:Nat->Prop,¬D e->(∀j∈kf o,D j)->Clo l.toArray D->TO F P w0 K N dfs l.toArray (Exit.then (λa w=>∃b,At N dfs (dl D H++(s1 b++σ)) a/\Holds w0 K (L1 b) w) Q) [o] (dl D H++σ) L) (a0:∀b,TO F P w0 K N dfs l.toArray Q (l.drop n) (H.map (λp=>p.2)++(s1 b++σ)) (L1 b)):TC F P w0 K N dfs Q (.region id l.toArray true) σ L:=by
 intro a w ha hw;have a8:=Gj hT;have b9:e<l.length:=(aq.1 ho).1;obtain⟨J,hJ⟩:∃J:(Nat->Prop)->Act->World->Prop,J=(λD a w=>Clo l.toArray D/\((∃k,n<k/\(∀j,D j↔j<k)/\wpListIn F 0 P l.toArray Q (l.drop k) a w) \/
  ((∀j,D j->j<n)/\((¬D e/\At N dfs (dl D H++σ) a/\Holds w0 K L w)\/(D e/\∃b,At N dfs (dl D H++(s1 b++σ)) a/\Holds w0 K (L1 b) w))))):=⟨_,rfl⟩
 have b3:∀ (D:Nat->Prop),dl (λj=>D j\/j=e) H=dl D H:=λD=>by
  have:∀ (vs:List (Nat×Nat×Value)),vs.all (λp=>decide (p.1<n)&&p.1 != e)=true->dl (λj=>D j\/j=e) vs=dl D vs:=by
   intro vs
   induction vs with
   |nil=>intro _;rfl
   |cons p vs ih=>
    obtain⟨i,t,v⟩:=p;intro h;simp only[List.all_cons,aN,decide_eq_true_eq,cQ,ne_eq] at h;simp only[dl,ih h.2];by_cases hd:D i
    ·rw[aj (.inl hd),aj hd]
    ·rw[ai hd,ai (by rintro (h' | h');exact hd h';exact h.1.2 h')]
  exact this H hval
 have a3:∀p∈H,p.1<n:=λp hp=>by
  have:=bm.1 hval p hp;simp only[aN,decide_eq_true_eq] at this;exact this.1
 refine C8 hm (by simpa using b0) J (by subst hJ;exact⟨λi o _ h=>h.elim,.inr ⟨λ_ h=>h.elim,.inl ⟨λh=>h,by rw[zZ];exact ha,hw.drew⟩⟩⟩) ?_ ?_
 ·have all:∀ (m:List Oper) (k:Nat),(∀i o,m[i]?=some o->l[k+i]?=some o)->gU F 0 P l.toArray Q J m k:=by
   intro m
   induction m with
   |nil=>intro k _;trivial
   |cons q m ih=>
    intro k hl;refine⟨?_,ih (k+1) (λi o' bh=>by have:=hl (i+1) o' (by simpa using bh);rwa [show k+1+i=k+(i+1) by omega])⟩;have hq:l[k]?=some q:=hl 0 q rfl;subst hJ;rintro D a w hn hd ⟨aw,hI⟩;have ao:Clo l.toArray (λj=>D j\/j=k):=aw.add (by simpa using hq) hd;have b7:k<l.length:=(aq.1 hq).1;have a1:l.drop k=q::l.drop (k+1):=by
     obtain⟨h1,h2⟩:=aq.1 hq;rw[<-h2];exact aQ h1
    rcases hI with⟨m,bs,hD,ag⟩|⟨hD,hI⟩
    ·have b1:k=m:=by
      have h1:¬k<m:=λh=>hn ((hD k).2 h);have h2:=a8 D aw k q z1 hq hd;by_cases h3:m<k
      ·have:=(hD _).1 (h2 _ h3);omega
      ·omega
     subst b1;rw[a1] at ag;refine ql (λa' w' h=>⟨ao,.inl ⟨k+1,by omega,λj=>?_,h⟩⟩) (xH ag);show D j\/j=k↔_;rw[hD];omega
    ·by_cases hk:k<n
     ·by_cases a6:k=e
      ·subst a6;have bb:q=o:=by rw[ho] at hq;exact (kV hq).symm
       subst bb;rcases hI with⟨M,W,Z⟩|⟨M,_⟩
       ·refine ql (λa' w' h=>⟨ao,.inr ⟨λj hj=>?_,.inr ⟨.inr rfl,?_⟩⟩⟩) (a7 D M hd aw a w W Z)
        ·rcases hj with hj|rfl
         ·exact hD j hj
         ·exact hk
        ·rw[b3];exact h
       ·exact absurd M hn
      ·have a5:(l.take n)[k]?=some q:=by rw[qx hk];exact hq
       rcases hI with⟨M,W,Z⟩|⟨M,b,W,Z⟩
       ·have:=a4.get k q a5 z1 D (by rwa [bY]) hd aw hu hi a w W Z;rw[bY] at this;refine ql (λa' w' h=>⟨ao,.inr ⟨λj hj=>?_,.inl ⟨?_,h.1,h.2⟩⟩⟩) this
        ·rcases hj with hj|rfl
         ·exact hD j hj
         ·exact hk
        ·rintro (h | h)
         ·exact M h
         ·exact a6 h.symm
       ·have:=(a2 b).get k q a5 z1 D (by rwa [bY]) hd aw hu hi a w W Z;rw[bY] at this;refine ql (λa' w' h=>⟨ao,.inr ⟨λj hj=>?_,.inr ⟨.inl M,b,h.1,h.2⟩⟩⟩) this;rcases hj with hj|rfl
        ·exact hD j hj
        ·exact hk
     ·have hall:=a8 D aw k q z1 hq hd;have b2:k=n:=by
       by_cases h:n<k
       ·have:=hD _ (hall _ h);omega
       ·omega
      subst b2;rcases hI with⟨M,_⟩|⟨M,b,W,Z⟩
      ·exact absurd (hall e z1) M
      ·have ag:wpListIn F 0 P l.toArray Q (l.drop k) a w:=by
        refine a0 b a w ?_ Z;rw[vp (λp hp=>hall _ (a3 p hp))] at W;exact W
       rw[a1] at ag;refine ql (λa' w' h=>⟨ao,.inl ⟨k+1,by omega,λj=>?_,h⟩⟩) (xH ag);refine⟨λhj=>?_,λhj=>?_⟩
       ·rcases hj with hj|rfl
        ·have:=hD j hj;omega
        ·omega
       ·by_cases h:j=k
        ·exact .inr h
        ·exact .inl (hall j z1)
  exact all _ 0 (λi o ho=>by simpa using ho)
 ·subst hJ;rintro D a w hD ⟨aw,hI⟩;have hsz:l.toArray.size=l.length:=by simp
  rcases hI with⟨m,bs,b5,ag⟩|⟨b4,hI⟩
  ·have:l.length<=m:=by
    by_cases h:m<l.length
    ·have:=(b5 m).1 (hD _ (by rw[hsz];omega));omega
    ·omega
   rw[bD this] at ag;exact ag
  ·have b6:l.length<=n:=by
    by_cases h:n<l.length
    ·have:=b4 n (hD _ (by rw[hsz];omega));omega
    ·omega
   rcases hI with⟨M,_⟩|⟨M,b,W,Z⟩
   ·exact absurd (hD e (by rw[hsz];omega)) M
   ·have a9:∀p∈H,p.1<l.length:=λp hp=>fx (a3 p hp) bk;have:=a0 b a w (by
     rw[vp (λp hp=>hD _ (by rw[hsz];exact a9 p hp))] at W;exact W) Z
    rw[bD z1] at this;exact this
theorem jU {id:Nat} {l:List Oper} (n:Nat) (q:List (Nat×Nat×Value)) (hm:P.follows .mixedOrders=true) (W:(l.zipIdx.all λ(o,i)=>(kf o).all λj=>decide (j<i))=true) (Z:wy l n=true) (hn:n<=l.length) (hval:q.all (λp=>decide (p.1<n))=true) (hu:jn (q.map (λp=>p.2.1))=true) (hi:jn (q.map (λp=>p.1))=true) (H:bM F P w0 K N dfs Q l.toArray σ L q (l.take n) 0) (D:TO F P w0 K N dfs l.toArray Q (l.drop n) (q.map (λp=>p.2)++σ) L):TC F P w0 K N dfs Q (.region id l.toArray true) σ L:=by
 have M:l.take n++l.drop n=l:=bo n l;have J:(l.take n).length=n:=by rw[aZ];omega
 have:=Rc id (l.take n) (l.drop n) (F:=F) (P:=P) (w0:=w0) (K:=K) (N:=N) (dfs:=dfs) (Q:=Q) (σ:=σ) (L:=L) q hm (by rw[M];exact W) (by rw[M,J];exact Z) (by rw[J];exact hval) hu hi (by rw[M];exact H) (by rw[M];exact D);rwa [M] at this
theorem evL.nil {σ:List (Nat×Value)}:evL σ []=some []:=rfl
theorem evL.cons {σ:List (Nat×Value)} {x:Operand} {v:Value} {r:List Operand} {l:List Value} (h1:ev σ x=some v) (h2:evL σ r=some l):evL σ (x::r)=some (v::l):=by simp[evL,h1,h2]
theorem evP.nil {σ:List (Nat×Value)}:evP σ []=some []:=rfl
theorem evP.cons {σ:List (Nat×Value)} {i:Nat} {x:Operand} {v:Value} {r:List (Nat×Operand)} {l:List (Nat×Value)} (h1:ev σ x=some v) (h2:evP σ r=some l):evP σ ((i,x)::r)=some ((i,v)::l):=by simp[evP,h1,h2]
theorem z6 {σ:List (Nat×Value)}:evO σ none=some none:=rfl
theorem evO.some {σ:List (Nat×Value)} {x:Operand} {v:Value} (h:ev σ x=some v):evO σ (some x)=some (some v):=by simp[evO,h]
end
section
variable {P:Program} {t:TypeId} {x y:Operand} {k:IntKind} {m n r:Int} {w:World} {a b:V}
theorem wz {u v:Value} {m:Sem Value} (h:u=v) (hb:∀w:World,m.run P w=.ok u w) (w:World):m.run P w=.ok v w:=h▸hb w
variable (r) in
theorem c8 (h:k.wrap (m+n)=r) (w:World):(do eqGuard .add t x y (.int k m) (.int k n);binOp .add t (.int k m) (.int k n):Sem Value).run P w=.ok (.int k r) w:=by
 subst h;simp[eqGuard,binOp,ug,al]
variable (r) in
theorem iV (h:k.wrap (m-n)=r) (w:World):(do eqGuard .sub t x y (.int k m) (.int k n);binOp .sub t (.int k m) (.int k n):Sem Value).run P w=.ok (.int k r) w:=by
 subst h;simp[eqGuard,binOp,ug,al]
theorem Di (h:k.wrap (m*n)=r) (w:World):(do eqGuard .mul t x y (.int k m) (.int k n);binOp .mul t (.int k m) (.int k n):Sem Value).run P w=.ok (.int k r) w:=by
 subst h;simp[eqGuard,binOp,ug,al]
theorem dL (w:World):(do eqGuard .lss t x y (.int k m) (.int k n);binOp .lss t (.int k m) (.int k n):Sem Value).run P w=.ok (.bool (decide (m<n))) w:=by
 simp[eqGuard,binOp,mT,al]
theorem jd (w:World):(do eqGuard .leq t x y (.int k m) (.int k n);binOp .leq t (.int k m) (.int k n):Sem Value).run P w=.ok (.bool (decide (m<=n))) w:=by
 simp[eqGuard,binOp,mT,al]
theorem kF (w:World):(do eqGuard .gtr t x y (.int k m) (.int k n);binOp .gtr t (.int k m) (.int k n):Sem Value).run P w=.ok (.bool (decide (n<m))) w:=by
 simp[eqGuard,binOp,mT,al]
theorem gw (w:World):(do eqGuard .geq t x y (.int k m) (.int k n);binOp .geq t (.int k m) (.int k n):Sem Value).run P w=.ok (.bool (decide (n<=m))) w:=by
 simp[eqGuard,binOp,mT,al]
theorem eZ (w:World):(do eqGuard .eql t x y (.int k m) (.int k n);binOp .eql t (.int k m) (.int k n):Sem Value).run P w=.ok (.bool (m==n)) w:=by
 simp[eqGuard,binOp,mT,al]
theorem nh (w:World):(do eqGuard .neq t x y (.int k m) (.int k n);binOp .neq t (.int k m) (.int k n):Sem Value).run P w=.ok (.bool (m != n)) w:=by
 simp[eqGuard,binOp,mT,al]
theorem Re (l:n≠0) (h:k.wrap (m.tdiv n)=r) (w:World):(do eqGuard .quo t x y (.int k m) (.int k n);binOp .quo t (.int k m) (.int k n):Sem Value).run P w=.ok (.int k r) w:=by
 subst h;simp[eqGuard,binOp,Op.intDiv,al,l]
theorem Rf (l:n≠0) (h:m.tmod n=r) (w:World):(do eqGuard .rem t x y (.int k m) (.int k n);binOp .rem t (.int k m) (.int k n):Sem Value).run P w=.ok (.int k r) w:=by
 subst h;simp[eqGuard,binOp,Op.intDiv,al,l]
theorem KK (a b:V):(a.toList==b.toList)=decide (a=b):=by
 by_cases h:a=b
 ·subst h;simp
 ·have:¬a.toList=b.toList:=λe=>h (by
   have:a.data.toList=b.data.toList:=by rw[<-oj,<-oj];exact e
   exact ByteArray.ext (gI.1 this))
  simp[h,this]
theorem ni (h:a.size+b.size<=9223372036854775807) (w:World):(do eqGuard .add t x y (.string a) (.string b);binOp .add t (.string a) (.string b):Sem Value).run P w=.ok (.string (a++b)) w:=by
 have:¬(((a.size+b.size:Nat):Int) > IntKind.i64.max):=by
  show ¬(((a.size+b.size:Nat):Int) > 9223372036854775807);omega
 simp only[eqGuard,binOp,uh,al,jS,cD];rw[ai this];rfl
theorem mf (w:World):(do eqGuard .eql t x y (.string a) (.string b);binOp .eql t (.string a) (.string b):Sem Value).run P w=.ok (.bool (decide (a=b))) w:=by
 rw[<-KK];simp[eqGuard,binOp,uh,al]
theorem tF (w:World):(do eqGuard .neq t x y (.string a) (.string b);binOp .neq t (.string a) (.string b):Sem Value).run P w=.ok (.bool (!decide (a=b))) w:=by
 rw[<-KK];simp[eqGuard,binOp,uh,al]
theorem lj {b:Bool} (w:World):(Op.unary .not (.bool b)).run P w=.ok (.bool (!b)) w:=rfl
variable (r) in
theorem xI {s d:TypeId} {u:TypeDesc} {l:IntKind} (q:P.underlying s=some u) (hd:P.underlying d=some (.int l)) (h:l.wrap n=r) (w:World):(convert s d (.int k n)).run P w=.ok (.int l r) w:=by
 subst h;cases u<;>simp[convert,run_underlying q,run_underlying hd,al,Conv.intToInt]
theorem nM {s d:TypeId} {l:IntKind} (q:P.underlying s=some (.int l)) (hd:P.underlying d=some .string) (w:World):(convert s d (.int k n)).run P w=.ok (.string (ae n)) w:=by
 simp[convert,run_underlying q,run_underlying hd,al,Conv.intToString]
theorem Rg {i:Nat} (ht:P.underlying t=some .string) (hi:i<a.size) (w:World):(ki t (.string a) (.int .i64 i)).run P w=.ok (.int .u8 (a[i]'hi).toNat) w:=by
 have h1:a[i]?=some a[i]:=by simp[hi]
 simp[ki,asIntOf,run_underlying ht,al,h1]
theorem Rh {lo hi:Option Value} (i j:Nat) (ht:P.underlying t=some .string) (l:lo=none/\i=0\/lo=some (.int .i64 i)) (q:hi=none/\j=a.size\/hi=some (.int .i64 j)) (h1:i<=j) (h2:j<=a.size) (w:World) : (iG t (.string a) lo hi none).run P w=.ok (.string (a.extract i j)) w:=by
 rcases l with⟨rfl,rfl⟩|rfl<;>rcases q with⟨rfl,rfl⟩|rfl <;>
  simp[iG,Instr.slice,kI,kA,asIntOf,run_underlying ht,al,h1,h2]
end
def vec {α:Type} (enc:α->List Value) (e:TypeId) (size:Nat) (v:Value) (xs:List α):bG :=
 ⟨λC w=>ji enc e size v xs C w,λh k hk=>h.lt k hk,λh _ hk=>h.local hk⟩
def byt (e:TypeId) (v:Value) (b:V):bG:=⟨λC w=>mv e v b C w,λh k hk=>h.lt k hk,λh _ hk=>h.local hk⟩
def eS:Value->Nat
 |.slice (some a) _ _=>a.block
 |_=>0
section
variable {F:Fence} {P:Program} {w0:World} {K:Nat->Prop} {N:Nat} {dfs:List Deferred} {ops:Array Oper} {Q:Exit->Act->World->Prop} {rest:List Oper} {σ σ':List (Nat×Value)} {L L' R As Bs:List bG} {o:Oper} {v:Value}
 {d:Nat} {t:TypeId} {op:Op} {ty:TypeId} {pos:String} {aft:Array Edge} {g:Option (Nat×Bool)} {x y z:Operand} {c c1 c2:Code} {k:Nat} {A B:bG} {RO:List (Nat×Obj)}
 {α:Type} {enc:α->List Value} {e:TypeId} {size:Nat} {xs:List α} {vv:Value}
theorem Holds.vec {w:World} (h:Holds w0 K L w) (hk:L[k]?=some (vec enc e size vv xs)):∃C,ji enc e size vv xs C w:=by
 obtain⟨C1,h1,_⟩:=h.focus hk;exact⟨C1,h1⟩
theorem ji.len {C:Nat->Prop} {w:World} (h:ji enc e size vv xs C w):∃a c,vv=.slice a xs.length c:=by
 rcases h.shape with⟨rfl,rfl,_⟩|⟨g,cap,rfl,_⟩
 ·exact⟨none,0,rfl⟩
 ·exact⟨_,_,rfl⟩
theorem ji.ptr {C:Nat->Prop} {w:World} (h:ji enc e size vv xs C w) (l:xs≠[]):∃cap,vv=.slice (some ⟨eS vv,0,none⟩) xs.length cap:=by
 rcases h.shape with⟨_,h2,_⟩|⟨g,cap,rfl,_⟩
 ·exact absurd h2 l
 ·exact⟨cap,rfl⟩
theorem Ri {w:World} (h:Holds w0 K L w) (hk:L[k]?=some (vec enc e size vv xs)):vv.oneCell'=true:=by
 obtain⟨C,hv⟩:=h.vec hk;obtain⟨a,c,rfl⟩:=hv.len;rfl
variable (enc e size) in
theorem oL (h:TC F P w0 K N dfs Q c σ (L++[vec enc e size (.slice none 0 0) ([]:List α)])):TC F P w0 K N dfs Q c σ L:=λa w ha l=>
 h a w ha (l.grow (C':=λ_=>False) (cY.refl _ _) (aP.one (A:=vec enc e size (.slice none 0 0) ([]:List α)) ji.nil))
variable (enc e size) in
theorem xJ (h:TO F P w0 K N dfs ops Q rest σ (L++[vec enc e size (.slice none 0 0) ([]:List α)])):TO F P w0 K N dfs ops Q rest σ L:=λa w ha l=>
 h a w ha (l.grow (C':=λ_=>False) (cY.refl _ _) (aP.one (A:=vec enc e size (.slice none 0 0) ([]:List α)) ji.nil))
variable (k) in
theorem io [bA F] {l:TypeId} {te:TypeId} (hg:gd ops σ g=some true) (hd:d<N) (hx:ev σ x=some vv) (hk:L[k]?=some (vec enc e size vv xs)) (ht:P.underlying l=some (.slice te)) (h:TO F P w0 K N dfs ops Q rest ((d,.int .i64 xs.length)::σ) L):TO F P w0 K N dfs ops Q (⟨some d,.call {callee:=.builtin .len,args:=#[x],argTypes:=#[l] },ty,pos,aft,g⟩::rest) σ L :=
 kJ hg hd (by simp) (λa w ha D=>by
  obtain⟨C,hv⟩:=D.vec hk;obtain⟨q,J,H⟩:=hv.len;have:=ha.ev hx;simp[execOp,resolve,invoke,builtin,this,H,mU,run_underlying ht,al,goInt]) h
theorem mw [bA F] {l:TypeId} {s:V} (hg:gd ops σ g=some true) (hd:d<N) (hx:ev σ x=some (.string s)) (ht:P.underlying l=some .string) (h:TO F P w0 K N dfs ops Q rest ((d,.int .i64 s.size)::σ) L):TO F P w0 K N dfs ops Q (⟨some d,.call {callee:=.builtin .len,args:=#[x],argTypes:=#[l] },ty,pos,aft,g⟩::rest) σ L :=
 kJ hg hd (by simp) (λa w ha q=>by
  have:=ha.ev hx;simp[execOp,resolve,invoke,builtin,this,mU,run_underlying ht,al,goInt]) h
theorem ji.cellAt {C:Nat->Prop} {w:World} (hz:∀x,(enc x).length=size) (h:ji enc e size vv xs C w) {i j:Nat} {q:α} {u:Value} (l:xs[i]?=some q) (hj:j<size) (hu:(enc q)[j]?=some u):w.cell? ⟨eS vv,i*size+j,none⟩=some u:=by
 obtain⟨cap,he⟩:=h.ptr (by intro h;simp[h] at l);generalize hb:eS vv=bb at he;subst he;exact h.cell hz rfl l hj hu
theorem ji.frozenAt {C:Nat->Prop} {w:World} (h:ji enc e size vv xs C w) (l:xs≠[]) (j:Nat):w.frozen? ⟨eS vv,j,none⟩=false:=by
 obtain⟨cap,he⟩:=h.ptr l;generalize hb:eS vv=bb at he;subst he;exact h.frozen rfl j
variable (k) in
theorem fl [bA F] (i j:Nat){off:Nat} (q:α) (J:mW P t) (hz:∀x,(enc x).length=size) (hg:gd ops σ g=some true) (hd:d<N) (hx:ev σ x=some (.pointer (some ⟨eS vv,off,none⟩))) (hk:L[k]?=some (vec enc e size vv xs)) (D:xs[i]?=some q) (H:off=i*size+j) (hj:j<size) (hv:(enc q)[j]?=some v) (h:TO F P w0 K N dfs ops Q rest ((d,v)::σ) L) : TO F P w0 K N dfs ops Q (⟨some d,.load t x,ty,pos,aft,g⟩::rest) σ L:=by
 subst H;obtain⟨dd,hu,hr⟩:=J;refine kJ hg hd (by simp) (λa w ha l=>?_) h;obtain⟨C,hV⟩:=l.vec hk;have hc:=hV.cellAt hz D hj hv;have h1:=ha.ev hx;cases dd<;>simp_all [execOp,lK,fq,loadVar,isAgg,al,run_underlying hu]
variable (k) in
theorem oM [bA F] (i j:Nat){off n:Nat} (q:α) (cs:List Value) (Z:qC P t n) (hz:∀x,(enc x).length=size) (hg:gd ops σ g=some true) (hd:d<N) (hx:ev σ x=some (.pointer (some ⟨eS vv,off,none⟩))) (hk:L[k]?=some (vec enc e size vv xs)) (J:xs[i]?=some q) (M:off=i*size+j) (D:((enc q).drop j).take n=cs) (l:cs.length=n) (h:TO F P w0 K N dfs ops Q rest ((d,.agg cs.toArray)::σ) L):TO F P w0 K N dfs ops Q (⟨some d,.load t x,ty,pos,aft,g⟩::rest) σ L:=by
 subst M;subst l;obtain⟨dd,hu,hr,hi⟩:=Z;refine kJ hg hd (by simp) (λa w ha H=>?_) h;obtain⟨C,hV⟩:=H.vec hk;have hc:w.rangeAt (eS vv) (i*size+j) cs:=λn u l=>by
  rw[<-D] at l;rw[iQ] at l;split at l
  ·rw[iD] at l;have W:j+n<size:=by rw[<-hz q];exact (aq.1 l).1
   have:=hV.cellAt hz J W l;rwa [<-Nat.add_assoc] at this
  ·cases l
 simp only[execOp,ha.ev hx,al,run_loadAt_mid w _ _ t cs dd hc hu hr hi];rfl
variable (k) in
theorem oN [bA F] (i j:Nat){off:Nat} (q q':α) (hT:bI P t 1) (hz:∀x,(enc x).length=size) (hg:gd ops σ g=some true) (hx:ev σ x=some (.pointer (some ⟨eS vv,off,none⟩))) (hy:ev σ y=some v) (hk:L[k]?=some (vec enc e size vv xs)) (W:xs[i]?=some q) (ho:off=i*size+j) (hj:j<size) (hv:enc q'=(enc q).set j v) (J:∀w,Holds w0 K L w->v.oneCell'=true) (h:TO F P w0 K N dfs ops Q rest σ (L.set k (vec enc e size vv (xs.set i q')))):TO F P w0 K N dfs ops Q (⟨none,.store t x y,ty,pos,aft,g⟩::rest) σ L:=by
 subst ho;obtain⟨ii,hi,hsz⟩:=hT.some;refine C9 hg (by simp) λa w ha Z=>?_;have h1:=J w Z;obtain⟨C,hV,D⟩:=Z.focus hk;obtain⟨u,hu⟩:∃u,(enc q)[j]?=some u:=⟨_,aJ (by rw[hz];exact hj)⟩;have H:xs≠[]:=by intro h;simp[h] at W
 have l:ji enc e size vv xs C w:=hV;have hc:=l.cellAt hz W hj hu;have hf:=l.frozenAt H (i*size+j);have M:v.cells=#[v]:=by cases v<;>simp_all [rZ,pv]
 refine⟨w.setCell ⟨eS vv,i*size+j,none⟩ v,by
  simp[execOp,ha.ev hx,ha.ev hy,Instr.storeAt,fq,storeVar,sizeOf,typeInfo,hi,hsz,M,storeCells,al,run_store _ _ _ _ _ h1,hc,hf,jM],h _ _ ha (D _ C _ ?_ ?_)⟩
 ·obtain⟨cap,he⟩:=l.ptr H;refine (cY.refl _ _).setCell ?_ _;obtain⟨hR,rfl⟩:=l;rw[he];rfl
 ·obtain⟨cap,he⟩:=l.ptr H;generalize hb:eS vv=bb at *;subst he;obtain⟨hR,hC⟩:=l;exact⟨(Rw.stored hz hR W hj q' hv).1,hC⟩
def eh (P:Program) (e:TypeId) (size:Nat):Prop:=∃ (i:TypeInfo) (l:Value),P.info? e=some i/\i.zero=some l/\i.size=size/\l.cells.size=size/\0<size/\i.bytes<=65536
def mJ (P:Program) (e:TypeId):Prop:=∃i:TypeInfo,P.info? e=some i/\i.zero=some (.int .u8 0)/\i.size=1/\i.bytes=1
theorem eh.mk' {P:Program} {e:TypeId} {size:Nat} (h:(P.info? e).bind (λi=>i.zero.map (λz=>(i.size,z.cells.size,decide (0<i.size),decide (i.bytes<=65536))))=some (size,size,true,true)):eh P e size:=by
 cases hi:P.info? e with
 |none=>simp[hi] at h
 |some i=>
  cases hz:i.zero with
  |none=>simp[hi,hz] at h
  |some z=>
   simp[hi,hz] at h;obtain⟨h1,h2,h3,l⟩:=h;exact⟨i,z,hi,hz,h1,h2,by omega,l⟩
theorem mJ.mk' {P:Program} {e:TypeId} (h:(P.info? e).map (λi=>(i.zero,i.size,i.bytes))=some (some (.int .u8 0),1,1)):mJ P e:=by
 cases hi:P.info? e with
 |none=>simp[hi] at h
 |some i=>simp[hi] at h;exact⟨i,hi,h.1,h.2.1,h.2.2⟩
theorem hQ [bA F] (ps:List (Nat×Operand)) {vs:List (Nat×Value)} (te:Nat){n:Nat} (cs:List Value) (hg:gd ops σ g=some true) (hd:d<N) (hx:evP σ ps=some vs) (hb:∀w:World,(Instr.buildSlice t n vs.toArray).run P w=.ok (.slice (some ⟨w.heap.size,0,none⟩) n n) (w.alloc (.cells cs.toArray te))) (h:∀b,TO F P w0 K N dfs ops Q rest ((d,.slice (some ⟨b,0,none⟩) n n)::σ) (L++[cells b cs te])) : TO F P w0 K N dfs ops Q (⟨some d,.buildSlice t n ps.toArray,ty,pos,aft,g⟩::rest) σ L :=
 pD hg (by simp) λa w ha l=>⟨.slice (some ⟨w.heap.size,0,none⟩) n n,w.alloc (.cells cs.toArray te),by
  have:=hb w;simp only[execOp,fL,ha.evP hx,al,this];rfl,h _ _ _ (ha.put hd _) (l.alloc _)⟩
variable (k) in
theorem jJ [bA F] {s:Operand} (k2:Nat){b m cap:Nat} {M:TypeId} (ys:List α) {te:TypeId} {cs:List Value} (ht:P.underlying M=some (.slice e)) (hE:eh P e size) (J:∀x,(enc x).length=size) (h1:∀x,∀u∈enc x,u.oneCell'=true) (hg:gd ops σ g=some true) (hd:d<N) (hs:ev σ s=some vv) (hx:ev σ x=some (.slice (some ⟨b,0,none⟩) m cap)) (hk:L[k]?=some (vec enc e size vv xs)) (Z:L[k2]?=some (cells b cs te)) (hm:m=ys.length) (ag:cs=ys.flatMap enc) (hn:xs.length+ys.length<=2147483648) (h:∀H,TO F P w0 K N dfs ops Q rest ((d,H)::σ) (L.set k (vec enc e size H (xs++ys)))) : TO F P w0 K N dfs ops Q (⟨some d,.call {callee:=.builtin .append,args:=#[s,x],argTypes:=#[M,M] },ty,pos,aft,g⟩::rest) σ L:=by
 subst hm;subst ag;obtain⟨i,zv,hi,hz,D,W,hsz,l⟩:=hE;refine pD hg (by simp) λa w ha hw=>?_;have hb:=hw.obj Z;obtain⟨C,hV,q⟩:=hw.focus hk;obtain⟨H,w',hr,C',h2,h3⟩:=QR (P:=P) w M ty e i zv i.bytes ht hi hz D rfl W hsz J h1 vv xs C hV ys b cap te (0,0) hb hn l;refine⟨H,w',?_,h H _ _ (ha.put hd _) (q _ C' w' h3 h2)⟩;simp[execOp,resolve,invoke,builtin,ha.ev hs,ha.ev hx,hr,al]
theorem Holds.byt {w:World} {b:V} (h:Holds w0 K L w) (hk:L[k]?=some (byt e vv b)):∃C,mv e vv b C w:=by
 obtain⟨C1,h1,_⟩:=h.focus hk;exact⟨C1,h1⟩
theorem KL {w:World} {b:V} (h:Holds w0 K L w) (hk:L[k]?=some (byt e vv b)):vv.oneCell'=true:=by
 obtain⟨C,hv⟩:=h.byt hk;rcases hv.shape with⟨rfl,_⟩|⟨g,cap,l,rfl,_⟩<;>rfl
variable (k) in
theorem z7 [bA F] {sl:Operand} {H u:TypeId} {b s:V} (ht:P.underlying H=some (.slice e)) (hu:P.underlying u=some .string) (hE:mJ P e) (hg:gd ops σ g=some true) (hd:d<N) (W:ev σ sl=some vv) (hx:ev σ x=some (.string s)) (hk:L[k]?=some (byt e vv b)) (Z:b.size+s.size<=140737488355328) (h:∀D,TO F P w0 K N dfs ops Q rest ((d,D)::σ) (L.set k (byt e D (b++s)))) : TO F P w0 K N dfs ops Q (⟨some d,.call {callee:=.builtin .append,args:=#[sl,x],argTypes:=#[H,u] },ty,pos,aft,g⟩::rest) σ L:=by
 obtain⟨i,hi,hz,q,J⟩:=hE;refine pD hg (by simp) λa w ha M=>?_;obtain⟨C,hV,l⟩:=M.focus hk;obtain⟨D,w',hr,C',h2,h3⟩:=J6 (P:=P) w H u ty e i ht hu hi hz q J vv b C hV s Z;refine⟨D,w',?_,h D _ _ (ha.put hd _) (l _ C' w' h3 h2)⟩;simp[execOp,resolve,invoke,builtin,ha.ev W,ha.ev hx,hr,al]
theorem Gk [bA F] {sl:Operand} {H:TypeId} {b:V}(ys:V) (k2:Nat){Z m cap:Nat} {te:TypeId} {cs:List Value} (ht:P.underlying H=some (.slice e)) (hE:mJ P e) (hg:gd ops σ g=some true) (hd:d<N) (hs:ev σ sl=some vv) (hx:ev σ x=some (.slice (some ⟨Z,0,none⟩) m cap)) (hk:L[k]?=some (byt e vv b)) (J:L[k2]?=some (cells Z cs te)) (M:cs=strCells ys) (hm:m=ys.size) (hn:b.size+ys.size<=140737488355328) (h:∀D,TO F P w0 K N dfs ops Q rest ((d,D)::σ) (L.set k (byt e D (b++ys)))) : TO F P w0 K N dfs ops Q (⟨some d,.call {callee:=.builtin .append,args:=#[sl,x],argTypes:=#[H,H] },ty,pos,aft,g⟩::rest) σ L:=by
 subst hm;subst M;obtain⟨i,hi,hz,q,W⟩:=hE;refine pD hg (by simp) λa w ha hw=>?_;have hb:=hw.obj J;obtain⟨C,hV,l⟩:=hw.focus hk;obtain⟨D,w',hr,C',h2,h3⟩:=QT (P:=P) w H ty e i ht hi hz q W vv b C hV ys Z cap te (0,0) hb hn;refine⟨D,w',?_,h D _ _ (ha.put hd _) (l _ C' w' h3 h2)⟩;simp[execOp,resolve,invoke,builtin,ha.ev hs,ha.ev hx,hr,al]
variable (k) in
theorem tG [bA F] {s:TypeId} {b:V} (hg:gd ops σ g=some true) (hd:d<N) (hx:ev σ x=some vv) (hk:L[k]?=some (byt e vv b)) (q:P.underlying s=some (.slice e)) (he:P.underlying e=some (.int .u8)) (ht:P.underlying t=some .string) (h:TO F P w0 K N dfs ops Q rest ((d,.string b)::σ) L):TO F P w0 K N dfs ops Q (⟨some d,.convert s t x,ty,pos,aft,g⟩::rest) σ L :=
 kJ hg hd (by simp) (λa w ha l=>by
  obtain⟨C,hV⟩:=l.byt hk;simp only[execOp,ha.ev hx,al,hV.conv s t q he ht];rfl) h
end
def Gm (l:Nat) (J:Act->World->Prop) (Q:Exit->Act->World->Prop):Exit->Act->World->Prop
 |.goto l',a,w=>l'=l/\J a w
 |e,a,w=>Q e a w
section
variable {P:Program} {b:Frame} {a:Act} {k:List Item} {cs:List Frame} {w:World}
theorem xK {c:Code}:step P (lone (b.atR a (.code (.scope c)::k)) cs w)=.next (lone (b.atR a (.code c::.inScope c::k)) cs w) :=
 step_lone_go (by simp[stepG,stepG.exec,Frame.atR])
theorem KM {c:Code}:step P (lone (b.atR a (.inScope c::k)) cs w)=.next (lone (b.atR a k) cs w) :=
 step_lone_go (by simp[stepG,stepG.exec,Frame.atR])
end
section
variable {F:Fence} {n:Nat} {P:Program} {Q:Exit->Act->World->Prop} {a:Act} {w:World}
theorem vq {D:Machine->Prop} {m:Machine} {b:Frame} {c:Code} {k:List Item} {cs:List Frame} {e:Exit} (q:∀l,e≠.goto l) (J:e≠.normal) (h:ArrivesIn D P m b (.inScope c::k) cs e a w):ArrivesIn D P m b k cs e a w:=by
 have hx:∀id,exitTo id (.inScope c::k)=exitTo id k:=λid=>by simp[exitTo]
 cases e with
 |normal=>exact absurd rfl J
 |exit id=>exact⟨λH hk=>h.1 H (by rw[hx];exact hk),λhr hk=>h.2 hr (by rw[hx];exact hk)⟩
 |goto l=>exact absurd rfl (q l)
 |ret=>exact h
 |panic M=>exact h
 |outgrown=>exact h
theorem Rj {c rest:Code} {l:Nat} (hf:findLabel c l=some rest) (J:Act->World->Prop) (first:c.wpIn F n P (Gm l J Q) a w) (Z:∀a w,J a w->rest.wpIn F n P (Exit.noGoto Q) a w):(Code.scope c).wpIn F n P Q a w:=by
 intro b k cs ag hb hr;have h0:(lone (b.atR a (.code (.scope c)::k)) cs w).fenced P F:=fenced_calm hb hr rfl;have hg:gotoIn l (.inScope c::k)=some (.code rest::.inScope c::k):=by simp[gotoIn,hf]
 obtain⟨e,M,H,D,q⟩:=first b (.inScope c::k) cs ag hb hr
 cases e with
 |normal=>exact⟨.normal,M,H,D,.head h0 xK (pw q (.one (fenced_calm hb hr rfl) KM))⟩
 |goto l'=>
  obtain⟨rfl,hJ⟩:=D;have h1:=StepsIn.head h0 xK (q.1 _ hg);obtain⟨e,a₂,W,D,q⟩:=Z M H hJ b (.inScope c::k) cs ag hb hr;cases e with
  |normal=>exact⟨.normal,a₂,W,D,pw h1 (pw q (.one (fenced_calm hb hr rfl) KM))⟩
  |goto l=>exact D.elim
  |exit id=>exact⟨_,a₂,W,D,.of_steps h1 (vq (by simp) (by simp) q)⟩
  |ret=>exact⟨_,a₂,W,D,.of_steps h1 (vq (by simp) (by simp) q)⟩
  |panic ch=>exact⟨_,a₂,W,D,.of_steps h1 (vq (by simp) (by simp) q)⟩
  |outgrown=>exact⟨_,a₂,W,D,.of_steps h1 (vq (by simp) (by simp) q)⟩
 |exit id=>exact⟨_,M,H,D,.of_steps (.one h0 xK) (vq (by simp) (by simp) q)⟩
 |ret=>exact⟨_,M,H,D,.of_steps (.one h0 xK) (vq (by simp) (by simp) q)⟩
 |panic ch=>exact⟨_,M,H,D,.of_steps (.one h0 xK) (vq (by simp) (by simp) q)⟩
 |outgrown=>exact⟨_,M,H,D,.of_steps (.one h0 xK) (vq (by simp) (by simp) q)⟩
end
section
variable {F:Fence} {P:Program} {w0:World} {K:Nat->Prop} {N:Nat} {dfs:List Deferred} {Q:Exit->Act->World->Prop} {σ:List (Nat×Value)} {L R:List bG} {c rest:Code}
theorem KN (β:Type) (l:Nat) (H:β->Prop) (q:β->List (Nat×Value)) (D:β->List bG) (hf:findLabel c l=some rest) (h1:TC F P w0 K N dfs (Gm l (KB w0 K N dfs H q D) Q) c σ L) (h2:∀b,H b->TC F P w0 K N dfs (Exit.noGoto Q) rest (q b) (D b)):TC F P w0 K N dfs Q (.scope c) σ L:=λa w ha J=>
 Rj hf (KB w0 K N dfs H q D) (h1 a w ha J) λa w ⟨b,hb,h3,M⟩=>h2 b hb a w h3 M
theorem Dj {l:Nat} {J:Act->World->Prop} {e:Exit} (q:∀l,e≠.goto l) (h:TX w0 K N dfs Q e σ L):TX w0 K N dfs (Gm l J Q) e σ L:=λa w ha D=>by
 cases e<;>first|exact h a w ha D|exact absurd rfl (q _)
end
section
variable {F:Fence} {P:Program} {w0:World} {K:Nat->Prop} {N:Nat} {dfs:List Deferred} {ops:Array Oper} {Q:Exit->Act->World->Prop} {rest:List Oper} {σ:List (Nat×Value)} {L:List bG} {c:Code}
 {α:Type} {enc:α->List Value} {k b e size:Nat} {cs:List Value}
theorem Holds.toVec {w:World} (ys:List α) (h:Holds w0 K L w) (hk:L[k]?=some (cells b cs e)) (q:∀x,(enc x).length=size) (l:cs=ys.flatMap enc) (hm:ys.length<=maxLen) : Holds w0 K (L.set k (Go.Proofs.YtncjnoakkghmmaaGreatDoor.vec enc e size (.slice (some ⟨b,0,none⟩) ys.length ys.length) ys)) w:=by
 obtain⟨C1,h1,h2,h3⟩:=h.focus' hk;refine h3 _ C1 w (cY.refl _ _) ?_;obtain⟨W,h5⟩:=h2;have D:cs.length=ys.length*size:=by
  have M:∀zs:List α,(zs.flatMap enc).length=zs.length*size:=by
   intro zs
   induction zs with
   |nil=>simp
   |cons z zs H=>rw[aK,aa,q,H,List.length_cons,dC,kW,lq]
  rw[l];exact M ys
 have J:cs.take (ys.length*size)=cs:=by rw[<-D];exact List.take_length
 refine⟨⟨by rw[<-l];exact D,.inr ⟨b,ys.length,cs.toArray,rfl,bT _,h5,aS _,hm,by simpa using D,?_⟩⟩,?_⟩
 ·rw[<-l];exact J
 ·funext j;simp_all [cn,eq_comm]
variable (k) in
theorem pd (ys:List α) (hk:L[k]?=some (cells b cs e)) (l:∀x,(enc x).length=size) (q:cs=ys.flatMap enc) (hm:ys.length<=maxLen) (h:TO F P w0 K N dfs ops Q rest σ (L.set k (vec enc e size (.slice (some ⟨b,0,none⟩) ys.length ys.length) ys))):TO F P w0 K N dfs ops Q rest σ L:=λa w ha D=>h a w ha (D.toVec ys hk l q hm)
end
section
variable {F:Fence} {P:Program} {w0:World} {K:Nat->Prop} {N:Nat} {dfs:List Deferred} {ops:Array Oper} {Q:Exit->Act->World->Prop} {rest:List Oper} {σ:List (Nat×Value)} {L:List bG}
 {d:Nat} {t:TypeId} {ty:TypeId} {pos:String} {aft:Array Edge} {g:Option (Nat×Bool)} {x y:Operand} {k n:Nat} {e:TypeId} {size:Nat} {v vv:Value}
end
abbrev I64 (x:Int):Prop:=-9223372036854775808<=x/\x<=9223372036854775807
abbrev gJ (x:Int):Prop:=-2147483648<=x/\x<=2147483647
abbrev I16 (x:Int):Prop:=-32768<=x/\x<=32767
abbrev I8 (x:Int):Prop:=-128<=x/\x<=127
abbrev U8 (x:Int):Prop:=0<=x/\x<=255
abbrev U16 (x:Int):Prop:=0<=x/\x<=65535
abbrev U32 (x:Int):Prop:=0<=x/\x<=4294967295
abbrev U64 (x:Int):Prop:=0<=x/\x<=18446744073709551615
section
variable {R S:Type}
def grd (c:Prop) [Decidable c] (o:Option R):Option R:=if c then o else none
def T (o:Option S) (f:S->Option R):Option R:=o.bind f
def G (b:Bool) (x y:Option R):Option R:=cond b x y
def cm {l:Type} (t:l->Option R) (k:l):Option R:=t k
def bP {l:Type} (bot:l) (step:l->l) (n:Nat):l:=Nat.rec bot (λ_ q=>step q) n
def jZ {l α:Type} (k:l) (step:α->l->l):List α->l
 |[]=>k
 |x::xs=>step x (jZ k step xs)
def bN:Nat:=18446744073709551616
def cj {α:Type} (xs:List α) (i:Int):Option α:=if 0<=i then xs[i.toNat]? else none
def kY (s:V) (i:Int):Option Int:=if 0<=i then (s.data[i.toNat]?).map (λc=>(c.toNat:Int)) else none
def c6 (s:V) (i j:Int):V:=s.extract i.toNat j.toNat
def ee {α:Type} (s:List α) (i j:Int):List α:=(s.drop i.toNat).take (j.toNat-i.toNat)
variable {c:Prop} [Decidable c] {o:Option R} {r:R} {p:Option S} {f:S->Option R} {b:Bool} {x y:Option R}
theorem KO (h:grd c o=some r):c/\o=some r:=by
 unfold grd at h;split at h
 ·exact⟨‹c›,h⟩
 ·cases h
theorem KP (h:c):grd c o=o:=aj h
theorem Rk (h:T p f=some r):∃a,p=some a/\f a=some r:=Option.bind_eq_some_iff.1 h
theorem KQ {a:S} (h:p=some a):T p f=f a:=by rw[h];rfl
theorem pY (hb:b=true) (h:G b x y=some r):x=some r:=by subst hb;exact h
theorem pZ (hb:b=false) (h:G b x y=some r):y=some r:=by subst hb;exact h
theorem Rm (hb:b=true):G b x y=x:=by subst hb;rfl
theorem Rp (hb:b=false):G b x y=y:=by subst hb;rfl
theorem Rs {l:Type} {t:l->Option R} {k:l} (h:cm t k=some r):∃j,j=k/\t j=some r:=⟨k,rfl,h⟩
theorem jz {l:Type} {bot:l} {step:l->l} {n:Nat}:bP bot step (n+1)=step (bP bot step n):=rfl
theorem Gn {l α:Type} {k:l} {step:α->l->l}:jZ k step []=k:=rfl
theorem qn {l α:Type} {k:l} {step:α->l->l} {x:α} {xs:List α}:jZ k step (x::xs)=step x (jZ k step xs):=rfl
theorem vt {α:Prop} (h:(none:Option R)=some r):α:=by cases h
theorem ei {α:Type} {xs:List α} {i:Int} {q:α} (h:cj xs i=some q):xs[i.toNat]?=some q:=by
 unfold cj at h;split at h
 ·exact h
 ·cases h
theorem z8 {α:Type} {xs:List α} {i:Int} {q:α} (h:cj xs i=some q):0<=i/\i<xs.length:=by
 unfold cj at h;split at h
 ·have:=(aq.1 h).1;omega
 ·cases h
theorem iu {α:Type} {xs:List α} {i:Nat} {q:α} (h:xs[i]?=some q):cj xs (i:Int)=some q:=by
 unfold cj;rw[aj z1];exact h
theorem wA {α:Type} {xs:List α} {i:Int} {n:Nat} {q:α} (l:i=n) (h:xs[n]?=some q):cj xs i=some q:=by subst l;exact iu h
theorem Gp {s:V} {i:Int} (n:Nat) (l:i=n) (h:n<s.size):kY s i=some ((s[n]'h).toNat:Int):=by
 subst l;unfold kY;rw[aj z1];have:s.data[n]?=some s[n]:=by
  rw[fp (by exact h)];rfl
 simp[this]
theorem Rt {s:V} {i v:Int} (h:kY s i=some v):∃n:Nat,∃l:n<s.size,i=n/\v=((s[n]'l).toNat:Int):=by
 unfold kY at h;split at h
 ·rename_i h0;simp only[da] at h;obtain⟨c,hc,rfl⟩:=h;obtain⟨q,he⟩:=dD.1 hc;exact⟨i.toNat,q,by omega,by rw[<-he];rfl⟩
 ·cases h
end
section
variable {F:Fence} {P:Program} {w0:World} {K:Nat->Prop} {N:Nat} {dfs:List Deferred} {ops:Array Oper} {Q:Exit->Act->World->Prop} {rest:List Oper} {σ σ':List (Nat×Value)} {L L' R As Bs:List bG} {o:Oper} {v:Value}
 {d:Nat} {t:TypeId} {op:Op} {ty:TypeId} {pos:String} {aft:Array Edge} {g:Option (Nat×Bool)} {x y z:Operand} {c c1 c2 c3:Code} {k:Nat} {A B:bG} {RO:List (Nat×Obj)}
 {α:Type} {enc:α->List Value} {e:TypeId} {size:Nat} {xs:List α} {vv:Value} {s:V}
def xL {β:Type} (w0:World) (K:Nat->Prop) (N:Nat) (H:β->Prop) (q:β->List Deferred) (l:β->List (Nat×Value)) (D:β->List bG) (a:Act) (w:World):Prop:=∃b,H b/\St w0 K N (q b) (l b) (D b) a w
def Gq:Nat->Code->Code
 |0,c=>c
 |n+1,.seq _ c=>Gq n c
 |_+1,c=>c
theorem Ru {β:Type} (j:Nat) (hc:Gq j c=.seq c2 c3) (M:β->Prop) (H:β->List Deferred) (q:β->List (Nat×Value)) (J:β->List bG) (h1:(∀ {l:List Deferred} {σ':List (Nat×Value)} {L':List bG},TC F P w0 K N l (Exit.then (xL w0 K N M H q J) Q) c2 σ' L'->TC F P w0 K N l Q (.seq c2 c3) σ' L')->TC F P w0 K N dfs Q c σ L) (h2:∀b,M b->TC F P w0 K N (H b) Q c3 (q b) (J b)):TC F P w0 K N dfs Q c σ L :=
 h1 λh a w ha W=>by
  refine wpIn_seq (wpIn_mono (h a w ha W) ?_);intro e a' w' D;cases e with
  |normal=>obtain⟨b,hb,h3,Z⟩:=D;exact h2 b hb a' w' h3 Z
  |_=>exact D
theorem iW {β:Type} {H:β->Prop} {q:β->List Deferred} {l:β->List (Nat×Value)} {D:β->List bG} (b:β) (W:H b) (hd:dfs=q b) (J:sr σ (l b)) (hL:aH L (D b) R) : TX w0 K N dfs (Exit.then (xL w0 K N H q l D) Q) .normal σ L:=λa w ha M=>by subst hd;exact⟨b,W,J _ _ _ ha,M.weaken hL⟩
theorem wB (b:Bool) (ht:b=true->TC F P w0 K N dfs Q c σ L) (hf:b=false->TC F P w0 K N dfs Q c σ L):TC F P w0 K N dfs Q c σ L:=by
 cases b with
 |true=>exact ht rfl
 |false=>exact hf rfl
theorem qo {l:Value} (he:v=l) (h:TO F P w0 K N dfs ops Q rest ((d,l)::σ) L):TO F P w0 K N dfs ops Q rest ((d,v)::σ) L:=by subst he;exact h
theorem qX {i u:Int} (ht:P.underlying t=some .string) (h:kY s i=some u) (w:World):(ki t (.string s) (.int .i64 i)).run P w=.ok (.int .u8 u) w:=by
 obtain⟨n,l,rfl,rfl⟩:=Rt h;exact Rg ht l w
theorem lP {lo hi:Option Value} (i j:Int) (ht:P.underlying t=some .string) (l:lo=none/\i=0\/lo=some (.int .i64 i)) (q:hi=none/\j=(s.size:Int)\/hi=some (.int .i64 j)) (h:0<=i/\i<=j/\j<=(s.size:Int)) (w:World) : (iG t (.string s) lo hi none).run P w=.ok (.string (c6 s i j)) w:=by
 obtain⟨h1,h2,h3⟩:=h;obtain⟨a,rfl⟩:∃a:Nat,i=a:=⟨i.toNat,by omega⟩;obtain⟨b,rfl⟩:∃b:Nat,j=b:=⟨j.toNat,by omega⟩;unfold c6;refine Rh a b ht ?_ ?_ z1 z1 w
 ·rcases l with⟨e,h⟩|h
  ·exact .inl ⟨e,by omega⟩
  ·exact .inr h
 ·rcases q with⟨e,h⟩|h
  ·exact .inl ⟨e,by omega⟩
  ·exact .inr h
def nj (k:IntKind) (a b:Int):Int:=k.wrap (a*2 ^ (min b.toNat k.bits))
def er (k:IntKind) (a b:Int):Int:=a.fdiv (2 ^ (min b.toNat k.bits))
def Dk (k:IntKind) (a b:Int):Int:=k.wrap ((ib k.bits a &&& ib k.bits b).toNat:Int)
def nk (k:IntKind) (a b:Int):Int:=k.wrap ((ib k.bits a ||| ib k.bits b).toNat:Int)
theorem KR {k l:IntKind} {m n:Int} (q:0<=n) (w:World):(do eqGuard .shl t x y (.int k m) (.int l n);binOp .shl t (.int k m) (.int l n):Sem Value).run P w=.ok (.int k (nj k m n)) w:=by
 have:¬n<0:=by omega
 simp[eqGuard,binOp,Op.shift,al,this,nj]
theorem tH {k l:IntKind} {m n:Int} (q:0<=n) (w:World):(do eqGuard .shr t x y (.int k m) (.int l n);binOp .shr t (.int k m) (.int l n):Sem Value).run P w=.ok (.int k (er k m n)) w:=by
 have:¬n<0:=by omega
 simp[eqGuard,binOp,Op.shift,al,this,er]
theorem Rv {k:IntKind} {m n:Int} (w:World):(do eqGuard .and t x y (.int k m) (.int k n);binOp .and t (.int k m) (.int k n):Sem Value).run P w=.ok (.int k (Dk k m n)) w:=by
 simp[eqGuard,binOp,Op.intBits,al,Dk]
theorem Dm {k:IntKind} {m n:Int} (w:World):(do eqGuard .or t x y (.int k m) (.int k n);binOp .or t (.int k m) (.int k n):Sem Value).run P w=.ok (.int k (nk k m n)) w:=by
 simp[eqGuard,binOp,Op.intBits,al,nk]
theorem qp {s d:TypeId} {u:TypeDesc} {k l:IntKind} {n:Int} (q:P.underlying s=some u) (hd:P.underlying d=some (.int l)) (w:World):(convert s d (.int k n)).run P w=.ok (.int l (l.wrap n)) w:=xI _ q hd rfl w
def Vw (vv:Value) (L:List α) (size k:Nat) (v:Value) (xs:List α):Prop :=
 k+xs.length<=L.length/\(L.drop k).take xs.length=xs/\∃q c,v=.slice q xs.length c/\xs.length<=c/\(xs≠[]->q=some ⟨eS vv,k*size,none⟩)
theorem Vw.get {Ls:List α} {v:Value} {i:Int} {q:α} (h:Vw vv Ls size k v xs) (l:cj xs i=some q):Ls[k+i.toNat]?=some q:=by
 have h1:=ei l;rw[<-h.2.1,iQ] at h1;split at h1
 ·rwa [iD] at h1
 ·cases h1
theorem Dn {w:World} (h:Holds w0 K L w) (hk:L[k]?=some (vec enc e size vv xs)):Vw vv xs size 0 vv xs:=by
 obtain⟨C,hv⟩:=h.vec hk;refine⟨by omega,by simp,?_⟩;rcases hv.shape with⟨rfl,rfl,_⟩|⟨g,cap,rfl,l⟩
 ·exact⟨none,0,rfl,aS _,λh=>absurd rfl h⟩
 ·refine⟨some ⟨g,0,none⟩,cap,rfl,?_,λ_=>by simp[eS]⟩;obtain⟨q,_⟩:=hv;rcases q.2 with⟨h1,_⟩|⟨b,c,D,h1,_,_,h2,_⟩
  ·cases h1
  ·cases h1;exact h2
variable (k) in
theorem lF (hk:L[k]?=some (vec enc e size vv xs)) (h:Vw vv xs size 0 vv xs->TO F P w0 K N dfs ops Q rest σ L):TO F P w0 K N dfs ops Q rest σ L:=λa w ha l=>h (Dn l hk) a w ha l
theorem Do (hk:L[k]?=some (vec enc e size vv xs)) (h:Vw vv xs size 0 vv xs->TC F P w0 K N dfs Q c σ L):TC F P w0 K N dfs Q c σ L:=λa w ha l=>h (Dn l hk) a w ha l
theorem jl [bA F] {l te:TypeId} {Ls:List α} {j:Nat} (hV:Vw vv Ls size j v xs) (hg:gd ops σ g=some true) (hd:d<N) (hx:ev σ x=some v) (ht:P.underlying l=some (.slice te)) (h:TO F P w0 K N dfs ops Q rest ((d,.int .i64 (xs.length:Int))::σ) L):TO F P w0 K N dfs ops Q (⟨some d,.call {callee:=.builtin .len,args:=#[x],argTypes:=#[l] },ty,pos,aft,g⟩::rest) σ L :=
 kJ hg hd (by simp) (λa w ha H=>by
  obtain⟨_,_,q,c,D,_⟩:=hV;have:=ha.ev hx;simp[execOp,resolve,invoke,builtin,this,D,mU,run_underlying ht,al,goInt]) h
theorem gm [bA F] {Ls:List α} {j off:Nat} {i:Int} {q:α} (hV:Vw vv Ls size j v xs) (J:cj xs i=some q) (ht:P.underlying t=some (.slice e)) (Z:bI P e size) (hg:gd ops σ g=some true) (hd:d<N) (hx:ev σ x=some v) (hy:ev σ y=some (.int .i64 i)) (M:(j+i.toNat)*size=off) (h:TO F P w0 K N dfs ops Q rest ((d,.pointer (some ⟨eS vv,off,none⟩))::σ) L):TO F P w0 K N dfs ops Q (⟨some d,.indexAddr t x y,ty,pos,aft,g⟩::rest) σ L:=by
 obtain⟨ii,hu,H⟩:=Z.some;subst M;subst H;obtain⟨h0,W⟩:=z8 J;obtain⟨n,rfl⟩:∃n:Nat,i=n:=⟨i.toNat,by omega⟩;refine kJ hg hd (by simp) (λa w ha hw=>?_) h;obtain⟨_,_,q',c,l,_,hp⟩:=hV;have hp:=hp (by intro h;simp[h] at W;omega);subst hp;subst l;have h1:=ha.ev hx;have h2:=ha.ev hy;have D:n<xs.length:=by omega
 simp[execOp,Instr.indexAt,h1,h2,asIntOf,run_underlying ht,al,D,sizeOf,typeInfo,hu,jM,dC]
variable (k) in
theorem eN [bA F] {off:Nat} {i:Int} {q:α} (l:cj xs i=some q) (ht:P.underlying t=some (.slice e)) (H:bI P e size) (hg:gd ops σ g=some true) (hd:d<N) (hx:ev σ x=some vv) (hy:ev σ y=some (.int .i64 i)) (hk:L[k]?=some (vec enc e size vv xs)) (D:i.toNat*size=off) (h:TO F P w0 K N dfs ops Q rest ((d,.pointer (some ⟨eS vv,off,none⟩))::σ) L):TO F P w0 K N dfs ops Q (⟨some d,.indexAddr t x y,ty,pos,aft,g⟩::rest) σ L :=
 lF _ hk λhV=>gm hV l ht H hg hd hx hy (by rw[bY];exact D) h
theorem Rx (l:List α) {i j:Int} (h:0<=i/\i<=j/\j<=(l.length:Int)):((ee l i j).length:Int)=j-i:=by
 unfold ee;rw[aZ,aR];omega
theorem pf (lo hi:Option Value) {Ls:List α} {m:Nat} {i j:Int} (hV:Vw vv Ls size m v xs) (ht:P.underlying t=some (.slice e)) (hT:bI P e size) (J:lo=none/\i=0\/lo=some (.int .i64 i)) (M:hi=none/\j=(xs.length:Int)\/hi=some (.int .i64 j)) (h:0<=i/\i<=j/\j<=(xs.length:Int)) : ∃W,Vw vv Ls size (m+i.toNat) W (ee xs i j)/\∀w:World,(iG t v lo hi none).run P w=.ok W w:=by
 obtain⟨Z,hu,hs⟩:=hT.some;subst hs;obtain⟨hk,hL,q,c,hq,hc,hp⟩:=hV;subst hq;obtain⟨h1,h2,h3⟩:=h;have hl:=Rx xs ⟨h1,h2,h3⟩;obtain⟨a,rfl⟩:∃a:Nat,i=a:=⟨i.toNat,by omega⟩;obtain⟨b,rfl⟩:∃b:Nat,j=b:=⟨j.toNat,by omega⟩;have D:(ee xs (a:Int) (b:Int)).length=b-a:=by omega
 refine⟨.slice (if c=a then q else q.map (·.add (a*Z.size))) (b-a) (c-a),⟨by rw[D];simp only[cy];omega,?_,(if c=a then q else q.map (·.add (a*Z.size))),c-a,by rw[D],by rw[D];omega,λh=>?_⟩,λw=>?_⟩
 ·rw[D];unfold ee;simp only[cy];rw[show Ls.drop (m+a)=(Ls.drop m).drop a by rw[fY]]
  conv=>rhs;rw[<-hL]
  rw[List.drop_take,List.take_take,Nat.min_eq_left z1]
 ·have ag:a<b:=by
   have:0<(ee xs (a:Int) (b:Int)).length:=dh.2 h;omega
  have h4:=hp (by intro h;simp[h] at h3;omega);subst h4;rw[ai z1];simp[jM,dC]
 ·have e1:∀w:World,(kI true xs.length c lo hi none).run P w=.ok (a,b,c) w:=by
   intro w;have h7:b<=c:=by omega
   have h8:a<=b:=by omega
   have h9:¬c<b:=by omega
   have H:¬b<a:=by omega
   unfold kI;rcases J with⟨rfl,h⟩|rfl<;>rcases M with⟨rfl,h'⟩|rfl
   ·have e1:a=0:=by omega
    have e2:b=xs.length:=by omega
    rw[e1,e2];simp[al]
   ·have e1:a=0:=by omega
    rw[e1];simp[al,kA,asIntOf,h7,h9]
   ·have e2:b=xs.length:=by omega
    rw[<-e2];simp[al,kA,asIntOf,h8,H]
   ·simp[al,kA,asIntOf,h7,h8,h9,H]
  simp only[iG,Instr.slice,al,run_underlying ht,cD,e1];simp[sizeOf,typeInfo,hu,al]
end
def mK (k:IntKind) (x:Int):List Value:=[.int k x]
def xM (x:Bool):List Value:=[.bool x]
def gK (x:V):List Value:=[.string x]
theorem iq {k:IntKind} (x:Int):(mK k x).length=1:=rfl
theorem xN (x:Bool):(xM x).length=1:=rfl
theorem gG (x:V):(gK x).length=1:=rfl
theorem vu {k:IntKind} (x:Int):∀u∈mK k x,u.oneCell'=true:=by
 intro u hu;simp only[mK,bg,dJ,or_false] at hu;rcases hu with rfl;rfl
theorem pE (x:V):∀u∈gK x,u.oneCell'=true:=by
 intro u hu;simp only[gK,bg,dJ,or_false] at hu;rcases hu with rfl;rfl
theorem Ry {L As:List bG}:∀ (ks:List Nat),qm L ks=some As->tE ks=true->∀ {C1 C2:Nat->Prop} {w:World},aP As C1 w->aP (zU L ks) C2 w->(∀k,C1 k->¬C2 k)->aP L (λk=>C1 k\/C2 k) w:=by
 intro ks
 induction ks generalizing L As with
 |nil=>
  intro h _ C1 C2 w h1 h2 h3;simp only[qm,ia] at h;subst h;exact h2.congr (λk=>⟨λh=>h.resolve_left (h1 k),.inr⟩)
 |cons k ks H=>
  intro h hd C1 C2 w h1 h2 h3;simp only[tE,aN,cX] at hd;simp only[qm] at h;split at h
  ·rename_i A D g1 g2;cases h;obtain⟨W,M,e1,e2,J,q⟩:=h1;have hk:k<L.length:=(aq.1 g1).1;have:=H (L:=L.set k cT) (As:=D) (by rw[Gb hd.1];exact g2) hd.2 e2 (show aP (zU (L.set k cT) ks) C2 w from h2) (λj hj=>h3 j ((q j).2 (.inr hj)));have h5:=aP.put (C:=λj=>C1 j\/C2 j) hk e1 this (λj hj l=>by
    rcases l with h|h
    ·exact J j hj h
    ·exact h3 j ((q j).2 (.inl hj)) h) (λj=>by rw[q,or_assoc])
   rwa [KA g1] at h5
  ·cases h
section
variable {F:Fence} {P:Program} {w0:World} {K:Nat->Prop} {N:Nat} {dfs:List Deferred} {ops:Array Oper} {Q:Exit->Act->World->Prop} {rest:List Oper} {σ σ':List (Nat×Value)} {L L' R As Bs:List bG} {o:Oper} {v:Value}
 {d:Nat} {t:TypeId} {op:Op} {ty:TypeId} {pos:String} {aft:Array Edge} {g:Option (Nat×Bool)} {x y z:Operand} {c c1 c2 c3:Code} {k:Nat} {A B:bG} {RO:List (Nat×Obj)}
 {α:Type} {enc:α->List Value} {e:TypeId} {size:Nat} {xs:List α} {vv:Value} {s:V} {ex:Exit}
variable (v) in
theorem ru [bA F] {xs:List Operand} {H:Array TypeId} {f:FuncId} {first cap:Array Value} (vs:List Value){D:List Value} (hg:gd ops σ g=some true) (hd:d<N) (hx:ev σ x=some (.func (.func f) first cap)) (W:evL σ xs=some vs) (hv:first.toList++vs++cap.toList=D) (M:∀args w,(callFunc f args).run P w=.ok (.enter f args) w) (hF:Fn P f D As (λ_:Unit=>v) (λ_=>As)) (ks:List Nat) (Z:qm L ks=some As) (hk:tE ks=true) (h:TO F P w0 K N dfs ops Q rest ((d,v)::σ) L) : TO F P w0 K N dfs ops Q (⟨some d,.call {callee:=.value x,args:=xs.toArray,argTypes:=H },ty,pos,aft,g⟩::rest) σ L:=by
 intro a w ha hw;simp only[wpListIn,wv (o:=⟨some d,.call { callee:=.value x,args:=xs.toArray,argTypes:=H },ty,pos,aft,g⟩) ha hg,if_true];refine⟨λf _=>bA.fn f,?_⟩;have h1:(execOp a.eval ⟨some d,.call { callee:=.value x,args:=xs.toArray,argTypes:=H },ty,pos,aft,g⟩).run P w=.ok (.enter f D.toArray) w:=by
  have e:first++vs.toArray++cap=D.toArray:=by rw[<-hv];simp
  simp only[execOp,resolve,fL,ha.evL W,ha.ev hx,nf,al,jS,cD,invoke,e,M]
 rw[jf F _ _ (by simp),h1];refine⟨(λh=>by rw[bA.depth (F:=F)] at h;cases h),?_⟩;obtain⟨C,hL,q⟩:=hw;obtain⟨C1,C2,g1,g2,g3,g4⟩:=ct ks Z hk C w hL;refine bA.calls ((hF w C1 g1).mono ?_);rintro e w' ⟨b,rfl,C',hB,l⟩;refine h _ w' (ha.put hd _) ⟨λj=>C' j\/C2 j,Ry ks Z hk hB (g2.loc l.1.size (λk hk=>l.1.keep k (g2.lt k hk) (λh=>g3 k h hk))) (λj hj J=>?_),?_,?_⟩
 ·rcases l.2 j hj with h|h
  ·exact g3 j h J
  ·have:=g2.lt j J;omega
 ·exact q.1.trans' l.1 (λi hi hc=>by
   rcases q.2 i ((g4 i).2 (.inl hc)) with h|h
   ·exact h
   ·omega)
 ·intro j hj;have:=q.1.size;have h9:=l.1.size;rcases hj with hj|hj
  ·rcases l.2 j hj with h|h
   ·rcases q.2 j ((g4 j).2 (.inl h)) with h|h
    ·exact .inl h
    ·exact .inr ⟨h.1,by omega⟩
   ·exact .inr ⟨by omega,h.2⟩
  ·rcases q.2 j ((g4 j).2 (.inr hj)) with h|h
   ·exact .inl h
   ·exact .inr ⟨h.1,by omega⟩
variable (enc e size) in
theorem Dp (h:TX w0 K N dfs Q ex σ (L++[vec enc e size (.slice none 0 0) ([]:List α)])):TX w0 K N dfs Q ex σ L:=λa w ha l=>
 h a w ha (l.grow (C':=λ_=>False) (cY.refl _ _) (aP.one (A:=vec enc e size (.slice none 0 0) ([]:List α)) ji.nil))
theorem Vw.one {Ls:List α} (h:Vw vv Ls size k v xs):v.oneCell'=true:=by
 obtain⟨_,_,q,c,rfl,_⟩:=h;rfl
theorem Rz {m n:Bool} (ht:P.underlying t=some .bool) (w:World):(do eqGuard .eql t x y (.bool m) (.bool n);binOp .eql t (.bool m) (.bool n):Sem Value).run P w=.ok (.bool (m==n)) w:=by
 simp[eqGuard,binOp,al,run_equal_bool w t m n ht]
theorem RA {m n:Bool} (ht:P.underlying t=some .bool) (w:World):(do eqGuard .neq t x y (.bool m) (.bool n);binOp .neq t (.bool m) (.bool n):Sem Value).run P w=.ok (.bool (m != n)) w:=by
 simp[eqGuard,binOp,al,run_equal_bool w t m n ht,bne]
theorem KS {l:TypeId} {a:Addr} {w:World} (ht:P.underlying t=some (.pointer l)):(Op.equal t (.pointer (some a)) (.pointer none)).run P w=.ok false w:=by
 have h:∀d,(gk (d+1) t (.pointer (some a)) (.pointer none)).run P w=.ok false w:=λd=>by simp[gk,run_underlying ht]
 exact h 9999
theorem Dq {l:TypeId} {a:Addr} (ht:P.underlying t=some (.pointer l)) (w:World):(do eqGuard .eql t x y (.pointer (some a)) (.pointer none);binOp .eql t (.pointer (some a)) (.pointer none):Sem Value).run P w=.ok (.bool false) w:=by
 simp[eqGuard,binOp,al,KS ht]
theorem RC {l:TypeId} {a:Addr} (ht:P.underlying t=some (.pointer l)) (w:World):(do eqGuard .neq t x y (.pointer (some a)) (.pointer none);binOp .neq t (.pointer (some a)) (.pointer none):Sem Value).run P w=.ok (.bool true) w:=by
 simp[eqGuard,binOp,al,KS ht]
theorem RE {b:BinOp} {p:Bool} {xs ys:Array Value} (hb:b=.eql\/b=.neq) (hm:P.eqGuardType P.depth t=false) (h:∀w,(gk 10000 t (.agg xs) (.agg ys)).run P w=.ok p w) (w:World) :
  (do eqGuard b t x y (.agg xs) (.agg ys);binOp b t (.agg xs) (.agg ys):Sem Value).run P w=.ok (.bool (if b=.eql then p else !p)) w:=by
 rcases hb with rfl|rfl
 ·simp only[al,run_eqGuard_agg w _ _ _ _ _ _ hm,cD,run_eql_struct,h];rfl
 ·simp only[al,run_eqGuard_agg w _ _ _ _ _ _ hm,cD,run_neq_struct,h];rfl
theorem KT {dd i: Nat}(off: Nat) {xs ys : Array Value} {t': TypeId}(ft: TypeId) (a b: Value) {p q : Bool} (hf : ((P.fieldsOf t').toList[i]?).map (λf => (f.name != "_", f.type, f.offset)) = some (true, ft, off))
  (ha:∀w:World,(part ft xs off).run P w=.ok a w) (hb:∀w:World,(part ft ys off).run P w=.ok b w) (he:∀w,(gk dd ft a b).run P w=.ok p w)
  (hr:∀w,(mB dd xs ys ((P.fieldsOf t').toList.drop (i+1))).run P w=.ok q w) (w:World):(mB dd xs ys ((P.fieldsOf t').toList.drop i)).run P w=.ok (p&&q) w:=by
 simp only[da] at hf
 obtain⟨f,hf,he'⟩:=hf
 simp only[Prod.mk.injEq] at he'
 obtain⟨h1,rfl,rfl⟩:=he'
 have hl:=(aq.1 hf).1
 have hd:(P.fieldsOf t').toList.drop i=f::(P.fieldsOf t').toList.drop (i+1):=by
  rw[aQ hl];congr 1;exact (aq.1 hf).2
 rw[hd,mB,aj (by simpa using h1)]
 simp only[al,ha,hb,he,cD]
 cases p
 ·simp
 ·simp[hr]
theorem RF {dd:Nat}(n:Nat) {xs ys:Array Value} {t':TypeId} (h:(P.fieldsOf t').toList.length=n) (w:World):(mB dd xs ys ((P.fieldsOf t').toList.drop n)).run P w=.ok true w:=by
 rw[<-h,List.drop_length];rfl
theorem KU {dd:Nat} {k l:IntKind} {a b:Int} (h:P.underlying t=some (.int l)) (w:World):(gk (dd+1) t (.int k a) (.int k b)).run P w=.ok (a==b) w:=run_equalIn_int w dd t k l a b h
theorem RG (dd:Nat) {xs ys:Array Value} {p:Bool} (ht:P.underlying t=some (.struct (P.fieldsOf t))) (hp:P.stoodInHeld t=false) (h:∀w,(mB dd xs ys ((P.fieldsOf t).toList.drop 0)).run P w=.ok p w) (w:World) : (gk (dd+1) t (.agg xs) (.agg ys)).run P w=.ok p w:=by
 rw[run_equalIn_agg w dd t xs ys ht hp];simpa using h w
theorem RH {p q:Bool} {xs ys:Array Value} (hm:P.eqGuardType P.depth t=false) (l:p=q) (h:∀w,(gk 10000 t (.agg xs) (.agg ys)).run P w=.ok p w) (w:World) : (do eqGuard .eql t x y (.agg xs) (.agg ys);binOp .eql t (.agg xs) (.agg ys):Sem Value).run P w=.ok (.bool q) w:=by
 subst l;exact RE (.inl rfl) hm h w
def uv (b:V):List Int:=b.data.toList.map (λc=>(c.toNat:Int))
def kK (l:List Int):V:=⟨(l.map (λx=>jE x.toNat)).toArray⟩
theorem RI (b:V):(uv b).length=b.size:=by simp[uv]
theorem Gs (l:List Int):(kK l).size=l.length:=by
 show ((l.map (λx=>jE x.toNat)).toArray).size=_;simp
theorem KV {l:List Int} (h:∀x∈l,U8 x):uv (kK l)=l:=by
 simp only[uv,kK,List.map_map]
 conv=>rhs;rw[<-List.map_id l]
 refine List.map_congr_left λx hx=>?_;have:=h x hx;simp only[Function.comp,id,UInt8.toNat_ofNat'];omega
theorem RJ {v:Value} {b:V}:byt e v b=vec (mK .u8) e 1 v (uv b):=by
 have h1:strCells b=(uv b).flatMap (mK .u8):=by
  simp only[strCells,uv,mK,List.flatMap_map];generalize b.data.toList=l
  induction l with
  |nil=>rfl
  |cons c l q=>rw[au,q,aK];rfl
 have:∀C w,mv e v b C w↔ji (mK .u8) e 1 v (uv b) C w:=λC w=>by
  unfold mv ji Rw;rw[RI,h1]
 unfold byt vec;congr 1;funext C w;exact propext (this C w)
theorem xO {v:Value} {l:List Int} (h:∀x∈l,U8 x):vec (mK .u8) e 1 v l=byt e v (kK l):=by rw[RJ,KV h]
theorem KW {l:Value} {enc:α->List Value} {z:α} (hz:l.cells.toList=enc z) (h0:l.cells.size=size) (hp:0<size):∀n:Nat,(madeCells l.cells (n*size)).toList=(aO n z).flatMap enc:=by
 have H:(enc z).length=size:=by rw[<-hz];simpa using h0
 intro n;apply nI;intro i;have D:∀m,((aO m z).flatMap enc).length=m*size:=λm=>by
  induction m with
  |zero=>simp
  |succ m q=>rw[nY,aK,aa,q,H,dC,kW,lq]
 by_cases hi:i<n*size
 ·have e1:((aO n z).flatMap enc)[i]?=(enc z)[i % size]?:=by
   clear h0
   induction n generalizing i with
   |zero=>simp at hi
   |succ n q=>
    rw[nY,aK];by_cases h:i<size
    ·rw[ea z1,Nat.mod_eq_of_lt h]
    ·rw[eK z1,H,q (i-size) (by rw[dC] at hi;omega),<-Nat.mod_eq_sub_mod z1]
  rw[e1,<-hz];have hm:i % size<l.cells.size:=by rw[h0];exact pz _ hp
  simp[madeCells,hi,h0,fp hm];rw[getElem!_pos _ _ (by rw[<-h0] at hm |-;exact hm)]
 ·rw[ja (by simp[size_madeCells];omega),ja (by rw[D];omega)]
theorem Gt [bA F] {sl:Operand} {Z:TypeId} (z:α) {n:Int} (ht:P.underlying Z=some (.slice e)) (hE:eh P e size) (hZ:cC P e (enc z)) (H:∀x,(enc x).length=size) (hg:gd ops σ g=some true) (hd:d<N) (hs:ev σ sl=some (.int .i64 n)) (hn:0<=n/\n<=2147483648) (h:∀v',TO F P w0 K N dfs ops Q rest ((d,v')::σ) (L++[vec enc e size v' (aO n.toNat z)])) : TO F P w0 K N dfs ops Q (⟨some d,.makeSlice Z sl sl,ty,pos,aft,g⟩::rest) σ L:=by
 obtain⟨i,W,hi,q,l,ag,hsz,M⟩:=hE;obtain⟨i',z',J,D,ao⟩:=hZ.some;rw[hi] at J;cases J;rw[q] at D;cases D;refine pD hg (by simp) λa w ha hw=>?_;have hb:(i.bytes:Int)*n<=281474976710656:=by
  have h1:(i.bytes:Int)<=65536:=by omega
  calc (i.bytes:Int)*n<=65536*2147483648:=Int.mul_le_mul h1 hn.2 hn.1 z1
   _<=_:=by omega
 have hr:=run_make (P:=P) w Z e i W ht hi q .i64 .i64 n n hn.1 (Int.le_refl _) hb z1;refine⟨_,_,by simp only[execOp,ha.ev hs,al,hr];rfl,h _ _ _ (ha.put hd _) ?_⟩;have h2:=hw.alloc (.cells (madeCells W.cells (n.toNat*i.size)) e (0,0));have h3:(Go.Proofs.YtncjnoakkghmmaaGreatDoor.obj w.heap.size (.cells (madeCells W.cells (n.toNat*i.size)) e (0,0)))=cells w.heap.size ((aO n.toNat z).flatMap enc) e:=by
  unfold cells;rw[<-KW ao ag hsz,l]
 rw[h3] at h2;have h4:=h2.toVec (k:=L.length) (size:=size) (aO n.toNat z) (b:=w.heap.size) (e:=e) (by simp) H rfl (by simp[maxLen];omega);simpa using h4
theorem Dt [bA F] {l:Array TypeId} {kk:IntKind} {m n:Int} (hg:gd ops σ g=some true) (hd:d<N) (hx:ev σ x=some (.int kk m)) (hy:ev σ y=some (.int kk n)) (h:TO F P w0 K N dfs ops Q rest ((d,.int kk (min m n))::σ) L):TO F P w0 K N dfs ops Q (⟨some d,.call {callee:=.builtin .min,args:=#[x,y],argTypes:=l },ty,pos,aft,g⟩::rest) σ L :=
 kJ hg hd (by simp) (λa w ha q=>by
  have h1:=ha.ev hx;have h2:=ha.ev hy;have e:(if n<m then n else m)=min m n:=by rw[Int.min_def];split<;>split<;>omega
  simp[execOp,resolve,invoke,builtin,h1,h2,Builtin.min_,Builtin.min2,al,e]) h
theorem Gu (j:Nat) {X:List bG} (hk:L[k]?=some A) (hj:L[j]?=some (iR X)) (l:k≠j) (h:TC F P w0 K N dfs Q c σ ((L.set k cT).set j (iR (A::X)))):TC F P w0 K N dfs Q c σ L:=λa w ha q=>h a w ha (q.starCons hk hj l)
theorem vx (b:Bool) (ht:b=true->TO F P w0 K N dfs ops Q rest σ L) (hf:b=false->TO F P w0 K N dfs ops Q rest σ L):TO F P w0 K N dfs ops Q rest σ L:=by
 cases b with
 |true=>exact ht rfl
 |false=>exact hf rfl
theorem nA {xs pre post l:List α} {x:α} (h:xs=pre++x::post) (h2:xs=pre++[x]++l):post=l:=by
 rw[h,av] at h2;have:=List.append_cancel_left h2;simpa using this
end
def Aa {β:Type} (f:β->bG):bG:=⟨λC w=>∃b,(f b).P C w,λ⟨b,h⟩=>(f b).lt h,λ⟨b,h⟩ l hk=>⟨b,(f b).loc h l hk⟩⟩
section
variable {F:Fence} {P:Program} {w0:World} {K:Nat->Prop} {N:Nat} {dfs:List Deferred} {ops:Array Oper} {Q:Exit->Act->World->Prop} {rest:List Oper} {c:Code} {ex:Exit} {σ:List (Nat×Value)} {L As R:List bG} {β:Type}
def nN {β:Type} (As:List bG) (Bs:β->List bG) (l:β->Prop):Prop:=∀C w,aP As C w->∃b,l b/\aP (Bs b) C w
theorem Holds.entl {l:β->Prop} {Bs:β->List bG} {w:World} (h:Holds w0 K L w) (q:aH L As R) (H:nN As Bs l):∃b,l b/\Holds w0 K (R++Bs b) w:=by
 obtain⟨C1,h1,h2⟩:=h.split q;obtain⟨b,D,hb⟩:=H C1 w h1;exact⟨b,D,h2 _ C1 w (cY.refl _ _) hb⟩
variable (As) in
theorem wC {l:β->Prop} {Bs:β->List bG} (D:aH L As R) (J:nN As Bs l) (h:∀b,l b->TO F P w0 K N dfs ops Q rest σ (R++Bs b)):TO F P w0 K N dfs ops Q rest σ L:=λa w ha q=>by
 obtain⟨b,H,hb⟩:=q.entl D J;exact h b H a w ha hb
theorem KX {l:β->Prop} {Bs:β->List bG} (D:aH L As R) (J:nN As Bs l) (h:∀b,l b->TC F P w0 K N dfs Q c σ (R++Bs b)):TC F P w0 K N dfs Q c σ L:=λa w ha q=>by
 obtain⟨b,H,hb⟩:=q.entl D J;exact h b H a w ha hb
theorem KY {l:β->Prop} {Bs:β->List bG} (D:aH L As R) (J:nN As Bs l) (h:∀b,l b->TX w0 K N dfs Q ex σ (R++Bs b)):TX w0 K N dfs Q ex σ L:=λa w ha q=>by
 obtain⟨b,H,hb⟩:=q.entl D J;exact h b H a w ha hb
end
structure Hd where
 p:Option Addr
 n:Nat
 c:Nat
def Hd.v (h:Hd):Value:=.slice h.p h.n h.c
def Hd.nil:Hd:=⟨none,0,0⟩
section
variable {α η:Type} {enc:α×η->List Value} {nest:α×η->List bG} {e:TypeId} {size:Nat} {v:Value} {xs:List α} {i:Nat} {x:α}
def oO (enc:α×η->List Value) (nest:α×η->List bG) (e:TypeId) (size:Nat) (v:Value) (xs:List α):bG :=
 Aa λzs:{zs:List (α×η) // zs.map bE=xs}=>iR [vec enc e size v zs.1,iR (zs.1.flatMap nest)]
theorem KZ {A B:bG} {C:Nat->Prop} {w:World} (h:aP [A,B] C w):∃C1 C2,A.P C1 w/\B.P C2 w/\(∀k,C1 k->¬C2 k)/\∀k,C k↔C1 k\/C2 k:=by
 obtain⟨C1,C2,h1,⟨l,H,g1,g2,D,g4⟩,h3,q⟩:=h;have e:∀k,C2 k↔l k:=λk=>by rw[g4];exact⟨λh=>h.resolve_right (g2 k),.inl⟩
 exact⟨C1,l,h1,g1,λk h h'=>h3 k h ((e k).2 h'),λk=>by rw[q,e]⟩
theorem Gv {A B:bG} {C:Nat->Prop}(C1 C2:Nat->Prop) {w:World} (h1:A.P C1 w) (h2:B.P C2 w) (h3:∀k,C1 k->¬C2 k) (l:∀k,C k↔C1 k\/C2 k):aP [A,B] C w :=
 ⟨C1,C2,h1,⟨C2,λ_=>False,h2,λ_ h=>h,λ_ _ h=>h,λk=>by simp⟩,h3,l⟩
theorem aP.one1 {A:bG} {C:Nat->Prop} {w:World}:aP [A] C w↔A.P C w:=by
 constructor
 ·rintro⟨C1,C2,h1,h2,_,l⟩;have:C1=C:=funext λk=>propext ⟨λh=>(l k).2 (.inl h),λh=>((l k).1 h).resolve_right (h2 k)⟩;rw[<-this];exact h1
 ·exact λh=>⟨C,λ_=>False,h,λ_ h=>h,λ_ _ h=>h,λk=>by simp⟩
theorem Du {A B:List bG} {C:Nat->Prop} {w:World} (h:aP (A++B) C w):∃C1 C2,aP A C1 w/\aP B C2 w/\(∀k,C1 k->¬C2 k)/\∀k,C k↔C1 k\/C2 k:=by
 induction A generalizing C with
 |nil=>exact⟨λ_=>False,C,λ_ h=>h,h,λ_ h=>h.elim,λk=>by simp⟩
 |cons A L q=>
  obtain⟨C1,C2,h1,h2,h3,D⟩:=h;obtain⟨l,J,g1,g2,H,g4⟩:=q h2;refine⟨λk=>C1 k\/l k,J,⟨C1,l,h1,g1,λk h h'=>h3 k h ((g4 k).2 (.inl h')),λk=>Iff.rfl⟩,g2,λk h h'=>?_,λk=>?_⟩
  ·rcases h with h|h
   ·exact h3 k h ((g4 k).2 (.inr h'))
   ·exact H k h h'
  ·rw[D,g4,or_assoc]
theorem wD {A B:List bG} {C C1 C2:Nat->Prop} {w:World} (h1:aP A C1 w) (h2:aP B C2 w) (h3:∀k,C1 k->¬C2 k) (l:∀k,C k↔C1 k\/C2 k):aP (A++B) C w:=(h1.append h2 h3).congr l
theorem K0 {zs:List (α×η)} {z:α×η} (hz:zs[i]?=some z) {C:Nat->Prop} {w:World}:aP (zs.flatMap nest) C w↔∃C1 C2,aP (nest z) C1 w/\aP ((zs.eraseIdx i).flatMap nest) C2 w/\(∀k,C1 k->¬C2 k)/\∀k,C k↔C1 k\/C2 k:=by
 induction zs generalizing i C with
 |nil=>simp at hz
 |cons y zs M=>
  rw[aK];rcases i with _|i
  ·simp at hz;subst hz;constructor
   ·exact λh=>Du h
   ·rintro⟨C1,C2,h1,h2,h3,l⟩;exact wD h1 h2 h3 l
  ·have q:zs[i]?=some z:=by simpa using hz
   have e:(y::zs).eraseIdx (i+1)=y::zs.eraseIdx i:=rfl;rw[e,aK];constructor
   ·intro h;obtain⟨C1,C2,h1,h2,h3,l⟩:=Du h;obtain⟨J,H,g1,g2,D,g4⟩:=(M q).1 h2;refine⟨J,λk=>C1 k\/H k,g1,wD h1 g2 (λk h h'=>h3 k h ((g4 k).2 (.inr h'))) (λk=>Iff.rfl),λk h h'=>?_,λk=>?_⟩
    ·rcases h' with h'|h'
     ·exact h3 k h' ((g4 k).2 (.inl h))
     ·exact D k h h'
    ·rw[l,g4];exact or_left_comm
   ·rintro⟨J,Z,g1,W,D,g4⟩;obtain⟨C1,H,h1,g2,h3,l⟩:=Du W;refine wD (C1:=C1) (C2:=λk=>J k\/H k) h1 ((M q).2 ⟨J,H,g1,g2,λk h h'=>D k h ((l k).2 (.inr h')),λk=>Iff.rfl⟩) (λk h h'=>?_) (λk=>?_)
    ·rcases h' with h'|h'
     ·exact D k h' ((l k).2 (.inl h))
     ·exact h3 k h h'
    ·rw[g4,l];exact or_left_comm
theorem RK:nN ([]:List bG) (λ_:Unit=>[oO enc nest e size (.slice none 0 0) ([]:List α)]) (λ_=>True):=by
 intro C w h;refine⟨(),trivial,aP.one1.2 ⟨⟨[],rfl⟩,Gv (λ_=>False) C ji.nil h (λ_ h=>h.elim) (λk=>by simp)⟩⟩
theorem K2 {C:Nat->Prop} {w:World} (h:(oO enc nest e size v xs).P C w):∃a c,v=.slice a xs.length c:=by
 obtain⟨⟨zs,hz⟩,h⟩:=h;obtain⟨C1,C2,h1,_⟩:=KZ h;have:=ji.len h1;rw[<-hz,ax];exact this
end
section
variable {F:Fence} {P:Program} {w0:World} {K:Nat->Prop} {N:Nat} {dfs:List Deferred} {ops:Array Oper} {Q:Exit->Act->World->Prop} {rest:List Oper} {σ:List (Nat×Value)} {L:List bG}
 {d:Nat} {ty:TypeId} {pos:String} {aft:Array Edge} {g:Option (Nat×Bool)} {x:Operand} {k:Nat} {α η:Type} {enc:α×η->List Value} {nest:α×η->List bG} {e:TypeId} {size:Nat} {vv:Value} {xs:List α}
theorem RL [bA F] {l te:TypeId} (hg:gd ops σ g=some true) (hd:d<N) (hx:ev σ x=some vv) (hk:L[k]?=some (oO enc nest e size vv xs)) (ht:P.underlying l=some (.slice te)) (h:TO F P w0 K N dfs ops Q rest ((d,.int .i64 xs.length)::σ) L):TO F P w0 K N dfs ops Q (⟨some d,.call {callee:=.builtin .len,args:=#[x],argTypes:=#[l] },ty,pos,aft,g⟩::rest) σ L :=
 kJ hg hd (by simp) (λa w ha D=>by
  obtain⟨C,hv,_⟩:=D.focus hk;obtain⟨q,J,H⟩:=K2 hv;have:=ha.ev hx;simp[execOp,resolve,invoke,builtin,this,H,mU,run_underlying ht,al,goInt]) h
variable (k) in
theorem jk {ε:Type} {_w:ε->List Value} {ys:List ε} (hk:L[k]?=some (vec _w e size vv ys)) (h:∀hd:Hd,vv=hd.v->TO F P w0 K N dfs ops Q rest σ L):TO F P w0 K N dfs ops Q rest σ L:=λa w ha l=>by
 obtain⟨C,hv,_⟩:=l.focus hk;obtain⟨q,D,he⟩:=ji.len hv;exact h ⟨q,ys.length,D⟩ he a w ha l
theorem Gw (hk:L[k]?=some (oO enc nest e size vv xs)) (h:∀hd:Hd,vv=hd.v->TO F P w0 K N dfs ops Q rest σ L):TO F P w0 K N dfs ops Q rest σ L:=λa w ha l=>by
 obtain⟨C,hv,_⟩:=l.focus hk;obtain⟨q,D,he⟩:=K2 hv;exact h ⟨q,xs.length,D⟩ he a w ha l
theorem RM (b:Nat) {ε:Type} (_w:ε->List Value) (y:ε) (D:∀x,(_w x).length=size):nN [vec _w e size (.slice (some ⟨b,0,none⟩) 1 1) [y]] (λ_:Unit=>[cells b (_w y) e]) (λ_=>True):=by
 intro C w h;obtain⟨h1,rfl⟩:=aP.one1.1 h;refine⟨(),trivial,aP.one1.2 ⟨λk=>by simp[cn,eq_comm],?_⟩⟩;obtain⟨h2,h3⟩:=h1;rcases h3 with⟨h3,_⟩|⟨g,cap,l,he,_,h5,Z,W,M,H⟩
 ·cases h3
 ·cases he;have e1:[y].flatMap _w=_w y:=by simp
  rw[e1] at H h2;have J:l.toList.length=size:=by simpa using M
  have:l.toList=_w y:=by
   rw[<-H,ff];simp[J]
  have q:l=(_w y).toArray:=by rw[<-this]
  rw[h5,q]
end
section
variable {F:Fence} {P:Program} {w0:World} {K:Nat->Prop} {N:Nat} {dfs:List Deferred} {ops:Array Oper} {Q:Exit->Act->World->Prop} {rest:List Oper} {σ:List (Nat×Value)} {L:List bG}
 {d:Nat} {ty:TypeId} {pos:String} {aft:Array Edge} {g:Option (Nat×Bool)} {x y:Operand} {t e:TypeId} {size:Nat}
theorem qD [bA F] {n b o off:Nat} {i:Int} (h0:0<=i/\i<n) (ht:P.underlying t=some (.array n e)) (H:bI P e size) (hg:gd ops σ g=some true) (hd:d<N) (hx:ev σ x=some (.pointer (some ⟨b,o,none⟩))) (hy:ev σ y=some (.int .i64 i)) (D:o+i.toNat*size=off) (h:TO F P w0 K N dfs ops Q rest ((d,.pointer (some ⟨b,off,none⟩))::σ) L):TO F P w0 K N dfs ops Q (⟨some d,.indexAddr t x y,ty,pos,aft,g⟩::rest) σ L:=by
 obtain⟨J,hu,q⟩:=H.some;subst D;subst q;obtain⟨m,rfl⟩:∃m:Nat,i=m:=⟨i.toNat,by omega⟩;refine kJ hg hd (by simp) (λa w ha M=>?_) h;have h1:=ha.ev hx;have h2:=ha.ev hy;have l:m<n:=by omega
 simp[execOp,Instr.indexAt,h1,h2,asIntOf,run_underlying ht,al,l,sizeOf,typeInfo,hu,jM,fq]
end
theorem Gx {b n:Nat} {ε:Type} {_w:ε->List Value} {size:Nat} {e:TypeId} {ys:List ε} (D:ys.length=n):rr (vec _w e size (.slice (some ⟨b,0,none⟩) n n) ys) (cells b (ys.flatMap _w) e):=by
 intro C w h;subst D;obtain⟨h1,rfl⟩:=h;refine⟨λk=>by simp[cn,eq_comm],?_⟩;obtain⟨h2,h3⟩:=h1;rcases h3 with⟨h3,_⟩|⟨g,cap,l,he,_,h5,Z,W,J,H⟩
 ·cases h3
 ·cases he;have M:l.toList.length=ys.length*size:=by simpa using J
  have:l.toList=ys.flatMap _w:=by
   rw[<-H,ff];omega
  have q:l=(ys.flatMap _w).toArray:=by rw[<-this]
  rw[h5,q]
theorem RN {P:Program} {t e:TypeId} {α:Type} (enc:α->List Value) {size n:Nat} (xs:List α) {i:Int} (q:α) {v:Value} (ht:P.underlying t=some (.array n e)) (J:bI P e size) (W:xs.length=n) (l:∀x,(enc x).length=size) (H:cj xs i=some q) (hv:∀w:World,(part e (xs.flatMap enc).toArray (i.toNat*size)).run P w=.ok v w) (w:World):(ki t (.agg (xs.flatMap enc).toArray) (.int .i64 i)).run P w=.ok v w:=by
 obtain⟨M,hu,D⟩:=J.some;subst D;obtain⟨h0,h1⟩:=z8 H;have h2:¬i<0:=by omega
 have h3:i<(n:Int):=by omega
 have:=hv w;simp[ki,asIntOf,run_underlying ht,al,sizeOf,typeInfo,hu,h0,h3,this]
theorem K3 {α:Type} {enc:α->List Value} {size:Nat} (l:∀x,(enc x).length=size):∀ (xs:List α) (i:Nat) (q:α),xs[i]?=some q->((xs.flatMap enc).drop (i*size)).take size=enc q
 |[],i,q,h=>by simp at h
 |y::xs,0,q,h=>by
  simp at h;subst h;rw[aK,qe,fj,List.take_left' (l y)]
 |y::xs,i+1,q,h=>by
  have D:=K3 l xs i q (by simpa using h);rw[aK,show (i+1)*size=(enc y).length+i*size by rw[l,dC,kW,lq],<-fY,jb];exact D
theorem RP {P:Program} {e:TypeId} {α:Type} (enc:α->List Value) {xs:List α} {i size:Nat} {q:α} {w:World} (J:qC P e size) (l:∀x,(enc x).length=size) (H:xs[i]?=some q) : (part e (xs.flatMap enc).toArray (i*size)).run P w=.ok (.agg (enc q).toArray) w:=by
 obtain⟨dd,hu,hr,D⟩:=J;obtain⟨W,hi,hsz⟩:=da.1 D;have h1:=K3 l xs i q H;have h2:(xs.flatMap enc).toArray.extract (i*size) (i*size+size)=(enc q).toArray:=by
  apply gI.1;rw[Array.toList_extract,List.extract_eq_take_drop];simpa using h1
 have h3:(isAgg e).run P w=.ok true w:=by
  cases dd<;>simp_all [isAgg,run_underlying hu,al,TypeDesc.isRow]
 have M:(sizeOf e).run P w=.ok size w:=by simp[sizeOf,typeInfo,hi,hsz,al]
 unfold part;simp only[al,h3,mq,if_true,M];rw[h2];rfl
section
variable {F:Fence} {P:Program} {w0:World} {K:Nat->Prop} {N:Nat} {dfs:List Deferred} {Q:Exit->Act->World->Prop} {σ:List (Nat×Value)} {L:List bG}
theorem RS {id:Nat} {l:List Oper} (n:Nat) (Inv:(Nat->Prop)->Act->World->Prop) (hm:P.follows .mixedOrders=true) (a2:(l.zipIdx.all λ(o,i)=>(kf o).all λj=>decide (j<i))=true) (hT:wy l n=true) (a8:n<=l.length) (h0:∀a w,At N dfs σ a->Holds w0 K L w->Inv (λ_=>False) a w) (ao:∀i o,i<n->l[i]?=some o->∀D a w,¬D i->(∀j∈kf o,D j)->Clo l.toArray D->Inv D a w->wpListIn F 0 P l.toArray (Exit.then (Inv (λj=>D j\/j=i)) Q) [o] a w) (M:∀D a w,(∀j,j<n->D j)->Inv D a w->wpListIn F 0 P l.toArray Q (l.drop n) a w):TC F P w0 K N dfs Q (.region id l.toArray true) σ L:=by
 intro a w ha hw;have aw:=Gj hT;obtain⟨J,hJ⟩:∃J:(Nat->Prop)->Act->World->Prop,J=(λD a w=>Clo l.toArray D/\((∃k,n<k/\(∀j,D j↔j<k)/\wpListIn F 0 P l.toArray Q (l.drop k) a w) \/
  ((∀j,D j->j<n)/\Inv D a w))):=⟨_,rfl⟩
 refine C8 hm (by simpa using a2) J (by subst hJ;exact⟨λi o _ h=>h.elim,.inr ⟨λ_ h=>h.elim,h0 _ _ ha hw.drew⟩⟩) ?_ ?_
 ·have all:∀ (m:List Oper) (k:Nat),(∀i o,m[i]?=some o->l[k+i]?=some o)->gU F 0 P l.toArray Q J m k:=by
   intro m
   induction m with
   |nil=>intro k _;trivial
   |cons q m ih=>
    intro k hl;refine⟨?_,ih (k+1) (λi o' a0=>by have:=hl (i+1) o' (by simpa using a0);rwa [show k+1+i=k+(i+1) by omega])⟩;have hq:l[k]?=some q:=hl 0 q rfl;subst hJ;rintro D a w hn hd ⟨ag,hI⟩;have Z:Clo l.toArray (λj=>D j\/j=k):=ag.add (by simpa using hq) hd;have a9:k<l.length:=(aq.1 hq).1;have W:l.drop k=q::l.drop (k+1):=by
     obtain⟨h1,h2⟩:=aq.1 hq;rw[<-h2];exact aQ h1
    rcases hI with⟨m,a1,hD,H⟩|⟨hD,hI⟩
    ·have a3:k=m:=by
      have h1:¬k<m:=λh=>hn ((hD k).2 h);have h2:=aw D ag k q z1 hq hd;by_cases h3:m<k
      ·have:=(hD _).1 (h2 _ h3);omega
      ·omega
     subst a3;rw[W] at H;refine ql (λa' w' h=>⟨Z,.inl ⟨k+1,by omega,λj=>?_,h⟩⟩) (xH H);show D j\/j=k↔_;rw[hD];omega
    ·by_cases hk:k<n
     ·refine ql (λa' w' h=>⟨Z,.inr ⟨λj hj=>?_,h⟩⟩) (ao k q hk hq D a w hn hd ag hI);rcases hj with hj|rfl
      ·exact hD j hj
      ·exact hk
     ·have hall:=aw D ag k q z1 hq hd;have a4:k=n:=by
       by_cases h:n<k
       ·have:=hD _ (hall _ h);omega
       ·omega
      subst a4;have H:=M D a w hall hI;rw[W] at H;refine ql (λa' w' h=>⟨Z,.inl ⟨k+1,by omega,λj=>?_,h⟩⟩) (xH H);refine⟨λhj=>?_,λhj=>?_⟩
      ·rcases hj with hj|rfl
       ·have:=hD j hj;omega
       ·omega
      ·by_cases h:j=k
       ·exact .inr h
       ·exact .inl (hall j z1)
  exact all _ 0 (λi o ho=>by simpa using ho)
 ·subst hJ;rintro D a w hD ⟨ag,hI⟩;have hsz:l.toArray.size=l.length:=by simp
  rcases hI with⟨m,a1,a6,H⟩|⟨a5,hI⟩
  ·have:l.length<=m:=by
    by_cases h:m<l.length
    ·have:=(a6 m).1 (hD _ (by rw[hsz];omega));omega
    ·omega
   rw[bD this] at H;exact H
  ·have a7:l.length<=n:=by
    by_cases h:n<l.length
    ·have:=a5 n (hD _ (by rw[hsz];omega));omega
    ·omega
   have:=M D a w (λj hj=>hD j (by rw[hsz];omega)) hI;rw[bD z1] at this;exact this
open Classical in
noncomputable def eD (D:Nat->Prop) (base:bG):List (Nat×bG)->bG
 |[]=>base
 |(i,A)::r=>if D i then A else eD D base r
theorem jv {D:Nat->Prop} {base A B:bG} {i:Nat} {r:List (Nat×bG)} (h:D i) (hA:A=B):eD D base ((i,A)::r)=B:=by unfold eD;rw[aj h,hA]
theorem eH {D:Nat->Prop} {base A B:bG} {i:Nat} {r:List (Nat×bG)} (h:¬D i) (hr:eD D base r=B):eD D base ((i,A)::r)=B:=by rw[eD,ai h];exact hr
theorem gp {D:Nat->Prop} {base:bG}:eD D base []=base:=rfl
theorem jA {D:Nat->Prop} {i:Nat} {base:bG}:∀ {r:List (Nat×bG)},(r.map bE).contains i=false->eD (λj=>D j\/j=i) base r=eD D base r
 |[],_=>rfl
 |(k,A)::r,h=>by
  simp only[au,iC,bU] at h;have l:¬k=i:=by have:=h.1;simp at this;exact λe=>this e.symm
  rw[eD,eD,jA h.2];by_cases hd:D k
  ·rw[aj (.inl hd),aj hd]
  ·rw[ai hd,ai (by rintro (h | h);exact hd h;exact l h)]
theorem qE {base:bG}:∀ {r:List (Nat×bG)},eD (λ_=>False) base r=base
 |[]=>rfl
 |(k,A)::r=>by rw[eD,ai (λh=>h),qE]
theorem cz {α:Type} {a q:α} {l l':List α} (h:a=q) (D:l=l'):a::l=q::l':=by rw[h,D]
theorem eT {D:Nat->Prop} {i t:Nat} {v l:Value} {r q:List (Nat×Nat×Value)} (h:D i->v=l) (hr:dl D r=dl D q):dl D ((i,t,v)::r)=dl D ((i,t,l)::q):=by
 simp only[dl,hr];by_cases hd:D i
 ·rw[aj hd,aj hd,h hd]
 ·rw[ai hd,ai hd]
def gC {β:Type} (F:Fence) (P:Program) (w0:World) (K:Nat->Prop) (N:Nat) (dfs:List Deferred) (Q:Exit->Act->World->Prop) (ops:Array Oper) (σ:List (Nat×Value)) (l:β->List (Nat×Nat×Value)) (q:(Nat->Prop)->β->List bG):List Oper->Nat->Prop
 |[],_=>True
 |o::rest,i=>(∀ (D:Nat->Prop) (b:β),¬D i->(∀j∈kf o,D j)->Clo ops D ->
   TO F P w0 K N dfs ops (Exit.then (λa w=>∃b,At N dfs (dl (λj=>D j\/j=i) (l b)++σ) a/\Holds w0 K (q (λj=>D j\/j=i) b) w) Q) [o] (dl D (l b)++σ) (q D b))/\gC F P w0 K N dfs Q ops σ l q rest (i+1)
theorem gC.nil {β:Type} {ops:Array Oper} {l:β->List (Nat×Nat×Value)} {q:(Nat->Prop)->β->List bG} {i:Nat}:gC F P w0 K N dfs Q ops σ l q [] i:=trivial
theorem nl {β:Type} {ops:Array Oper} {l:β->List (Nat×Nat×Value)} {q:(Nat->Prop)->β->List bG} {o:Oper} {rest:List Oper} {i:Nat} (h:∀ (D:Nat->Prop) (b:β),¬D i->(∀j∈kf o,D j)->Clo ops D -> TO F P w0 K N dfs ops (Exit.then (λa w=>∃b,At N dfs (dl (λj=>D j\/j=i) (l b)++σ) a/\Holds w0 K (q (λj=>D j\/j=i) b) w) Q) [o] (dl D (l b)++σ) (q D b)) (H:gC F P w0 K N dfs Q ops σ l q rest (i+1)) : gC F P w0 K N dfs Q ops σ l q (o::rest) i:=⟨h,H⟩
theorem gC.get {β:Type} {ops:Array Oper} {q:β->List (Nat×Nat×Value)} {H:(Nat->Prop)->β->List bG}:∀ {l:List Oper} {k:Nat},gC F P w0 K N dfs Q ops σ q H l k->∀i o,l[i]?=some o->∀ (D:Nat->Prop) (b:β),¬D (k+i)->(∀j∈kf o,D j)->Clo ops D ->
   TO F P w0 K N dfs ops (Exit.then (λa w=>∃b,At N dfs (dl (λj=>D j\/j=k+i) (q b)++σ) a/\Holds w0 K (H (λj=>D j\/j=k+i) b) w) Q) [o] (dl D (q b)++σ) (H D b)
 |[],k,_,i,o,h=>by simp at h
 |x::l,k,h,0,o,ho=>by simp at ho;subst ho;exact h.1
 |x::l,k,h,i+1,o,ho=>by
  have:=gC.get h.2 i o (by simpa using ho);rwa [show k+1+i=k+(i+1) by omega] at this
theorem xP {id:Nat} {l:List Oper} (β:Type) (n:Nat) (b0:β) (q:β->List (Nat×Nat×Value)) (W:(Nat->Prop)->β->List bG) (hm:P.follows .mixedOrders=true) (ag:(l.zipIdx.all λ(o,i)=>(kf o).all λj=>decide (j<i))=true) (hT:wy l n=true) (Z:n<=l.length) (hval:∀b,(q b).all (λp=>decide (p.1<n))=true) (h0:W (λ_=>False) b0=L) (M:gC F P w0 K N dfs Q l.toArray σ q W (l.take n) 0) (H:∀ (D:Nat->Prop) b,(∀j,j<n->D j)->TO F P w0 K N dfs l.toArray Q (l.drop n) ((q b).map (λp=>p.2)++σ) (W D b)):TC F P w0 K N dfs Q (.region id l.toArray true) σ L:=by
 refine RS n (λD a w=>∃b,At N dfs (dl D (q b)++σ) a/\Holds w0 K (W D b) w) hm ag hT Z (λa w ha J=>⟨b0,by rw[zZ];exact ha,by rw[h0];exact J⟩) ?_ ?_
 ·rintro i o hi ho D a w hn hd ao ⟨b,ha,J⟩;have:=M.get i o (by rw[qx hi];exact ho) D b (by rwa [bY]) hd ao a w ha J;rwa [bY] at this
 ·rintro D a w hD ⟨b,ha,J⟩;refine H D b hD a w ?_ J;rw[vp (λp hp=>hD _ (by have:=bm.1 (hval b) p hp;simpa using this))] at ha;exact ha
theorem nB {β:Type} {ops:Array Oper} {l:β->List (Nat×Nat×Value)} {H:(Nat->Prop)->β->List bG} {D:Nat->Prop} (b:β) (q:β) (m:Nat) {i t:Nat} {v:Value} {L':List bG} (hu:jn ((l q).map (λp=>p.2.1))=true) (hi:jn ((l q).map (λp=>p.1))=true) (hm:(l q)[m]?=some (i,t,v)) (hc:dl D (l b)=dl D (l q)) (hL:H (λj=>D j\/j=i) q=L') : TO F P w0 K N dfs ops (Exit.then (λa w=>∃b,At N dfs (dl (λj=>D j\/j=i) (l b)++σ) a/\Holds w0 K (H (λj=>D j\/j=i) b) w) Q) [] ((t,v)::(dl D (l b)++σ)) L':=λa w ha J=>⟨q,by rw[hc] at ha;exact KG (xF hu) (xF hi) hm _ _ _ ha,by rw[hL];exact J⟩
end
section
variable {F:Fence} {P:Program} {w0:World} {K:Nat->Prop} {N:Nat} {dfs:List Deferred} {ops:Array Oper} {Q:Exit->Act->World->Prop} {rest:List Oper} {σ:List (Nat×Value)} {L L':List bG}
theorem lQ (h:L=L') (l:TO F P w0 K N dfs ops Q rest σ L'):TO F P w0 K N dfs ops Q rest σ L:=by rw[h];exact l
theorem Gy {w:World}:∀n:Nat,aP (aO n cT) (λ_=>False) w
 |0=>λ_ h=>h
 |n+1=>⟨λ_=>False,λ_=>False,λ_ h=>h,Gy n,λ_ h=>h.elim,λk=>by simp⟩
theorem xQ {c:Code} (n:Nat) (q:TC F P w0 K N dfs Q c σ (L++aO n cT)):TC F P w0 K N dfs Q c σ L:=λa w ha l=>by
 refine q a w ha ?_;obtain⟨C,hL,hx⟩:=l;exact⟨C,wD hL (Gy n) (λ_ _ h=>h) (λk=>by simp),hx⟩
theorem rv {A:bG} (p:Nat) (hA:L.getLast?=some A) (hp:L.dropLast[p]?=some cT) (J:TO F P w0 K N dfs ops Q rest σ (L.dropLast.set p A)):TO F P w0 K N dfs ops Q rest σ L:=λa w ha H=>by
 refine J a w ha ?_;obtain⟨C,hL,hx⟩:=H;refine⟨C,?_,hx⟩;have e:L=L.dropLast++[A]:=by
  rcases List.eq_nil_or_concat L with rfl|⟨M,B,rfl⟩
  ·simp at hA
  ·simp at hA;subst hA;simp
 rw[e] at hL;obtain⟨C1,C2,h1,h2,h3,W⟩:=Du hL;have D:=aP.one1.1 h2;have q:p<L.dropLast.length:=(aq.1 hp).1;have l:L.dropLast.set p cT=L.dropLast:=by
  obtain⟨_,he⟩:=aq.1 hp;rw[<-he];exact sa q
 exact aP.put q D (by rw[l];exact h1) (λk a b=>h3 k b a) (λk=>by rw[W];exact Or.comm)
end
theorem RT (s:V) (a:Nat):(s.extract a s.size).data.toList=s.data.toList.drop a:=by
 rw[extract_data];rw[ff];simp
theorem pg (r:Int):(ae r).data.toList=encodeRune r:=by
 unfold ae encodeRune;rw[validRune_eq];by_cases hv:validRune r=true
 ·have q:(0<=r/\r<55296)\/(57343<r/\r<=1114111):=by simpa [validRune] using hv
  rw[hv];simp only[if_true];obtain⟨n,rfl⟩:∃n:Nat,r=n:=⟨r.toNat,by omega⟩;simp only[cy];by_cases h1:n<128
  ·rw[encodeRuneZ_one z1 z1,aj h1];rfl
  ·by_cases h2:n<2048
   ·rw[encodeRuneZ_two z1 z1,ai h1,aj h2];simp only[au,fm];rw[show ((192:Int)+n / 64).toNat=192+n / 64 from by omega,show ((128:Int)+n % 64).toNat=128+n % 64 from by omega]
   ·by_cases h3:n<65536
    ·rw[encodeRuneZ_three z1,ai h1,ai h2,aj h3];simp only[au,fm];rw[show ((224:Int)+n / 4096).toNat=224+n / 4096 from by omega,show ((128:Int)+n / 64 % 64).toNat=128+n / 64 % 64 from by omega,show ((128:Int)+n % 64).toNat=128+n % 64 from by omega]
    ·rw[encodeRuneZ_four z1 z1,ai h1,ai h2,ai h3];simp only[au,fm];rw[show ((240:Int)+n / 262144).toNat=240+n / 262144 from by omega,show ((128:Int)+n / 4096 % 64).toNat=128+n / 4096 % 64 from by omega,show ((128:Int)+n / 64 % 64).toNat=128+n / 64 % 64 from by omega,show ((128:Int)+n % 64).toNat=128+n % 64 from by omega]
 ·have q:¬((0<=r/\r<55296)\/(57343<r/\r<=1114111)):=by simpa [validRune] using hv
  have l:validRune r=false:=by simpa using hv
  rw[l,encodeRuneZ_bad z1];simp[Utf8.runeError]
theorem Ab (r:Int):(ae r).size=(encodeRune r).length:=by
 rw[<-pg];simp
theorem Ac (r:Int):1<=(encodeRune r).length/\(encodeRune r).length<=4:=by
 have:=encodeRuneZ_length r;simpa [encodeRune] using this
structure Pc where
 i:Nat
 w:Nat
 r:Nat
 deriving DecidableEq
def Pc.broken (p:Pc):Bool:=p.r==65533&&p.w==1
def tI:Nat->Nat->List UInt8->List Pc
 |0,_,_=>[]
 |f+1,i,l=>if l=[] then [] else ⟨i,(decodeL l).2,(decodeL l).1⟩::tI f (i+(decodeL l).2) (l.drop (decodeL l).2)
def oP (i:Nat) (l:List UInt8):List Pc:=tI l.length i l
def fK (l:List UInt8):List Pc:=oP 0 l
theorem uw (l:List UInt8):1<=(decodeL l).2:=decodeL_width l
theorem Ad (l:List UInt8) (h:l≠[]):(decodeL l).2<=l.length:=decodeL_le l h
theorem RU:∀ (f g i:Nat) (l:List UInt8),l.length<=f->l.length<=g->tI f i l=tI g i l:=by
 intro f
 induction f with
 |zero=>
  intro g i l h1 h2;have:l=[]:=cE z1;subst this;cases g<;>simp[tI]
 |succ f H=>
  intro g i l h1 h2;cases g with
  |zero=>
   have:l=[]:=cE z1;subst this;simp[tI]
  |succ g=>
   by_cases q:l=[]
   ·simp[tI,q]
   ·simp only[tI,q,if_false];have:=uw l;have D:0<l.length:=dh.2 q;rw[H g _ _ (by simp;omega) (by simp;omega)]
theorem ux (i:Nat):oP i []=[]:=by simp[oP,tI]
theorem uy (i:Nat) (l:List UInt8) (h:l≠[]) : oP i l=⟨i,(decodeL l).2,(decodeL l).1⟩::oP (i+(decodeL l).2) (l.drop (decodeL l).2):=by
 have q:0<l.length:=dh.2 h;unfold oP;obtain⟨n,D⟩:∃n,l.length=n+1:=⟨l.length-1,by omega⟩;rw[D];simp only[tI,h,if_false];have:=uw l;rw[RU n (l.drop (decodeL l).2).length _ _ (by simp;omega) (aS _)]
theorem K4 (l:List UInt8) (h:l≠[]) (hb:¬((decodeL l).1=65533/\(decodeL l).2=1)):(encodeRune ((decodeL l).1:Nat)).length=(decodeL l).2:=by
 rw[encode_decode l h hb];have:=Ad l h;simp;omega
theorem Gz:encodeRune ((65533:Nat):Int)=[239,191,189]:=by decide
theorem RV (l:List UInt8) (h:l≠[]) (hr:(decodeL l).1=65533) (q:(decodeL l).2≠1):l.take 3=[239,191,189]/\(decodeL l).2=3:=by
 have h1:=encode_decode l h (λh=>q h.2);have h2:=K4 l h (λh=>q h.2);rw[hr,Gz] at h1 h2;simp at h2;rw[<-h2] at h1;exact⟨h1.symm,h2.symm⟩
theorem RW (l:List UInt8) (hr:(decodeL l).1=65533) (q:(decodeL l).2=1):l.take 3≠[239,191,189]:=by
 intro h3;obtain⟨t,rfl⟩:∃t,l=239::191::189::t:=by
  rcases l with _|⟨a,_|⟨b,_|⟨c,t⟩⟩⟩<;>simp at h3
  exact⟨t,by simp[h3]⟩
 rw[decodeL_N] at q;simp[decodeN] at q
theorem K5 (l:List UInt8):(decodeL l).1<55296\/(57343<(decodeL l).1/\(decodeL l).1<=1114111):=by
 rw[decodeL_N];exact decodeN_valid _ _ _ _ _ (UInt8.toNat_lt _)
structure Ae (l:List UInt8) (r wd:Nat):Prop where
 eq:decodeL l=(r,wd)
 pos:1<=wd
 le:wd<=l.length
 valid:r<55296\/(57343<r/\r<=1114111)
 width:¬(r=65533/\wd=1)->(encodeRune ((r:Nat):Int)).length=wd
 bytes:¬(r=65533/\wd=1)->encodeRune ((r:Nat):Int)=l.take wd
 lost_ok:r=65533->wd≠1->l.take 3=[239,191,189]/\wd=3
 lost_bad:r=65533->wd=1->l.take 3≠[239,191,189]
theorem Af (l:List UInt8) (h:l≠[]):Ae l (decodeL l).1 (decodeL l).2 :=
 ⟨rfl,uw l,Ad l h,K5 l,K4 l h,encode_decode l h,RV l h,RW l⟩
theorem RX (P:Program) (wr:World) (l:Nat) (s:V) (pos:Nat) (hit:wr.heap[l]?=some (.stringIter s pos)) (J:pos<s.size) : ∃ (r wd:Nat) (H:World),(∀ty,(Instr.next (.pointer (some ⟨l,0,none⟩)) true ty).run P wr=.ok (.tuple #[.bool true,.int .i64 pos,.int .i32 r]) H) /\ Fr (λk=>k=l) wr H/\H.heap[l]?=some (.stringIter s (pos+wd))/\H.heap.size=wr.heap.size /\ Ae (s.data.toList.drop pos) r wd/\oP pos (s.data.toList.drop pos)=⟨pos,wd,r⟩::oP (pos+wd) (s.data.toList.drop (pos+wd))/\pos+wd<=s.size/\1<=wd:=by
 have D:s.data.toList.drop pos≠[]:=by
  intro e;have:=aI fS e;simp at this;omega
 have hd:=decodeL_drop s pos;have q:=Af _ D;refine⟨(decodeL (s.data.toList.drop pos)).1,(decodeL (s.data.toList.drop pos)).2,wr.iterAt l s (pos+(decodeL (s.data.toList.drop pos)).2),?_,Fr.iterAt (Fr.refl (λk=>k=l) wr) (.inl rfl) s _,iterAt_heap wr l s pos _ hit,iterAt_size ..,q,?_,?_,uw _⟩
 ·intro ty;rw[hd];exact run_next_any_at wr l s pos ty hit J
 ·rw[uy pos _ D,fY]
 ·have:=q.le;simp at this;omega
theorem RY (P:Program) (wr:World) (l:Nat) (s:V) (pos:Nat) (hit:wr.heap[l]?=some (.stringIter s pos)) (q:¬pos<s.size) : (∀ty,(Instr.next (.pointer (some ⟨l,0,none⟩)) true ty).run P wr=.ok (.tuple #[.bool false]) wr)/\oP pos (s.data.toList.drop pos)=[] :=
 ⟨λty=>run_next_end_at wr l s pos ty hit q,by rw[bD (by simp;omega),ux]⟩
def fB (s:V):List Int:=(fK s.data.toList).map λp=>(p.r:Int)
theorem K6 (s:V):∀ (n i:Nat) (acc:Array Value),s.size-i<=n->gN s n i acc=acc++((oP i (s.data.toList.drop i)).map λp=>az .i32 (p.r:Int)).toArray
 |0,i,acc,h=>by
  rw[bD (by simp;omega),ux];simp[gN]
 |n+1,i,acc,h=>by
  unfold gN;by_cases hi:i<s.size
  ·have l:s.data.toList.drop i≠[]:=by
    intro e;have:=aI fS e;simp at this;omega
   have hd:=decodeL_drop s i;have h1:=uw (s.data.toList.drop i);rw[aj hi];simp only;rw[<-hd,K6 s n _ _ z1,uy _ _ l,fY];simp
  ·rw[ai hi,bD (by simp;omega),ux];simp
theorem Ag (s:V):gN s s.size 0 #[]=((fB s).map (az .i32)).toArray:=by
 rw[K6 s s.size 0 #[] z1];simp[fB,fK,Function.comp_def]
section
variable {F:Fence} {P:Program} {w0:World} {K:Nat->Prop} {N:Nat} {dfs:List Deferred} {ops:Array Oper} {Q:Exit->Act->World->Prop} {rest:List Oper} {σ:List (Nat×Value)} {L:List bG}
 {d:Nat} {ty:TypeId} {pos:String} {aft:Array Edge} {g:Option (Nat×Bool)} {x:Operand} {t e:TypeId} {k:Nat} {vv:Value}
theorem RZ {ε:Type} {_w:ε->List Value} (size:Nat){b:Nat}(cap:Nat) {l:Array Value} (ys:List ε) (q:∀x,(_w x).length=size) (ht:l.toList.take (ys.length*size)=ys.flatMap _w) (D:l.size=cap*size) (hc:ys.length<=cap) (hm:cap<=maxLen):rr (obj b (.cells l e (0,0))) (vec _w e size (.slice (some ⟨b,0,none⟩) ys.length cap) ys):=by
 rintro C w ⟨h1,h2⟩;have H:(ys.flatMap _w).length=ys.length*size:=sR q ys;refine⟨⟨H,.inr ⟨b,cap,l,rfl,bT _,h2,hc,hm,D,ht⟩⟩,?_⟩;funext j;simp[cn,h1,eq_comm]
theorem xR (s:V):(fB s).length<=s.size:=by
 have h:=size_runesFrom s s.size 0 #[];rw[Ag] at h;simpa using h
theorem zip [bA F] {src:TypeId} {s:V} (hn:s.size<=1073741824) (hg:gd ops σ g=some true) (hd:d<N) (hx:ev σ x=some (.string s)) (Z:P.underlying src=some .string) (ht:P.underlying t=some (.slice e)) (he:P.underlying e=some (.int .i32)) (h:∀J,TO F P w0 K N dfs ops Q rest ((d,J)::σ) (L++[vec (mK .i32) e 1 J (fB s)])) : TO F P w0 K N dfs ops Q (⟨some d,.convert src t x,ty,pos,aft,g⟩::rest) σ L:=by
 refine pD hg (by simp) λa w ha W=>?_;have hl:=xR s;have hr:=run_runes_of_string (P:=P) w src t e s Z ht he (by rw[Ag];simp;omega);refine⟨_,_,by simp only[execOp,ha.ev hx,al,hr];rfl,h _ _ _ (ha.put hd _) ?_⟩;have hz:(gN s s.size 0 #[]).size=(fB s).length:=by rw[Ag];simp
 rw[hz];have D:=grownCap_ge w (fB s).length 0 e;have q:=grownCap_le_maxLen w (fB s).length 0 e (by simp only[maxLen];omega);generalize grownCap w (fB s).length 0 e=cap at D q;have h2:=W.drew.alloc (.cells (gN s s.size 0 #[]++gi (cap-(fB s).length) (.int .i32 0)) e (0,0));have H:(fB s).flatMap (mK .i32)=(fB s).map (az .i32):=by
  generalize fB s=l
  induction l with
  |nil=>rfl
  |cons x l M=>rw[aK,M];rfl
 have h3:=h2.ent (k:=L.length) (A:=obj w.drew.heap.size (.cells (gN s s.size 0 #[]++gi (cap-(fB s).length) (.int .i32 0)) e (0,0))) (by simp) (RZ 1 cap (fB s) (iq (k:=.i32)) (by
  rw[Ag,H];simp) (by rw[Ag];simp;omega) D q)
 simpa using h3
def kl (l:List Int):V:=runesBytes l
theorem GA [bA F] {src:TypeId} {xs:List Int} (hg:gd ops σ g=some true) (hd:d<N) (hx:ev σ x=some vv) (hk:L[k]?=some (vec (mK .i32) e 1 vv xs)) (D:P.underlying src=some (.slice e)) (he:P.underlying e=some (.int .i32)) (ht:P.underlying t=some .string) (h:TO F P w0 K N dfs ops Q rest ((d,.string (kl xs))::σ) L):TO F P w0 K N dfs ops Q (⟨some d,.convert src t x,ty,pos,aft,g⟩::rest) σ L :=
 kJ hg hd (by simp) (λa w ha H=>by
  obtain⟨C,hV⟩:=H.vec hk;have hc:(convert src t vv).run P w=.ok (.string (kl xs)) w:=by
   rcases hV.shape with⟨rfl,rfl,_⟩|⟨q,cap,rfl,_⟩
   ·rw[run_convert_runes_string w src t e none 0 0 D he ht];simp[Conv.runesToString,kl,runesBytes]
   ·rw[run_convert_runes_string w src t e _ _ _ D he ht];refine run_runesToString w _ _ _ xs ?_;have:=run_loadCells_list (P:=P) (w:=w) ⟨q,0,none⟩ (xs.map (az .i32)) (by
     intro j v hj;rw[cx,da] at hj;obtain⟨n,J,rfl⟩:=hj;have l:(⟨q,0,none⟩:Addr).add j=⟨q,j,none⟩:=by unfold pu;split<;>simp_all
     rw[l];have:=hV.cell (i:=j) (j:=0) (x:=n) (u:=.int .i32 n) (iq (k:=.i32)) rfl J z1 rfl;simpa using this)
    simpa using this
  simp only[execOp,ha.ev hx,al,hc];rfl) h
end
theorem K7 {α:Type} {enc:α->List Value} {size:Nat} (P:Program) (w:World) (t ty e:TypeId) (i:TypeInfo) (z:Value) (bytes:Nat) (ht:P.underlying t=some (.slice e)) (hi:P.info? e=some i) (hz:i.zero=some z) (q:i.size=size) (W:i.bytes=bytes) (ao:z.cells.size=size) (hsz:0<size) (M:∀x,(enc x).length=size) (h1:∀x,∀u∈enc x,u.oneCell'=true) (v:Value) (L:List α) (C:Nat->Prop) (l:ji enc e size v L C w) (ys:List α) (a:Addr) (c:Nat) (D:∀j u,(ys.flatMap enc)[j]?=some u->w.cell? (a.add j)=some u) (hn:L.length+ys.length<=2147483648) (H:bytes<=65536) : ∃J w',(c9 #[t,t] ty #[v,.slice (some a) ys.length c]).run P w=.ok J w'/\∃C',ji enc e size J (L++ys) C' w'/\cY C C' w w':=by
 obtain⟨l,rfl⟩:=l;have hl:(ys.flatMap enc).length=ys.length*size:=sR M ys;have ag:∀u∈ys.flatMap enc,u.oneCell'=true:=by
  intro u hu;obtain⟨x,hx,hu⟩:=jD.1 hu;exact h1 x u hu
 have Z:(L.length+ys.length)*bytes<=140737488355328:=by
  have:(L.length+ys.length)*bytes<=2147483648*65536:=Nat.mul_le_mul z1 H;omega
 obtain⟨J,w',hr,r1,r2,_⟩:=run_append_own (P:=P) w 0 t ty e i z size bytes ht hi hz q W ao hsz v L.length (L.flatMap enc) l a ys.length c (ys.flatMap enc) hl D ag (by simp[maxLen];omega) Z (bT _);have aw:=F8 P w 0 t ty e i z size bytes ht hi hz q W v L.length (L.flatMap enc) l a ys.length c (ys.flatMap enc) hl D ag (by simp[maxLen];omega) Z hr;have hR:Rw enc w' 0 e size J (L++ys):=by
  unfold Rw;rw[aa,fa];exact r1
 exact⟨J,w',hr,_,⟨hR,rfl⟩,C7 r2 aw (λg hg=>(gj hR g hg).2)⟩
theorem R2 (P:Program) (w:World) (t ty e:TypeId) (i:TypeInfo) (ht:P.underlying t=some (.slice e)) (hi:P.info? e=some i) (b:Option Addr) (n cap c:Nat) (h:n<=cap) : (c9 #[t,t] ty #[.slice b n cap,.slice none 0 c]).run P w=.ok (.slice b n cap) w:=by
 cases b<;>simp[c9,run_underlying ht,sizeOf,typeInfo,hi,kc,h,mn,storeCells,al]
section
variable {F:Fence} {P:Program} {w0:World} {K:Nat->Prop} {N:Nat} {dfs:List Deferred} {ops:Array Oper} {Q:Exit->Act->World->Prop} {rest:List Oper} {σ:List (Nat×Value)} {L:List bG}
 {d:Nat} {ty:TypeId} {pos:String} {aft:Array Edge} {g:Option (Nat×Bool)} {s x:Operand} {t e e2:TypeId} {k k2 j size:Nat} {vv v2 v:Value} {α:Type} {enc:α->List Value} {xs ys Ls:List α}
theorem Vw.cells {C:Nat->Prop} {w:World} (l:∀x,(enc x).length=size) (hs:0<size) (h:ji enc e2 size v2 Ls C w) (hV:Vw v2 Ls size j v ys) (M:ys≠[]):∃c,v=.slice (some ⟨eS v2,j*size,none⟩) ys.length c/\∀n u,(ys.flatMap enc)[n]?=some u->w.cell? ((⟨eS v2,j*size,none⟩:Addr).add n)=some u:=by
 have W:=λ(i:Nat) (q:α) (hq:ys[i]?=some q)=>hV.get (i:=(i:Int)) (iu hq);obtain⟨_,_,q',c,H,_,hp⟩:=hV;have hp:=hp M;subst hp;refine⟨c,H,λn u hu=>?_⟩;have D:(⟨eS v2,j*size,none⟩:Addr).add n=⟨eS v2,j*size+n,none⟩:=by unfold pu;split<;>simp_all
 rw[D];have J:n<ys.length*size:=by
  have:=(aq.1 hu).1;rwa [sR l ys] at this
 have hi:n / size<ys.length:=Nat.div_lt_of_lt_mul (by rwa [Nat.mul_comm] at J);have hr:n % size<size:=pz _ hs;have Z:n / size*size+n % size=n:=Nat.div_add_mod' n size;have hy:ys[n / size]?=some ys[n / size]:=aJ hi;have h2:=F7 l ys (n / size) (n % size) _ hy hr;rw[Z,hu] at h2;have h3:=h.cellAt l (W _ _ hy) hr h2.symm;have e1:(j+((n / size:Nat):Int).toNat)*size+n % size=j*size+n:=by
  rw[cy,dC];omega
 rwa [e1] at h3
variable (k k2) in
theorem Dv [bA F] (ht:P.underlying t=some (.slice e)) (hE:eh P e size) (H:∀x,(enc x).length=size) (h1:∀x,∀u∈enc x,u.oneCell'=true) (hV:Vw v2 Ls size j v ys) (hg:gd ops σ g=some true) (hd:d<N) (hs:ev σ s=some vv) (hx:ev σ x=some v) (hk:L[k]?=some (vec enc e size vv xs)) (a0:L[k2]?=some (vec enc e2 size v2 Ls)) (hn:xs.length+ys.length<=2147483648) (h:∀M,TO F P w0 K N dfs ops Q rest ((d,M)::σ) (L.set k (vec enc e size M (xs++ys)))) : TO F P w0 K N dfs ops Q (⟨some d,.call {callee:=.builtin .append,args:=#[s,x],argTypes:=#[t,t] },ty,pos,aft,g⟩::rest) σ L:=by
 obtain⟨i,zv,hi,hz,D,W,hsz,q⟩:=hE;refine pD hg (by simp) λa w ha hw=>?_;obtain⟨C2,a1⟩:=hw.vec a0;obtain⟨C,J,l⟩:=hw.focus hk;by_cases Z:ys=[]
 ·subst Z;obtain⟨_,_,q',c,aw,_,_⟩:=hV;subst aw;rw[aE] at h;rcases q' with _|q'
  ·obtain⟨b,cap,hb⟩:=ji.len J;have ag:xs.length<=cap:=by
    rcases J.shape with⟨h3,h4,_⟩|⟨gb,a2,h3,_,h4,_⟩
    ·rw[h4];exact bT _
    ·rw[hb] at h3;cases h3;exact h4
   have hr:=R2 P w t ty e i ht hi b xs.length cap c ag;refine⟨vv,w,?_,h vv _ _ (ha.put hd _) (l _ C w (cY.refl _ _) J)⟩;subst hb;simp[execOp,resolve,invoke,builtin,ha.ev hs,ha.ev hx,hr,al]
  ·obtain⟨M,w',hr,C',h2,h3⟩:=K7 P w t ty e i zv i.bytes ht hi hz D rfl W hsz H h1 vv xs C J [] q' c (by simp) (by simpa using hn) q;rw[aE] at h2;refine⟨M,w',?_,h M _ _ (ha.put hd _) (l _ C' w' h3 h2)⟩;have ao:(c9 #[t,t] ty #[vv,.slice (some q') 0 c]).run P w=.ok M w':=hr;simp[execOp,resolve,invoke,builtin,ha.ev hs,ha.ev hx,ao,al]
 ·obtain⟨c,rfl,hc⟩:=Vw.cells H hsz a1 hV Z;obtain⟨M,w',hr,C',h2,h3⟩:=K7 P w t ty e i zv i.bytes ht hi hz D rfl W hsz H h1 vv xs C J ys _ c hc hn q;refine⟨M,w',?_,h M _ _ (ha.put hd _) (l _ C' w' h3 h2)⟩;simp[execOp,resolve,invoke,builtin,ha.ev hs,ha.ev hx,hr,al]
end
theorem GB {α:Type} {enc:α->List Value} {size:Nat} (l:∀x,(enc x).length=size):∀ (xs:List α) (i:Nat),(xs.flatMap enc).take (i*size)=(xs.take i).flatMap enc
 |[],i=>by simp
 |y::xs,0=>by simp
 |y::xs,i+1=>by
  rw[aK,show (i+1)*size=(enc y).length+i*size by rw[l,dC,kW,lq],List.take_length_add_append,GB l xs i,List.take_succ_cons,aK]
theorem K8 {α:Type} {enc:α->List Value} {size:Nat} (l:∀x,(enc x).length=size):∀ (xs:List α) (i:Nat),(xs.flatMap enc).drop (i*size)=(xs.drop i).flatMap enc
 |[],i=>by simp
 |y::xs,0=>by simp
 |y::xs,i+1=>by
  rw[aK,show (i+1)*size=(enc y).length+i*size by rw[l,dC,kW,lq],<-fY,jb,K8 l xs i,List.drop_succ_cons]
theorem R3 (P:Program) (w:World) (dT sT ty e:TypeId) (i:TypeInfo) (ht:P.underlying dT=some (.slice e)) (hi:P.info? e=some i) (g o q Z:Nat) (a:Addr) (l H:Nat) (D:Array Value) (t:TypeId) (hg:w.heap[g]?=some (.cells D t (0,0))) (cs:List Value) (hl:cs.length=wn l q*i.size) (M:∀j v,cs[j]?=some v->w.cell? (a.add j)=some v) (W:o+cs.length<=D.size) (h1:∀v∈cs,v.oneCell'=true) : (mb #[dT,sT] ty #[.slice (some ⟨g,o,none⟩) q Z,.slice (some a) l H]).run P w=.ok (goInt (wn l q)) (w.setRow g (D.toList.take o++cs++D.toList.drop (o+cs.length)).toArray):=by
 have hf:=run_firstCells_some (P:=P) w i.size (wn l q) a l H cs hl M;have J:=run_storeCells_at P g o t cs 0 D w hg (by simpa using W) h1;simp only[Nat.add_zero] at J;unfold mb;simp only[List.getElem?_toArray,al,fp,run_underlying ht];simp[run_underlying ht,kc,sizeOf,typeInfo,hi,hf,J,al]
theorem cY.setRow {w:World} {g:Nat} (cs:Array Value):cY (λk=>k=g) (λk=>k=g) w (w.setRow g cs) :=
 ⟨⟨by simp,by simp[World.setRow],by simp[World.setRow],by simp,λk hk l=>setRow_other w g k cs l⟩,λk hk=>.inl hk⟩
theorem ji.over {α:Type} {enc:α->List Value} {size g cap:Nat} {e:TypeId} {w:World} {xs ys:List α} {C:Nat->Prop} (q:∀x,(enc x).length=size) (h:ji enc e size (.slice (some ⟨g,0,none⟩) xs.length cap) xs C w) (j:Nat) (hj:j+ys.length<=xs.length) : ∃l:Array Value,w.heap[g]?=some (.cells l e (0,0))/\j*size+(ys.flatMap enc).length<=l.size/\C=(λk=>k=g) /\ ji enc e size (.slice (some ⟨g,0,none⟩) xs.length cap) (xs.take j++ys++xs.drop (j+ys.length)) C (w.setRow g (l.toList.take (j*size)++ys.flatMap enc++l.toList.drop (j*size+(ys.flatMap enc).length)).toArray):=by
 obtain⟨⟨h1,h2⟩,rfl⟩:=h;rcases h2 with⟨h2,_⟩|⟨g',ag,l,he,_,h5,Z,h7,M,h9⟩
 ·cases h2
 ·cases he;have hy:(ys.flatMap enc).length=ys.length*size:=sR q ys;have hm:(j+ys.length)*size<=xs.length*size:=jt _ hj;have hm2:xs.length*size<=cap*size:=jt _ Z;have J:(j+ys.length)*size=j*size+ys.length*size:=dC _ _ _;have D:j*size+(ys.flatMap enc).length<=l.size:=by rw[hy,M];omega
  refine⟨l,h5,D,by funext k;simp[cn,eq_comm],?_⟩;have H:(xs.take j++ys++xs.drop (j+ys.length)).length=xs.length:=by simp;omega
  refine⟨?_,by funext k;simp[cn]⟩;unfold Rw;rw[H];refine⟨by rw[sR q,H],.inr ⟨g,cap,_,rfl,bT _,setRow_heap w g l _ e (0,0) h5,Z,h7,?_,?_⟩⟩
  ·rw[List.size_toArray,aa,aa,aZ,aR,hy,eC,M];rw[hy,M] at D;omega
  ·have e1:l.toList.take (xs.length*size)=xs.flatMap enc:=h9;have W:(xs.flatMap enc).length=xs.length*size:=sR q xs;have hc:l.toList=xs.flatMap enc++l.toList.drop (xs.length*size):=by rw[<-e1,bo]
   have t1:l.toList.take (j*size)=(xs.take j).flatMap enc:=by
    rw[hc,List.take_append_of_le_length (by rw[W];omega),GB q]
   have t2:l.toList.drop (j*size+(ys.flatMap enc).length)=(xs.drop (j+ys.length)).flatMap enc++l.toList.drop (xs.length*size):=by
    conv=>lhs;rw[hc]
    rw[hy,<-J,List.drop_append_of_le_length (by rw[W];exact hm),K8 q]
   rw[t1,t2,fa,fa,<-av];rw[show (rl enc (List.take j xs)++rl enc ys++rl enc (List.drop (j+ys.length) xs)++List.drop (xs.length*size) l.toList).toArray.toList=_ from rfl];rw[List.take_left'];have:=sR q (xs.take j++ys++xs.drop (j+ys.length));rw[H,fa,fa] at this;exact this
def vy {α:Type} (xs:List α) (j:Nat) (ys:List α):List α:=xs.take j++ys++xs.drop (j+ys.length)
theorem R4 {α:Type} (xs:List α) (j:Nat):vy xs j []=xs:=by simp[vy]
theorem R5 (P:Program) (w:World) (l D ty e:TypeId) (i:TypeInfo) (ht:P.underlying l=some (.slice e)) (hi:P.info? e=some i) (b s:Option Addr) (dl dc sl q:Nat) (h0:wn sl dl=0) : (mb #[l,D] ty #[.slice b dl dc,.slice s sl q]).run P w=.ok (goInt 0) w:=by
 cases b<;>cases s<;>simp[mb,run_underlying ht,sizeOf,typeInfo,hi,kc,h0,mn,storeCells,loadCells,loadCellsFrom,al]
section
variable {F:Fence} {P:Program} {w0:World} {K:Nat->Prop} {N:Nat} {dfs:List Deferred} {ops:Array Oper} {Q:Exit->Act->World->Prop} {rest:List Oper} {σ:List (Nat×Value)} {L:List bG}
 {d:Nat} {ty:TypeId} {pos:String} {aft:Array Edge} {g:Option (Nat×Bool)} {s x:Operand} {t t2 e e2:TypeId} {k k2 j j2 size:Nat} {vv v2 v u:Value} {α:Type} {enc:α->List Value} {xs ds ys Ls:List α}
theorem R6 [bA F] (ht:P.underlying t=some (.slice e)) (hE:eh P e size) (l:∀x,(enc x).length=size) (h1:∀x,∀u∈enc x,u.oneCell'=true) (hV:Vw vv xs size j v ds) (hS:Vw v2 Ls size j2 u ys) (hg:gd ops σ g=some true) (hd:d<N) (hs:ev σ s=some v) (hx:ev σ x=some u) (hk:L[k]?=some (vec enc e size vv xs)) (a3:L[k2]?=some (vec enc e2 size v2 Ls)) (h:TO F P w0 K N dfs ops Q rest ((d,.int .i64 ((min ys.length ds.length:Nat):Int))::σ) (L.set k (vec enc e size vv (vy xs j (ys.take ds.length))))) : TO F P w0 K N dfs ops Q (⟨some d,.call {callee:=.builtin .copy,args:=#[s,x],argTypes:=#[t,t2] },ty,pos,aft,g⟩::rest) σ L:=by
 obtain⟨i,zv,hi,hz,J,a6,hsz,aw⟩:=hE;refine pD hg (by simp) λa w ha hw=>?_;obtain⟨C2,a4⟩:=hw.vec a3;obtain⟨C,W,D⟩:=hw.focus hk;by_cases h0:min ys.length ds.length=0
 ·have hy:ys.take ds.length=[]:=by
   rcases Nat.min_eq_zero_iff.1 h0 with h|h
   ·rw[List.length_eq_zero_iff.1 h];simp
   ·rw[h];simp
  obtain⟨_,_,q,c,hq,_,_⟩:=hV;obtain⟨_,_,q2,c2,a2,_,_⟩:=hS;subst hq;subst a2;have hr:=R5 P w t t2 ty e i ht hi q q2 ds.length c ys.length c2 h0;rw[hy,R4,h0] at h;refine⟨.int .i64 0,w,?_,h _ _ (ha.put hd _) (D _ C w (cY.refl _ _) W)⟩;simp[execOp,resolve,invoke,builtin,ha.ev hs,ha.ev hx,hr,al,goInt]
 ·have hds:ds≠[]:=by intro h;simp[h] at h0
  have a0:ys≠[]:=by intro h;simp[h] at h0
  obtain⟨c2,rfl,hc⟩:=Vw.cells l hsz a4 hS a0;obtain⟨hj,a7,q,c,rfl,_,hp⟩:=hV;have hp:=hp hds;subst hp;have a1:xs≠[]:=by
   intro h;subst h;have:0<ds.length:=dh.2 hds;rw[List.length_nil] at hj;omega
  obtain⟨cap,H⟩:=W.ptr a1;generalize eS vv=b at H;subst H;have Z:(ys.take ds.length).length=min ys.length ds.length:=by rw[aZ,Nat.min_comm]
  obtain⟨a5,ao,ag,hC,M⟩:=W.over l (ys:=ys.take ds.length) j (by rw[Z];omega);have hr:=R3 P w t t2 ty e i ht hi b (j*size) ds.length c ⟨eS v2,j2*size,none⟩ ys.length c2 a5 e ao ((ys.take ds.length).flatMap enc) (by rw[sR l,Z,J])
   (λn u hu=>hc n u (by
    rw[<-GB l,iQ] at hu;split at hu
    ·exact hu
    ·cases hu)) ag (λu hu=>by
    obtain⟨y,_,hy⟩:=jD.1 hu;exact h1 y u hy)
  subst hC;refine⟨_,_,by simp only[execOp,resolve,invoke,builtin,fL,au,fm,ha.ev hs,ha.ev hx,al,jS,mq,eS];simp only[eS] at hr;rw[hr];rfl,h _ _ (ha.put hd _) (D _ _ _ (cY.setRow _) M)⟩
end
theorem K9 {α:Type} (ys:List α) (i:Nat) (q:α):ys.set i q=ys.zipIdx.map (λp=>if i=p.2 then q else p.1):=by
 apply nI;intro n;rw[u6,cx,lZ];by_cases h:i=n
 ·subst h;by_cases l:i<ys.length
  ·simp[l]
  ·simp[l,ja (Nat.le_of_not_lt l)]
 ·cases ys[n]?<;>simp[h]
def wE {α:Type} (x:α) (o:Option (List α)):Option (List α):=o.map (x :: ·)
theorem xS {α:Type} {x:α} {o:Option (List α)} {r:List α} (h:wE x o=some r):∃l,r=x::l/\o=some l:=by
 obtain⟨l,h1,h2⟩:=da.1 h;exact⟨l,h2.symm,h1⟩
theorem GC {l:List Int} (h:∀x∈l,U8 x):l.map (λx=>az .u8 x)=strCells (kK l):=by
 have e:=KV h
 conv=>lhs;rw[<-e]
 simp[uv,strCells]
section
variable {F:Fence} {P:Program} {w0:World} {K:Nat->Prop} {N:Nat} {dfs:List Deferred} {ops:Array Oper} {Q:Exit->Act->World->Prop} {rest:List Oper} {c:Code} {ex:Exit} {σ:List (Nat×Value)} {L L' As R:List bG} {A B:bG} {k:Nat} {β:Type}
variable (L') in
theorem kL (q:aH L L' R) (h:TO F P w0 K N dfs ops Q rest σ L'):TO F P w0 K N dfs ops Q rest σ L:=λa w ha l=>h a w ha (l.weaken q)
theorem La (hk:L[k]?=some A) (he:rr A B) (h:TX w0 K N dfs Q ex σ (L.set k B)):TX w0 K N dfs Q ex σ L:=λa w ha l=>h a w ha (l.ent hk he)
def TR (F:Fence) (P:Program) (w0:World) (K:Nat->Prop) (N:Nat) (dfs:List Deferred) (Q:Exit->Act->World->Prop) (c:Code) (m:Nat) (σ:List (Nat×Value)) (L:List bG):Prop :=
 ∀a w,At N dfs σ a->Holds w0 K L w->qz F 0 P c Q m a w
theorem Lb (m:Nat) (h:TR F P w0 K N dfs Q c m σ L):TC F P w0 K N dfs Q (.loop c) σ L:=λa w ha l=>wpIn_loop_rounds m (h a w ha l)
theorem wF {m:Nat} (h:TC F P w0 K N dfs (Exit.then (qz F 0 P c Q m) Q) c σ L):TR F P w0 K N dfs Q c (m+1) σ L:=λa w ha l=>h a w ha l
theorem Ah {m:Nat} (h:TR F P w0 K N dfs Q c m σ L):TX w0 K N dfs (Exit.then (qz F 0 P c Q m) Q) .normal σ L:=λa w ha l=>h a w ha l
theorem Holds.fold1 {w:World} (h:Holds w0 K L w) (hk:L[k]?=some A) (H:aH (L.set k cT) As R) (q:R[k]?=some cT) (M:∀C w,aP (A::As) C w->B.P C w):Holds w0 K (R.set k B) w:=by
 obtain⟨C,hL,hx⟩:=h;obtain⟨C1,C2,h1,h2,h3,W⟩:=aP.take hk hL;obtain⟨D,D2,g1,g2,Z,g4⟩:=H C2 w h2;have l:R.set k cT=R:=by
  obtain⟨J,he⟩:=aq.1 q;rw[<-he];exact sa J
 refine⟨C,aP.put (C1:=λi=>C1 i\/D i) (C2:=D2) (aq.1 q).1 (M _ _ ⟨C1,D,h1,g1,λi a b=>h3 i a ((g4 i).2 (.inl b)),λi=>Iff.rfl⟩) (by rw[l];exact g2) (λi a b=>?_) (λi=>?_),hx⟩
 ·rcases a with a|a
  ·exact h3 i a ((g4 i).2 (.inr b))
  ·exact Z i a b
 ·rw[W,g4,or_assoc]
theorem Holds.unfold1 {w:World} {l:β->Prop} {D:β->bG} {Bs:β->List bG} (h:Holds w0 K L w) (hk:L[k]?=some A) (J:∀C w,A.P C w->∃b,l b/\aP (D b::Bs b) C w):∃b,l b/\Holds w0 K (L.set k (D b)++Bs b) w:=by
 obtain⟨C,hL,hx⟩:=h;obtain⟨C1,C2,h1,h2,h3,M⟩:=aP.take hk hL;obtain⟨b,H,q,Z,g1,g2,W,g4⟩:=J _ _ h1;refine⟨b,H,C,wD (C1:=λi=>q i\/C2 i) (C2:=Z) (aP.put (C1:=q) (C2:=C2) (aq.1 hk).1 g1 h2 (λi a b=>h3 i ((g4 i).2 (.inl a)) b) (λi=>Iff.rfl)) g2 (λi a b=>?_) (λi=>?_),hx⟩
 ·rcases a with a|a
  ·exact W i a b
  ·exact h3 i ((g4 i).2 (.inr b)) a
 ·rw[M,g4];constructor
  ·rintro ((a | a) | a)
   ·exact .inl (.inl a)
   ·exact .inr a
   ·exact .inl (.inr a)
  ·rintro ((a | a) | a)
   ·exact .inl (.inl a)
   ·exact .inr a
   ·exact .inl (.inr a)
variable (k) in
theorem Ai (hk:L[k]?=some A) (q:aH (L.set k cT) As R) (D:R[k]?=some cT) (H:∀C w,aP (A::As) C w->B.P C w) (h:TO F P w0 K N dfs ops Q rest σ (R.set k B)):TO F P w0 K N dfs ops Q rest σ L:=λa w ha l=>h a w ha (l.fold1 hk q D H)
theorem R7 (hk:L[k]?=some A) (q:aH (L.set k cT) As R) (D:R[k]?=some cT) (H:∀C w,aP (A::As) C w->B.P C w) (h:TC F P w0 K N dfs Q c σ (R.set k B)):TC F P w0 K N dfs Q c σ L:=λa w ha l=>h a w ha (l.fold1 hk q D H)
variable (k) in
theorem vz (hk:L[k]?=some A) (q:aH (L.set k cT) As R) (D:R[k]?=some cT) (H:∀C w,aP (A::As) C w->B.P C w) (h:TX w0 K N dfs Q ex σ (R.set k B)):TX w0 K N dfs Q ex σ L:=λa w ha l=>h a w ha (l.fold1 hk q D H)
variable (k) in
theorem sV {l:β->Prop} {q:β->bG} {Bs:β->List bG} (hk:L[k]?=some A) (J:∀C w,A.P C w->∃b,l b/\aP (q b::Bs b) C w) (h:∀b,l b->TO F P w0 K N dfs ops Q rest σ (L.set k (q b)++Bs b)):TO F P w0 K N dfs ops Q rest σ L:=λa w ha D=>by
 obtain⟨b,H,hb⟩:=D.unfold1 hk J;exact h b H a w ha hb
end
section
variable {F:Fence} {P:Program} {w0:World} {K:Nat->Prop} {N:Nat} {dfs:List Deferred} {ops:Array Oper} {Q:Exit->Act->World->Prop} {rest:List Oper} {c:Code} {ex:Exit} {σ:List (Nat×Value)} {L As R:List bG} {k:Nat}
 {α η:Type} {enc:α×η->List Value} {nest:α×η->List bG} {e:TypeId} {size:Nat} {v:Value} {xs:List α} {zs zs':List (α×η)} {z z':α×η} {i:Nat} {x x':α} {h h':η}
def own (nest:α×η->List bG) (zs:List (α×η)):bG:=iR (zs.flatMap nest)
theorem xT (C:Nat->Prop) (w:World) (h:(oO enc nest e size v xs).P C w):∃zs:List (α×η),zs.map bE=xs/\aP (vec enc e size v zs::[own nest zs]) C w:=by
 obtain⟨⟨zs,hz⟩,h⟩:=h;exact⟨zs,hz,h⟩
variable (enc nest) in
theorem Aj (hz:zs.map bE=xs) (C:Nat->Prop) (w:World) (h:aP (vec enc e size v zs::[own nest zs]) C w):(oO enc nest e size v xs).P C w:=⟨⟨zs,hz⟩,h⟩
theorem Ak (hz:zs[i]?=some z) (C:Nat->Prop) (w:World) (h:(own nest zs).P C w):∃_u:Unit,True/\aP (own nest (zs.eraseIdx i)::nest z) C w:=by
 obtain⟨C1,C2,h1,h2,h3,l⟩:=(K0 hz).1 h;exact⟨(),trivial,C2,C1,h2,h1,λk a b=>h3 k b a,λk=>by rw[l];exact Or.comm⟩
variable (nest) in
theorem wG (hz:zs'[i]?=some z) (he:zs'.eraseIdx i=zs.eraseIdx i) (C:Nat->Prop) (w:World) (h:aP (own nest (zs.eraseIdx i)::nest z) C w):(own nest zs').P C w:=by
 obtain⟨C1,C2,h1,h2,h3,l⟩:=h;exact (K0 hz).2 ⟨C2,C1,h2,by rw[he];exact h1,λk a b=>h3 k b a,λk=>by rw[l];exact Or.comm⟩
variable (nest zs z) in
theorem Lc (C:Nat->Prop) (w:World) (h:aP (own nest zs::nest z) C w):(own nest (zs++[z])).P C w:=by
 obtain⟨C1,C2,h1,h2,h3,l⟩:=h;show aP ((zs++[z]).flatMap nest) C w;rw[fa,aK,List.flatMap_nil,aE];exact wD h1 h2 h3 l
theorem Al {i:Int} (hz:zs.map bE=xs) (l:cj xs i=some x):∃h,cj zs i=some (x,h):=by
 subst hz;unfold cj at l |-
 split at l
 ·rename_i h0;rw[aj h0];rw[cx] at l;obtain⟨z,h1,h2⟩:=da.1 l;exact⟨z.2,by rw[h1,<-h2]⟩
 ·cases l
theorem GD (hz:zs.map bE=xs):zs.length=xs.length:=by rw[<-hz,ax]
theorem R8 (hz:zs.map bE=xs):(zs.set i (x',h)).map bE=xs.set i x':=by rw[List.map_set,hz]
theorem Ld (hz:zs.map bE=xs):(zs++[(x,h)]).map bE=xs++[x]:=by rw[List.map_append,hz];rfl
theorem R9 (hz:zs[i]?=some z):(zs.set i z')[i]?=some z':=by
 have:=(aq.1 hz).1;simp[this]
theorem Sa:(zs.set i z').eraseIdx i=zs.eraseIdx i:=List.eraseIdx_set_eq
variable {d:Nat} {ty:TypeId} {pos:String} {aft:Array Edge} {g:Option (Nat×Bool)} {o:Operand}
theorem GE [bA F] {l te:TypeId} {Ls:List (α×η)} {vv:Value} {j:Nat} (hz:zs.map bE=xs) (hV:Vw vv Ls size j v zs) (hg:gd ops σ g=some true) (hd:d<N) (hx:ev σ o=some v) (ht:P.underlying l=some (.slice te)) (h:TO F P w0 K N dfs ops Q rest ((d,.int .i64 (xs.length:Int))::σ) L):TO F P w0 K N dfs ops Q (⟨some d,.call {callee:=.builtin .len,args:=#[o],argTypes:=#[l] },ty,pos,aft,g⟩::rest) σ L :=
 jl hV hg hd hx ht (by rw[GD hz];exact h)
theorem Dw (h:TC F P w0 K N dfs Q c σ (L++[byt e (.slice none 0 0) ⟨#[]⟩])):TC F P w0 K N dfs Q c σ L:=λa w ha l=>
 h a w ha (l.grow (C':=λ_=>False) (cY.refl _ _) (aP.one (A:=byt e (.slice none 0 0) ⟨#[]⟩) mv.nil))
theorem Sb (q:TC F P w0 K N dfs Q c σ (L++[oO enc nest e size (.slice none 0 0) ([]:List α)])):TC F P w0 K N dfs Q c σ L:=λa w ha l=>
 q a w ha (l.grow (C':=λ_=>False) (cY.refl _ _) (by obtain⟨_,_,h⟩:=RK (enc:=enc) (nest:=nest) (e:=e) (size:=size) (λ_=>False) w (λ_ h=>h);exact h))
theorem Le (h:TO F P w0 K N dfs ops Q rest σ (L++[cT])):TO F P w0 K N dfs ops Q rest σ L:=λa w ha l=>by
 refine h a w ha ?_;obtain⟨C,hL,hx⟩:=l;exact⟨C,wD hL (Gy 1) (λ_ _ h=>h) (λk=>by simp),hx⟩
theorem Lg {ε:Type} {_w:ε->List Value} {q1 q2:ε} (he:_w q1=_w q2):∀ (ys:List ε) (i:Nat),(ys.set i q1).flatMap _w=(ys.set i q2).flatMap _w
 |[],i=>rfl
 |y::ys,0=>by simp[he]
 |y::ys,i+1=>by simp[Lg he ys i]
theorem Lh {ε:Type} {_w:ε->List Value} {ys zs:List ε} (q1 q2:ε) (hz:zs=ys.set i q1) (l:∀x,(_w x).length=size) (he:_w q1=_w q2):rr (vec _w e size v zs) (vec _w e size v (ys.set i q2)):=by
 subst hz;rintro C w ⟨h1,h3⟩;refine⟨?_,h3⟩;have hf:=Lg he ys i;have q:(ys.set i q1).length=(ys.set i q2).length:=by simp
 unfold Rw at h1 |-
 rw[<-hf,<-q];exact h1
theorem Sc {b:Nat} {ε:Type} {_w:ε->List Value} {y:ε} (l:∀x,(_w x).length=size):rr (vec _w e size (.slice (some ⟨b,0,none⟩) 1 1) [y]) (cells b (_w y) e):=by
 intro C w h;obtain⟨_,_,h'⟩:=RM b _w y (e:=e) (size:=size) l C w (aP.one1.2 h);exact aP.one1.1 h'
end
end Go.Proofs.YtncjnoakkghmmaaGreatDoor
