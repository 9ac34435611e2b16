/-
  Texts laid together: Fr, Iter, Iter2, Row, Sep, Sl, Rl, Tl, Ul, Dl, Vl, Gl, Wl, Yl, Ll, Ml, Nl, Mm, Dg, Utf, Rn, Ap, Cp, Zn. Nothing is assumed.
-/
import Derived.RangeFuncNested
import Derived.RangeFuncBound
import Derived.RangeFuncCalls
import Derived.RangeFuncLeaves
import Derived.Shelf.Abstract
import Derived.Shelf.RegionOpen
import Derived.WalkKit
import Derived.WalkSpells
import Derived.WalkLawsBesides
import Derived.OwnWalkIn
import Derived.TacticsInMore
import Derived.LoopNIn
import Derived.LoopIn
import Derived.Lib.OthersKept
import Derived.Lib.MapLaws
import Derived.Lib.ValidLaws
import Derived.Lib.TrimUEq
import Derived.Lib.RuneCountTail
import Derived.Lib.Hide
import Derived.Lib.Bytealg
import Derived.Deep.Light
import Derived.Deep.QuietTactic
import Derived.BigQuiet
import Derived.Deep.LoopGhost
import Derived.Lib.QuoteLoop
import Derived.Lib.AppendStr
import Derived.Laws.IdiomStrings
import Derived.Lib.BufferRead
import Derived.OrdersIn
import Derived.Deep.MidRow
import Derived.IntWalk
import Derived.Laws.MakeOwn
import Derived.Laws.StructEq
import Derived.Laws.Cover4
import Derived.Laws.CopyRow
import Derived.Laws.Tables
import Derived.Test.YtifpjbgnikjglaaGreatDoorProg
set_option maxRecDepth 100000
set_option maxHeartbeats 4000000
namespace Go.Proofs.YtifpjbgnikjglaaGreatDoor
open Go.RowKit Go.Lib
open Tryz
set_option linter.unusedVariables false
set_option linter.unusedSimpArgs false
open _root_.Array renaming getElem?_eq_some_iff→c9,replicate→fj,eq_empty_of_size_eq_zero→my,length_toList→cU,getD→fe,getElem?_eq_getElem→ep,getD_eq_getD_getElem?→nw,toList_inj→fA
open _root_.BitVec renaming ofInt→fR
open _root_.Bool renaming or_eq_false_iff→bL,and_eq_true→aQ,not_eq_true'→cK
open _root_.ByteArray renaming size_append→aE
open _root_.Go.Addr renaming add→qa,add_mid→iN
open _root_.Go.Builtin renaming append_→cR,lenOf→iZ,firstCells→kQ,len_→jw,copy_→kK
open _root_.Go.ByteArray renaming toList_eq→mM
open _root_.Go.CallsIn renaming mono→ls
open _root_.Go.Code renaming roundsIn→oW
open _root_.Go.Conv renaming runesFrom→fF
open _root_.Go.Deferred renaming ofValue→lG
open _root_.Go.Exit renaming inBlock→jU
open _root_.Go.Fence renaming wide→bF
open _root_.Go.Instr renaming sureAddr→er,index→jd,sliceAt→gH,loadAt→kw,sliceBounds→jB,sliceBound→jv
open _root_.Go.Op renaming unary→sn,intArith→nR,intCmp→lz,stringOp→sq,equalIn→fm,eqFields→kY
open _root_.Go.Oper renaming wpIn→pn,uponIn→gG,semAt_plain→ig
open _root_.Go.Region renaming wanted→kR
open _root_.Go.Result renaming andThen_ok→cj,andThen→jn
open _root_.Go.RoundIn renaming mono→lu
open _root_.Go.RowKit.Below renaming heap_alloc→fW
open _root_.Go.RowsIn renaming mono→mz
open _root_.Go.Sem renaming run_bind→ap,run_pure→iR
open _root_.Go.StepsIn renaming trans→nS
open _root_.Go.Utf8 renaming encode→ae
open _root_.Go.Value renaming ownBlock→bT,cells→qd,oneCell'→nQ,int→aB
open _root_.Go.World renaming setCell→l9,putObj_heap_other→dG,putObj_heap_same→hU,alloc_heap_new→eV,frozen?→mb,ownsRow_nil→sj
open _root_.Go.World.ownsRow renaming lt→fl,cells→rm
open _root_.Int renaming toNat_natCast→bz
open _root_.List renaming nodup_cons→iY,flatMap_cons→aG,getElem?_append_left→eK,getElem?_append_right→fX,eq_nil_of_length_eq_zero→ck,getElem?_eq_some_iff→au,mem_flatMap→iI,length_append→aa,flatMap_append→dX,getElem?_map→bU,getElem?_eq_getElem→aJ,map_toArray→eS,map_cons→av,map_nil→ed,all_eq_true→bd,mem_map→aU,mem_filter→cq,append_nil→aH,contains_cons→gC,getElem?_set_ne→qF,lookup→dM,getElem?_take→iV,getElem?_drop→gD,ext_getElem?→mc,getElem?_set→tk,mem_of_getElem?→aP,mem_cons→bo,mem_cons_of_mem→ak,mem_cons_self→ar,mem_append→bY,cons_append→aX,mem_iff_getElem?→ia,getElem?_inj→tn,append_assoc→aA,getD_eq_getElem?_getD→cC,getElem?_eq_none→ib,getElem?_zipIdx→kI,drop_eq_getElem_cons→aR,drop_zero→el,drop_eq_nil_of_le→bJ,getElem?_take_of_lt→oU,take_append_drop→bZ,length_take→bD,length_drop→aS,drop_drop→ff,length_pos_iff→cV,not_mem_nil→dm,replicate→bE,replicate_succ→rn,length_map→az,take_of_length_le→ee,drop_left→ic,set_getElem_self→qe,length→gq,flatMap→pA
open _root_.Nat renaming le_refl→bq,le_trans→p5,lt_of_lt_of_le→eG,add_mul→c8,zero_mul→oz,zero_add→cf,mul_le_mul_right→iz,zero_le→bG,one_mul→jO,add_comm→ke,mod_lt→nV,min→uo
open _root_.Option renaming map_eq_some_iff→cS
open _root_.Option.some renaming injEq→fQ,inj→mL
open _root_.Prod renaming fst→bw
open _root_.UInt8 renaming ofNat→bB
theorem aj.{u} {c:Prop} {_:Decidable c} (h:¬c) {α:Sort u} {t e:α}:(ite c t e)=e:=if_neg h
theorem al {p:Prop} [Decidable p] (h:¬p):decide p=false:=decide_eq_false h
theorem am.{u} {c:Prop} {_:Decidable c} (h:c) {α:Sort u} {t e:α}:(ite c t e)=t:=if_pos h
theorem ax {p:Prop} [Decidable p] (h:p):decide p=true:=decide_eq_true h
theorem aC.{u} {α:Type u} [BEq α] [LawfulBEq α] {a b:α}:(a==b)=false↔a≠b:=beq_eq_false_iff_ne
theorem aM.{u,v} {α:Sort u} {β:Sort v} {a b:α} (f:α→β) (h:a=b):f a=f b:=congrArg f h
theorem cQ.{u} {α:Type u} [BEq α] [LawfulBEq α] {a b:α}:a != b↔a≠b:=bne_iff_ne
abbrev ad:=ByteArray
theorem dc {p:Prop} [Decidable p] (h:decide p=true:=by rfl):p:=of_decide_eq_true h
theorem kr {α:Sort _} {a b:α} (h:a=b:=by as_aux_lemma=>kernel_rfl):a=b:=h
structure Fr (C:Nat→Prop) (w w':World):Prop where
 os:w'.os=w.os
 tape:w'.tape=w.tape
 output:w'.output=w.output
 size:w.heap.size≤w'.heap.size
 keep:∀k,k<w.heap.size→¬C k→w'.heap[k]?=w.heap[k]?
theorem Fr.refl (C:Nat→Prop) (w:World):Fr C w w:=⟨rfl,rfl,rfl,bq _,fun _ _ _=>rfl⟩
theorem Fr.trans' {C C':Nat→Prop} {a b c:World} (h:Fr C a b) (k:Fr C' b c) (hc:∀i,i<a.heap.size→C' i→C i):Fr C a c :=
 ⟨k.os.trans h.os,k.tape.trans h.tape,k.output.trans h.output,p5 h.size k.size,
  fun i hi l=>(k.keep i (eG hi h.size) (fun h'=>l (hc i hi h'))).trans (h.keep i hi l)⟩
theorem Fr.trans {C:Nat→Prop} {a b c:World} (h:Fr C a b) (k:Fr C b c):Fr C a c:=h.trans' k (fun _ _ h=>h)
theorem Fr.weaken {C C':Nat→Prop} {a b:World} (h:Fr C a b) (hc:∀i,i<a.heap.size→C i→C' i):Fr C' a b :=
 ⟨h.os,h.tape,h.output,h.size,fun i hi l=>h.keep i hi (fun h'=>l (hc i hi h'))⟩
theorem Fr.alloc {C:Nat→Prop} {a w:World} (h:Fr C a w) (o:Obj):Fr C a (w.alloc o) :=
 ⟨h.os,h.tape,h.output,by have:=h.size;simp;omega,fun i hi l=>(fW w o i (eG hi h.size)).trans (h.keep i hi l)⟩
theorem Fr.drew {C:Nat→Prop} {a w:World} (h:Fr C a w):Fr C a w.drew:=⟨h.os,h.tape,h.output,h.size,h.keep⟩
theorem Fr.setCell {C:Nat→Prop} {a w:World} (h:Fr C a w) {p:Addr} (hp:C p.block∨a.heap.size≤p.block) (u:Value):Fr C a (w.setCell p u) :=
 ⟨h.os,h.tape,h.output,by simpa [l9] using h.size,fun i hi l=>
  (Below.heap_setCell w p u i (by rintro rfl;rcases hp with hp | hp;exact l hp;omega)).trans (h.keep i hi l)⟩
theorem Fr.putObj {C:Nat→Prop} {a w:World} (h:Fr C a w) {r:Nat} (hp:C r∨a.heap.size≤r) (o:Obj):Fr C a (w.putObj r o) :=
 ⟨h.os,h.tape,h.output,by simpa using h.size,fun i hi l=>
  (dG (by rintro rfl;rcases hp with hp | hp;exact l hp;omega)).trans (h.keep i hi l)⟩
theorem Fr.iterAt {C:Nat→Prop} {a w:World} (h:Fr C a w) {k:Nat} (hp:C k∨a.heap.size≤k) (s:ad) (pos:Nat):Fr C a (w.iterAt k s pos) :=
 ⟨h.os,h.tape,h.output,by rw[iterAt_size];exact h.size,fun i hi l=>
  (iterAt_other w k i s pos (by rintro rfl;rcases hp with hp | hp;exact l hp;omega)).trans (h.keep i hi l)⟩
theorem Fr.grown {C:Nat→Prop} {a w w':World} {row:Option Nat} (h:Fr C a w) (hg:w.grownBy w' row) (hr:∀r,row=some r→C r∨a.heap.size≤r):Fr C a w' :=
 ⟨hg.os.trans h.os,hg.tape.trans h.tape,hg.output.trans h.output,p5 h.size hg.size,fun i hi l=>
  (hg.block i (eG hi h.size) (fun e=>by rcases hr i e.symm with h' | h';exact l h';omega)).trans (h.keep i hi l)⟩
theorem Fr.below {C:Nat→Prop} {a w w':World} (h:Fr C a w) (hb:Below w.heap.size w w'):Fr C a w' :=
 ⟨hb.os.trans h.os,hb.tape.trans h.tape,hb.output.trans h.output,p5 h.size hb.size,fun i hi l=>
  (hb.block i (eG hi h.size)).trans (h.keep i hi l)⟩
theorem Fr.toBelow {C:Nat→Prop} {B:Nat} {w w':World} (h:Fr C w w') (hB:B≤w.heap.size) (l:∀k,k<B→¬C k):Below B w w' :=
 ⟨h.os,h.tape,h.output,h.size,fun k hk=>h.keep k (by omega) (l k hk)⟩
theorem Fr.at {C:Nat→Prop} {w w':World} (h:Fr C w w') {k:Nat} {o:Obj} (hk:w.heap[k]?=some o) (l:¬C k):w'.heap[k]?=some o :=
 (h.keep k (c9.1 hk).1 l).trans hk
theorem lX {w:World} {k:Nat} {o:Obj} (hk:w.heap[k]?=some o):k<w.heap.size:=(c9.1 hk).1
def cJ (C C':Nat→Prop) (W W':World):Prop:=Fr C W W'∧∀k,C' k→C k∨(W.heap.size≤k∧k<W'.heap.size)
theorem cJ.refl (C:Nat→Prop) (W:World):cJ C C W W:=⟨Fr.refl _ _,fun _ h=>.inl h⟩
theorem cJ.trans {C C1 C2:Nat→Prop} {W q l:World} (h:cJ C C1 W q) (k:cJ C1 C2 q l):cJ C C2 W l:=by
 refine⟨h.1.trans' k.1 (fun i hi hc=>(h.2 i hc).resolve_right (by omega)),fun i hi=>?_⟩
 have h1:=h.1.size;have h2:=k.1.size
 rcases k.2 i hi with h'|h'
 ·rcases h.2 i h' with h''|h''
  ·exact .inl h''
  ·exact .inr (by omega)
 ·exact .inr (by omega)
theorem L6 {C:Nat→Prop} {W W':World} (h:Fr C W W'):cJ C C W W':=⟨h,fun _ h=>.inl h⟩
theorem cJ.not {C C':Nat→Prop} {W W':World} (h:cJ C C' W W') {k:Nat} (hk:k<W.heap.size) (l:¬C k):¬C' k:=fun h'=>by
 rcases h.2 k h' with h''|h''
 ·exact l h''
 ·omega
def oE {β:Type} (I:β→(Nat→Prop)→World→Prop):Prop :=
 ∀s C W W',I s C W→W.heap.size≤W'.heap.size→(∀k,C k→W'.heap[k]?=W.heap[k]?)→I s C W'
def Ct (P:Program) (l:Nat) (args:Array Value) (W:World) (R:Bool→World→Prop):Prop :=
 ∃fn tmps assign body,(Instr.yield l args).run P W=.ok (.round l fn tmps assign body) W ∧
  RoundIn bF 0 P l fn tmps assign body W fun e W'=>∃b,e=.returned (.bool b)∧R b W'
def Cu {α:Type} (P:Program) (g:FuncId) (lb:Array Value) (enc:α→Array Value) (xs:List α) (D:Nat→Prop) (H:World):Prop :=
 ∀ (l:Nat) (I X:List α→(Nat→Prop)→World→Prop) (E:Nat→Prop) (W:World),
  (∀k,D k→k<H.heap.size∧W.heap[k]?=H.heap[k]?)→H.heap.size≤W.heap.size→(∀k,E k→k<W.heap.size∧¬D k) →
  oE I→oE X →
  (∀pre x post C q,xs=pre++x::post→cJ E C W q→I pre C q →
   Ct P l (enc x) q fun b G=>∃C',cJ C C' q G∧((b=true∧I (pre++[x]) C' G)∨(b=false∧X (pre++[x]) C' G))) →
  I [] E W →
  Calls P g (#[.func (.yield l) #[] #[]]++lb) W fun e W'=>(∃v,e=.returned v) ∧
   ∃C',cJ E C' W W'∧(I xs C' W'∨∃pre x post,xs=pre++x::post∧X (pre++[x]) C' W')
def z8 {α:Type} (I:List α→(Nat→Prop)→World→Prop) (X:Code→List α→(Nat→Prop)→World→Prop) (xs:List α) (C:Nat→Prop) (W:World):Exit→Act→World→Prop
 |.normal,_,W'=>∃C',cJ C C' W W'∧I xs C' W'
 |.ret,_,W'=>∃C',cJ C C' W W'∧X .ret xs C' W'
 |.exit id,_,W'=>∃C',cJ C C' W W'∧X (.exit id) xs C' W'
 |.goto t,_,W'=>∃C',cJ C C' W W'∧X (.goto t) xs C' W'
 |.panic _,_,_=>False
 |.outgrown,_,_=>False
theorem F0 (f:FuncId):Fence.wide.fn f=True:=rfl
theorem F1 (l:Nat) (f:FuncId):(Fence.wide.inRound l).fn f=True:=rfl
theorem F2:Fence.wide.depth=none:=rfl
section
variable {P:Program}
theorem L7 {α:Type} {gf:FuncId} {lb:Array Value} {enc:α→Array Value} {xs:List α} {D:Nat→Prop} {W0:World} (hY:Cu P gf lb enc xs D W0)
  {fn:FuncId} {tmps:Array Value} {ps:Array Tmp} {assign body:Code} {q:Nat} (bk:∀x,(enc x).size=ps.size)
  (I:List α→(Nat→Prop)→World→Prop) (X:Code→List α→(Nat→Prop)→World→Prop) (J:List α→α→Act→(Nat→Prop)→World→Prop)
  (hI:oE I) (hX:∀c,oE (X c)) (hJ:∀pre x a,oE (fun (_:Unit)=>J pre x a)) (C0:Nat→Prop) (W:World) (l:Nat)
  (hl:W.heap[l]?=some (.loop { state:=.ready,pending:=none,fn,tmps,params:=ps,assign,body,defers:=q })) (b2:¬C0 l) (b1:¬D l)
  (hD:∀k,D k→k<W0.heap.size∧W.heap[k]?=W0.heap[k]?) (hs:W0.heap.size≤W.heap.size) (b4:∀k,C0 k→k<W.heap.size∧¬D k) (h0:I [] C0 W)
  (ag:∀pre x post C M,xs=pre++x::post→cJ (fun k=>C0 k∨k=l) (fun k=>C k∨k=l) W M→I pre C M→¬C l→(∃r,M.heap[l]?=some (.loop r)∧r.defers=q) →
   assign.wpIn (Fence.wide.inRound l) 0 P (_root_.Go.Exit.then (fun a1 Y=>∃C1,cJ C C1 M Y∧J pre x a1 C1 Y) (fun _ _ _=>False))
    { tmps:=(ps.zip (enc x)).foldl (fun t (p,v)=>t.setIfInBounds p v) tmps,defers:=[] } M)
  (a5:∀pre x post C M a1,xs=pre++x::post→cJ (fun k=>C0 k∨k=l) (fun k=>C k∨k=l) W M→J pre x a1 C M→¬C l→(∃r,M.heap[l]?=some (.loop r)∧r.defers=q) →
   body.wpIn (Fence.wide.inRound l) 0 P (z8 I X (pre++[x]) C M) a1 M) :
  Calls P gf (#[.func (.yield l) #[] #[]]++lb) W fun e W'=>(∃v,e=.returned v) ∧
   ∃C' st pe,cJ (fun k=>C0 k∨k=l) (fun k=>C' k∨k=l) W W'∧¬C' l∧W'.heap[l]?=some (.loop { state:=st,pending:=pe,fn,tmps,params:=ps,assign,body,defers:=q })∧st≠.busy ∧
    ((pe=none∧I xs C' W')∨∃c pre x post,pe=some c∧xs=pre++x::post∧X c (pre++[x]) C' W'):=by
 have b0:l<W.heap.size:=lX hl
 refine (hY l
  (fun pre Cc M=>∃C,Cc=(fun k=>C k∨k=l)∧¬C l∧I pre C M∧M.heap[l]?=some (.loop { state:=.ready,pending:=none,fn,tmps,params:=ps,assign,body,defers:=q }))
  (fun pre Cc M=>∃C c,Cc=(fun k=>C k∨k=l)∧¬C l∧X c pre C M∧M.heap[l]?=some (.loop { state:=.done,pending:=some c,fn,tmps,params:=ps,assign,body,defers:=q }))
  (fun k=>C0 k∨k=l) W hD hs ?_ ?_ ?_ ?_ ?_).mono ?_
 ·rintro k (h | rfl)
  ·exact b4 k h
  ·exact⟨b0,b1⟩
 ·rintro pre Cc M Y ⟨C,rfl,Z,hi,hr⟩ hsz hk
  exact⟨C,rfl,Z,hI _ _ _ _ hi hsz (fun k h=>hk k (.inl h)),(hk l (.inr rfl)).trans hr⟩
 ·rintro pre Cc M Y ⟨C,c,rfl,Z,hi,hr⟩ hsz hk
  exact⟨C,c,rfl,Z,hX c _ _ _ _ hi hsz (fun k h=>hk k (.inl h)),(hk l (.inr rfl)).trans hr⟩
 ·rintro pre x post Cc M ao O ⟨C,rfl,Z,hi,hr⟩
  have bb:l<M.heap.size:=lX hr
  have hy:=run_yield (P:=P) (args:=enc x) hr (bk x)
  refine⟨fn,_,assign,body,hy,roundIn_of_wpIn (F:=bF) trivial (wpIn_mono (ag pre x post C M ao O hi Z ⟨_,hr,rfl⟩) ?_)⟩
  clear hy
  rintro e a1 Y hp
  cases e with
  |normal=>
   obtain⟨C1,aw,hj⟩:=hp
   have a0:¬C1 l:=aw.not bb Z
   have a8:Y.heap[l]?=_:=aw.1.at hr Z
   have a4:l<Y.heap.size:=lX a8
   refine⟨_,run_beginRound a8 rfl,?_⟩
   have a7:=hU (w:=Y) (o:=.loop { state:=.busy,pending:=none,fn,tmps,params:=ps,assign,body,defers:=q }) a4
   have G:∀ (Cz:Nat→Prop) (Wz:World) (o:Obj),¬Cz l→∀k,Cz k→(Wz.putObj l o).heap[k]?=Wz.heap[k]?:=fun Cz Wz o hz k hk=>dG (by rintro rfl;exact hz hk)
   have b3:=hJ pre x a1 () C1 Y (Y.putObj l (.loop { state:=.busy,pending:=none,fn,tmps,params:=ps,assign,body,defers:=q })) hj (by simp) (G C1 Y _ a0)
   have bh:cJ (fun k=>C k∨k=l) (fun k=>C1 k∨k=l) M (Y.putObj l (.loop { state:=.busy,pending:=none,fn,tmps,params:=ps,assign,body,defers:=q })) :=
    ⟨(aw.1.weaken (fun _ _ h=>.inl h)).putObj (.inl (.inr rfl)) _,fun k hk=>by
     rcases hk with hk|rfl
     ·rcases aw.2 k hk with h'|h'
      ·exact .inl (.inl h')
      ·exact .inr (by simpa using h')
     ·exact .inl (.inr rfl)⟩
   refine wpIn_mono (a5 pre x post C1 _ a1 ao (O.trans bh) b3 a0 ⟨_,a7,rfl⟩) ?_
   have a2:∀ (E:Option Code) (C':Nat→Prop) (T:World),cJ C1 C' (Y.putObj l (.loop { state:=.busy,pending:=none,fn,tmps,params:=ps,assign,body,defers:=q })) T →
     ¬C' l∧(Instr.endRound l E).run P T=.ok (.bool E.isNone) (T.putObj l (.loop { state:=if E.isNone then .ready else .done,pending:=E,fn,tmps,params:=ps,assign,body,defers:=q })) ∧
     (T.putObj l (.loop { state:=if E.isNone then .ready else .done,pending:=E,fn,tmps,params:=ps,assign,body,defers:=q })).heap[l]?=some (.loop { state:=if E.isNone then .ready else .done,pending:=E,fn,tmps,params:=ps,assign,body,defers:=q }) ∧
     cJ (fun k=>C k∨k=l) (fun k=>C' k∨k=l) M (T.putObj l (.loop { state:=if E.isNone then .ready else .done,pending:=E,fn,tmps,params:=ps,assign,body,defers:=q })):=by
    intro E C' T H
    have bs:¬C' l:=H.not (by simpa using a4) a0
    have a6:=H.1.at a7 a0
    have a9:l<T.heap.size:=lX a6
    refine⟨bs,run_endRound (P:=P) E a6,hU a9,bh.trans ⟨(H.1.weaken (fun _ _ h=>.inl h)).putObj (.inl (.inr rfl)) _,?_⟩⟩
    rintro k (hk|rfl)
    ·rcases H.2 k hk with h'|h'
     ·exact .inl (.inl h')
     ·exact .inr (by simpa using h')
    ·exact .inl (.inr rfl)
   rintro e a3 T V
   cases e with
   |normal=>
    obtain⟨C',H,U⟩:=V
    obtain⟨q1,q2,q3,q4⟩:=a2 none C' T H
    exact⟨_,_,q2,true,rfl,_,q4,.inl ⟨rfl,C',rfl,q1,hI _ _ _ _ U (by simp) (G C' T _ q1),q3⟩⟩
   |ret=>
    obtain⟨C',H,U⟩:=V
    obtain⟨q1,q2,q3,q4⟩:=a2 (some .ret) C' T H
    exact⟨_,_,q2,false,rfl,_,q4,.inr ⟨rfl,C',_,rfl,q1,hX _ _ _ _ _ U (by simp) (G C' T _ q1),q3⟩⟩
   |exit id=>
    obtain⟨C',H,U⟩:=V
    obtain⟨q1,q2,q3,q4⟩:=a2 (some (.exit id)) C' T H
    exact⟨_,_,q2,false,rfl,_,q4,.inr ⟨rfl,C',_,rfl,q1,hX _ _ _ _ _ U (by simp) (G C' T _ q1),q3⟩⟩
   |goto t=>
    obtain⟨C',H,U⟩:=V
    obtain⟨q1,q2,q3,q4⟩:=a2 (some (.goto t)) C' T H
    exact⟨_,_,q2,false,rfl,_,q4,.inr ⟨rfl,C',_,rfl,q1,hX _ _ _ _ _ U (by simp) (G C' T _ q1),q3⟩⟩
   |panic ch=>exact V.elim
   |outgrown=>exact V.elim
  |ret=>exact hp.elim
  |exit id=>exact hp.elim
  |goto t=>exact hp.elim
  |panic ch=>exact hp.elim
  |outgrown=>exact hp.elim
 ·exact⟨C0,rfl,b2,h0,hl⟩
 ·rintro e W' ⟨hv,C',O,⟨C,rfl,Z,hi,hr⟩ | ⟨pre,x,post,ao,C,c,rfl,Z,hi,hr⟩⟩
  ·exact⟨hv,C,_,_,O,Z,hr,by simp,.inl ⟨rfl,hi⟩⟩
  ·exact⟨hv,C,_,_,O,Z,hr,by simp,.inr ⟨c,pre,x,post,rfl,ao,hi⟩⟩
theorem L8 {α:Type} {g:Operand} {ps:Array Tmp} {assign body:Code} {Q:Exit→Act→World→Prop} {a:Act} {w:World}
  {gf:FuncId} {lb:Array Value} (hg:a.eval g=.func (.func gf) #[] lb) (eg:∀args w,(callFunc gf args).run P w=.ok (.enter gf args) w)
  {enc:α→Array Value} {xs:List α} {D:Nat→Prop} {W0:World} (hY:Cu P gf lb enc xs D W0)
  (hD:∀k,D k→k<W0.heap.size∧w.heap[k]?=W0.heap[k]?) (hs:W0.heap.size≤w.heap.size) (a5:∀x,(enc x).size=ps.size)
  (I:List α→(Nat→Prop)→World→Prop) (X:Code→List α→(Nat→Prop)→World→Prop) (J:List α→α→Act→(Nat→Prop)→World→Prop)
  (hI:oE I) (hX:∀c,oE (X c)) (hJ:∀pre x a,oE (fun (_:Unit)=>J pre x a)) (T:Nat→Prop)
  (O:∀k,T k→k<w.heap.size∧¬D k) (h0:I [] T w)
  (V:∀l pre x post C q,xs=pre++x::post→cJ T C w q→I pre C q→¬C l→w.heap.size≤l→(∃r,q.heap[l]?=some (.loop r)) →
   assign.wpIn (Fence.wide.inRound l) 0 P (_root_.Go.Exit.then (fun a1 G=>∃C1,cJ C C1 q G∧J pre x a1 C1 G) (fun _ _ _=>False))
    { tmps:=(ps.zip (enc x)).foldl (fun t (p,v)=>t.setIfInBounds p v) a.tmps,defers:=[] } q)
  (aw:∀l pre x post C q a1,xs=pre++x::post→cJ T C w q→J pre x a1 C q→¬C l→w.heap.size≤l→(∃r,q.heap[l]?=some (.loop r)) →
   body.wpIn (Fence.wide.inRound l) 0 P (z8 I X (pre++[x]) C q) a1 q)
  (ao:∀ (d:Nat) (C:Nat→Prop) (W:World),cJ T C w W→I xs C W→w.heap.size≤d→¬C d→W.heap[d]?=some (.deferred (some []))→Q .normal { a with defers:={ target:=.collected d,args:=#[] }::a.defers } W)
  (ag:∀ (d:Nat) (c:Code) (pre:List α) (x:α) (post:List α) (C:Nat→Prop) (W:World),xs=pre++x::post→cJ T C w W→X c (pre++[x]) C W→w.heap.size≤d→¬C d→W.heap[d]?=some (.deferred (some [])) →
   c.wpIn bF 0 P Q { a with defers:={ target:=.collected d,args:=#[] }::a.defers } W) :
  (Code.rangeFunc g ps assign body).wpIn bF 0 P Q a w:=by
 refine wpIn_rangeFunc ?_
 intro fn hfn
 obtain⟨q,M⟩:∃q,(w.alloc (.deferred (some []))).alloc (.loop { state:=.ready,pending:=none,fn,tmps:=a.tmps,params:=ps,assign,body,defers:=w.heap.size })=q:=⟨_,rfl⟩
 have a6:q.heap[w.heap.size+1]?=some (.loop { state:=.ready,pending:=none,fn,tmps:=a.tmps,params:=ps,assign,body,defers:=w.heap.size }):=by
  rw[←M];have:=eV (w.alloc (.deferred (some []))) (.loop { state:=.ready,pending:=none,fn,tmps:=a.tmps,params:=ps,assign,body,defers:=w.heap.size });rwa [World.size_alloc] at this
 have a7:q.heap[w.heap.size]?=some (.deferred (some [])):=by
  rw[←M];exact (fW _ _ _ (by simp)).trans (eV w _)
 have a4:Fr T w q:=by rw[←M];exact ((Fr.refl T w).alloc _).alloc _
 have hsz:q.heap.size=w.heap.size+2:=by rw[←M];simp
 have Z:∀k,k<w.heap.size→q.heap[k]?=w.heap[k]?:=fun k hk=>by rw[←M];exact (fW _ _ _ (by simp;omega)).trans (fW _ _ _ hk)
 have a8:I [] T q:=hI _ _ _ _ h0 a4.size (fun k hk=>Z k (O k hk).1)
 have H:∀ {C:Nat→Prop} {G:World},cJ (fun k=>T k∨k=w.heap.size+1) (fun k=>C k∨k=w.heap.size+1) q G→¬C (w.heap.size+1)→cJ T C w G∧¬C w.heap.size∧G.heap[w.heap.size]?=some (.deferred (some [])):=by
  intro C G h Y
  have hnd:¬C w.heap.size:=fun hc=>by
   rcases h.2 _ (.inl hc) with (h'|h')|h'
   ·have:=(O _ h').1;omega
   ·omega
   ·omega
  refine⟨⟨a4.trans' h.1 (fun i hi hc=>hc.resolve_right (by omega)),fun k hk=>?_⟩,hnd,h.1.at a7 (fun hc=>?_)⟩
  ·have h2:=h.1.size
   rcases h.2 k (.inl hk) with (h'|h')|h'
   ·exact .inl h'
   ·exact absurd (h'▸hk) Y
   ·exact .inr (by omega)
  ·rcases hc with hc|hc
   ·have:=(O _ hc).1;omega
   ·omega
 refine⟨w.heap.size+1,[{ target:=.collected w.heap.size,args:=#[] }],q,{ target:=.fn (.func gf) lb,args:=#[.func (.yield (w.heap.size+1)) #[] #[]] },q,gf,
  #[.func (.yield (w.heap.size+1)) #[] #[]]++lb,q,?_,?_,?_,?_,fun h=>by simp[bF] at h,callsIn_wide.2 ?_⟩
 ·rw[←M];exact run_enterLoop_outer _ _ _ _ _
 ·simp only[resolve,hg]
  simp[go_sem]
 ·intro f' bb;trivial
 ·simp[invoke,go_sem,eg]
 ·refine (L7 hY a5 I X J hI hX hJ T q (w.heap.size+1) a6 (fun h=>by have:=(O _ h).1;omega) (fun h=>by have:=(hD _ h).1;omega)
   (fun k hk=>⟨(hD k hk).1,(Z k (by have:=(hD k hk).1;omega)).trans (hD k hk).2⟩) (by omega) (fun k hk=>⟨by have:=(O k hk).1;omega,(O k hk).2⟩) a8 ?_ ?_).mono ?_
  ·rintro pre x post C G U E hi Y ⟨r,hr,_⟩
   exact V _ pre x post C G U (H E Y).1 hi Y (by omega) ⟨r,hr⟩
  ·rintro pre x post C G a1 U E hj Y ⟨r,hr,_⟩
   exact aw _ pre x post C G a1 U (H E Y).1 hj Y (by omega) ⟨r,hr⟩
  ·rintro e G ⟨⟨v,rfl⟩,C',st,pe,E,Y,hr,a0,h⟩
   obtain⟨q1,q2,q3⟩:=H E Y
   have a9:w.heap.size+1<G.heap.size:=lX hr
   have e1:∀o,cJ T C' w (G.putObj (w.heap.size+1) o):=fun o=>⟨q1.1.putObj (.inr (by omega)) _,fun k hk=>by have:=q1.2 k hk;simpa using this⟩
   have a2:∀o,∀k,C' k→(G.putObj (w.heap.size+1) o).heap[k]?=G.heap[k]?:=fun o k hk=>dG (by rintro rfl;exact Y hk)
   have a3:∀o,(G.putObj (w.heap.size+1) o).heap[w.heap.size]?=some (.deferred (some [])):=fun o=>(dG (by omega)).trans q3
   rcases h with⟨rfl,hi⟩|⟨c,pre,x,post,rfl,U,hx⟩
   ·exact⟨none,_,run_endLoop (P:=P) hr a0,ao _ C' _ (e1 _) (hI _ _ _ _ hi (by simp) (a2 _)) (bq _) q2 (a3 _)⟩
   ·exact⟨some c,_,run_endLoop (P:=P) hr a0,ag _ c pre x post C' _ U (e1 _) (hX _ _ _ _ _ hx (by simp) (a2 _)) (bq _) q2 (a3 _)⟩
def po (l:List Nat):List Deferred:=l.map fun d=>{ target:=.collected d,args:=#[] }
theorem F3 {fn:Func} {tmps:Array Value} {R:Ending→World→Prop}:∀ (l:List Nat) (w:World),l.Nodup→(∀d∈l,w.heap[d]?=some (.deferred (some []))) →
  (∀w',Fr (fun k=>k∈l) w w'→w'.heap.size=w.heap.size→∃v,(results fn tmps).run P w'=.ok v w'∧R (.returned v) w') →
  LeavesInM bF 0 P fn tmps R (po l) .returning w
 |[],w,_,_,h=>by
  obtain⟨v,h1,h2⟩:=h w (Fr.refl _ _) rfl
  exact⟨v,h1,h2⟩
 |d::l,w,hn,hd,h=>by
  have hnd:=iY.1 hn
  refine⟨by simp,.inl ⟨d,_,rfl,run_takeDeferred (hd d (by simp)),?_⟩⟩
  refine F3 l _ hnd.2 (fun e he=>(dG (by rintro rfl;exact hnd.1 he)).trans (hd e (by simp[he]))) (fun w' q D=>?_)
  refine h w' ?_ (by rw[D];simp)
  exact ((Fr.refl _ _).putObj (.inl (by simp)) _).trans' q (fun i _ hi=>by simp[hi])
theorem xE {f:FuncId} {fn:Func} {c:Code} {args:Array Value} {w:World} {R:Ending→World→Prop}
  (hf:P.funcs[f]?=some fn) (hb:fn.body=some c)
  (h:c.wpIn bF 0 P (bodyPostM bF 0 P fn R) { tmps:=args++fj (fn.ntmps-args.size) undef,defers:=[] } w):Calls P f args w R :=
 (callsIn_wide (n:=0)).1 (callsIn_of_wp_marks hf hb trivial h)
end
theorem cJ.sub {C C1 C2:Nat→Prop} {W W':World} (h:cJ C C1 W W') (l:∀k,C2 k→C1 k):cJ C C2 W W':=⟨h.1,fun k hk=>h.2 k (l k hk)⟩
theorem cJ.below {C:Nat→Prop} {W W':World} (h:Below W.heap.size W W'):cJ C C W W':=L6 ((Fr.refl _ _).below h)
theorem oY {w:World} {b j:Nat} {cs:Array Value} {t:TypeId} {l:Nat×Nat} {v:Value} (h:w.heap[b]?=some (.cells cs t l)) (hv:cs[j]?=some v):w.cell? ⟨b,j,none⟩=some v:=by
 simp[World.cell?,h,hv]
theorem F4 {w:World} {b:Nat} {cs:Array Value} {t:TypeId} (h:w.heap[b]?=some (.cells cs t (0,0))) (j:Nat):w.frozen? ⟨b,j,none⟩=false:=by
 simp[mb,h]
section
variable {α:Type} {enc:α→List Value} {size:Nat}
theorem qM (hz:∀x,(enc x).length=size) (L:List α):(L.flatMap enc).length=L.length*size:=by
 induction L with
 |nil=>simp
 |cons x L l=>simp[l,hz,c8];omega
theorem Cv (hz:∀x,(enc x).length=size):∀ (L:List α) (n j:Nat) (x:α),L[n]?=some x→j<size→(L.flatMap enc)[n*size+j]?=(enc x)[j]?
 |[],n,j,x,h,hj=>by simp at h
 |y::L,0,j,x,h,hj=>by
  simp at h;subst h
  simp only[aG,oz,cf]
  rw[eK (by rw[hz];exact hj)]
 |y::L,n+1,j,x,h,hj=>by
  simp at h
  simp only[aG]
  rw[fX (by rw[hz,c8];omega),hz]
  have:(n+1)*size+j-size=n*size+j:=by rw[c8];omega
  rw[this]
  exact Cv hz L n j x h hj
theorem F5 (hz:∀x,(enc x).length=size):∀ (L:List α) (n j:Nat) (x y:α) (u:Value),L[n]?=some x→j<size→enc y=(enc x).set j u →
  (L.flatMap enc).set (n*size+j) u=(L.set n y).flatMap enc
 |[],n,j,x,y,u,h,hj,he=>by simp at h
 |z::L,0,j,x,y,u,h,hj,he=>by
  simp at h;subst h
  simp only[aG,oz,cf,List.set_cons_zero]
  rw[List.set_append_left _ _ (by rw[hz];exact hj),he]
 |z::L,n+1,j,x,y,u,h,hj,he=>by
  simp at h
  simp only[aG,List.set_cons_succ]
  rw[List.set_append_right _ _ (by rw[hz,c8];omega),hz]
  have:(n+1)*size+j-size=n*size+j:=by rw[c8];omega
  rw[this,F5 hz L n j x y u h hj he]
def Rw (enc:α→List Value) (w:World) (base:Nat) (e:TypeId) (size:Nat) (v:Value) (L:List α):Prop:=w.ownsRow base e size v L.length (L.flatMap enc)
theorem Rw.nil (w:World) (base:Nat) (e:TypeId):Rw enc w base e size (.slice none 0 0) ([]:List α):=sj w base e size
theorem Rw.shape {w:World} {base:Nat} {e:TypeId} {v:Value} {L:List α} (h:Rw enc w base e size v L) :
  (v=.slice none 0 0∧L=[])∨∃g cap,v=.slice (some ⟨g,0,none⟩) L.length cap∧base≤g∧g<w.heap.size∧L.length≤cap∧cap≤maxLen:=by
 rcases h.2 with⟨h1,h2⟩|⟨g,cap,q,h1,h2,h3,l,h5,_⟩
 ·exact .inl ⟨h1,ck h2⟩
 ·exact .inr ⟨g,cap,h1,h2,(c9.1 h3).1,l,h5⟩
theorem Rw.cell {w:World} {base:Nat} {e:TypeId} {g cap:Nat} {L:List α} (hz:∀x,(enc x).length=size) (h:Rw enc w base e size (.slice (some ⟨g,0,none⟩) L.length cap) L)
  {n:Nat} {x:α} (hx:L[n]?=some x) {j:Nat} {u:Value} (hj:j<size) (hu:(enc x)[j]?=some u):w.cell? ⟨g,n*size+j,none⟩=some u:=by
 have q:n<L.length:=(au.1 hx).1
 have l:n*size+j<L.length*size:=by
  have:(n+1)*size≤L.length*size:=iz _ q
  rw[c8] at this;omega
 rw[World.ownsRow.cellAt h _ l,Cv hz L n j x hx hj,hu]
theorem Rw.frozen {w:World} {base:Nat} {e:TypeId} {g n cap:Nat} {L:List α} (h:Rw enc w base e size (.slice (some ⟨g,0,none⟩) n cap) L) (l:n=L.length) (j:Nat):w.frozen? ⟨g,j,none⟩=false:=by
 subst l;exact World.ownsRow.frozenAt h j
theorem Rw.stored {w:World} {base:Nat} {e:TypeId} {g cap:Nat} {L:List α} (hz:∀x,(enc x).length=size) (h:Rw enc w base e size (.slice (some ⟨g,0,none⟩) L.length cap) L)
  {n:Nat} {x:α} (hx:L[n]?=some x) {j:Nat} (hj:j<size) (y:α) {u:Value} (he:enc y=(enc x).set j u) :
  Rw enc (w.setCell ⟨g,n*size+j,none⟩ u) base e size (.slice (some ⟨g,0,none⟩) L.length cap) (L.set n y)∧w.grownBy (w.setCell ⟨g,n*size+j,none⟩ u) (some g):=by
 have:=World.ownsRow.stored h (n*size+j) u
 refine⟨?_,this.2⟩
 have h1:=this.1
 rw[F5 hz L n j x y u hx hj he] at h1
 unfold Rw
 rw[List.length_set]
 exact h1
end
theorem cJ.alloc {C C':Nat→Prop} {a w:World} (h:cJ C C' a w) (o:Obj):cJ C C' a (w.alloc o) :=
 ⟨h.1.alloc o,fun k hk=>(h.2 k hk).imp id (fun q=>⟨q.1,by simp;omega⟩)⟩
theorem cJ.drew {C C':Nat→Prop} {a w:World} (h:cJ C C' a w):cJ C C' a w.drew:=⟨h.1.drew,h.2⟩
theorem cJ.setCell {C C':Nat→Prop} {a w:World} (h:cJ C C' a w) {p:Addr} (hp:C' p.block) (u:Value):cJ C C' a (w.setCell p u):=by
 have l:(w.setCell p u).heap.size=w.heap.size:=by simp[l9]
 refine⟨h.1.setCell ?_ u,fun k hk=>by rw[l];exact h.2 k hk⟩
 rcases h.2 _ hp with h'|h'
 ·exact .inl h'
 ·exact .inr h'.1
theorem cJ.toBelow {C C':Nat→Prop} {B:Nat} {w w':World} (h:cJ C C' w w') (hB:B≤w.heap.size) (l:∀k,k<B→¬C k):Below B w w':=h.1.toBelow hB l
theorem F6 {C:Nat→Prop} {w w':World} (h:Below w.heap.size w w'):cJ C C w w':=cJ.below h
def il {α:Type} (enc:α→List Value) (e:TypeId) (size:Nat) (v:Value) (L:List α) (C:Nat→Prop) (w:World):Prop :=
 Rw enc w 0 e size v L∧C=(fun k=>v.ownBlock=some k)
section
variable {α:Type} {enc:α→List Value} {size:Nat} {e:TypeId} {v:Value} {L:List α} {C:Nat→Prop} {w w':World}
theorem il.local (h:il enc e size v L C w) (hk:∀k,C k→w'.heap[k]?=w.heap[k]?):il enc e size v L C w':=by
 obtain⟨h1,rfl⟩:=h
 refine⟨⟨h1.1,?_⟩,rfl⟩
 rcases h1.2 with q|⟨g,cap,l,rfl,h5,D,rest⟩
 ·exact .inl q
 ·exact .inr ⟨g,cap,l,rfl,h5,(hk g rfl).trans D,rest⟩
theorem il.lt (h:il enc e size v L C w):∀k,C k→k<w.heap.size:=by
 obtain⟨h1,rfl⟩:=h
 exact fun k hk=>(fl h1 k hk).2
theorem il.nil:il enc e size (.slice none 0 0) ([]:List α) (fun _=>False) w:=⟨Rw.nil _ _ _,by funext k;simp[bT]⟩
theorem il.shape (h:il enc e size v L C w) :
  (v=.slice none 0 0∧L=[]∧C=fun _=>False)∨∃g cap,v=.slice (some ⟨g,0,none⟩) L.length cap∧g<w.heap.size∧L.length≤cap∧cap≤maxLen∧C=(fun k=>k=g):=by
 obtain⟨h1,rfl⟩:=h
 rcases h1.shape with⟨rfl,h2⟩|⟨g,cap,rfl,_,h3,l,h5⟩
 ·exact .inl ⟨rfl,h2,by funext k;simp[bT]⟩
 ·exact .inr ⟨g,cap,rfl,h3,l,h5,by funext k;simp[bT];exact⟨fun h=>h.symm,fun h=>h.symm⟩⟩
theorem il.cell {g cap n:Nat} (hz:∀x,(enc x).length=size) (h:il enc e size (.slice (some ⟨g,0,none⟩) n cap) L C w) (l:n=L.length) {i:Nat} {x:α} (hx:L[i]?=some x) {j:Nat} {u:Value} (hj:j<size) (hu:(enc x)[j]?=some u) :
  w.cell? ⟨g,i*size+j,none⟩=some u:=by subst l;exact h.1.cell hz hx hj hu
theorem il.frozen {g cap n:Nat} (h:il enc e size (.slice (some ⟨g,0,none⟩) n cap) L C w) (l:n=L.length) (j:Nat):w.frozen? ⟨g,j,none⟩=false:=h.1.frozen l j
end
theorem Cw {P:Program} (w:World) (base:Nat) (t ty e:TypeId) (i:TypeInfo) (z:Value) (size bytes:Nat) (ht:P.underlying t=some (.slice e)) (hi:P.info? e=some i) (hz:i.zero=some z)
  (I:i.size=size) (Y:i.bytes=bytes)
  (v:Value) (n:Nat) (xs:List Value) (H:w.ownsRow base e size v n xs)
  (a:Addr) (m c:Nat) (l:List Value) (M:l.length=m*size) (D:∀j u,l[j]?=some u→w.cell? (a.add j)=some u) (h1:∀u∈l,u.oneCell'=true)
  (Z:n+m≤maxLen) (E:(n+m)*bytes≤140737488355328) {v':Value} {w':World}
  (q:(cR #[t,t] ty #[v,.slice (some a) m c]).run P w=.ok v' w'):∀g,v'.ownBlock=some g→v.ownBlock=some g∨(w.heap.size≤g):=by
 subst I
 subst Y
 have U:n+m≤9223372036854775807:=by simp only[maxLen] at Z;omega
 rcases H.2 with⟨rfl,rfl⟩|⟨g,cap,T,rfl,aw,hg,ag,ao,W,V⟩
 ·by_cases hm:m=0
  ·subst hm
   have hn:l=[]:=ck (by simpa using M)
   subst hn
   have h:(cR #[t,t] ty #[.slice none 0 0,.slice (some a) 0 c]).run P w=.ok (.slice none 0 0) w:=by
    simp[cR,run_underlying ht,sizeOf,typeInfo,hi,iZ,kQ,loadCells,loadCellsFrom]
   rw[h] at q
   cases q
   simp[bT]
  ·have hr:=run_append_nil (P:=P) w t ty e i z ht hi hz a m c l M D (by omega) (by omega) (by have hb:=E;simp only[cf] at hb;omega)
   rw[hr] at q
   cases q
   intro g hg
   simp[bT] at hg
   exact .inr (by omega)
 ·by_cases G:n+m≤cap
  ·have O:n*i.size+l.length≤T.size:=by rw[M,W,←c8];exact iz _ G
   have hr:=run_append_room (P:=P) w t ty e i ht hi g n cap T hg a m c l M D h1 G O
   rw[hr] at q
   cases q
   intro g' J
   exact .inl (by simpa [bT] using J)
  ·have holds:∀j u,xs[j]?=some u→w.cell? ((⟨g,0,none⟩:Addr).add j)=some u:=H.cells (g:=g) rfl
   have hr:=run_append_grow (P:=P) w t ty e i z ht hi hz ⟨g,0,none⟩ n cap xs H.1 holds a m c l M D (by omega) (by omega) (growslice_fits (by omega) E)
   rw[hr] at q
   cases q
   intro g' J
   simp[bT] at J
   exact .inr (by omega)
theorem L9 {P:Program} (w:World) (base:Nat) (t u ty e:TypeId) (i:TypeInfo) (ht:P.underlying t=some (.slice e)) (hu:P.underlying u=some .string) (hi:P.info? e=some i) (hz:i.zero=some (.int .u8 0))
  (q:i.size=1) (H:i.bytes=1)
  (v:Value) (n:Nat) (xs:List Value) (D:w.ownsRow base e 1 v n xs) (s:ad)
  (U:n+s.size≤maxLen) (M:n+s.size≤140737488355328) {V:Value} {w':World}
  (l:(cR #[t,u] ty #[v,.string s]).run P w=.ok V w'):∀g,V.ownBlock=some g→v.ownBlock=some g∨(w.heap.size≤g):=by
 have J:n+s.size≤9223372036854775807:=by simp only[maxLen] at U;omega
 have Y:xs.length=n:=by simpa using D.1
 rcases D.2 with⟨rfl,rfl⟩|⟨g,cap,I,rfl,ao,hg,Z,ag,T,O⟩
 ·by_cases hm:s.size=0
  ·have hf:=run_firstCells_string (P:=P) w 1 s
   rw[hm] at hf
   have hn:strCells s=[]:=ck (by rw[strCells_length];exact hm)
   have h:(cR #[t,u] ty #[.slice none 0 0,.string s]).run P w=.ok (.slice none 0 0) w:=by
    simp[cR,run_underlying ht,run_underlying hu,sizeOf,typeInfo,hi,q,iZ,hm,hf]
   rw[h] at l
   cases l
   simp[bT]
  ·have hr:=run_append_nil_string (P:=P) w t u ty e i (.int .u8 0) ht hu hi hz s (by omega) (by omega) (by rw[H];omega)
   rw[hr] at l
   cases l
   intro g hg
   simp[bT] at hg
   exact .inr (by omega)
 ·by_cases E:n+s.size≤cap
  ·have W:I.size=cap:=by simpa using T
   have hr:=run_append_room_string (P:=P) w t u ty e i ht hu hi q g n cap I hg s E (by omega)
   rw[hr] at l
   cases l
   intro g' G
   exact .inl (by simpa [bT] using G)
  ·have holds:∀j u,xs[j]?=some u→w.cell? ((⟨g,0,none⟩:Addr).add j)=some u:=D.cells (g:=g) rfl
   have hr:=run_append_grow_string (P:=P) w t u ty e i (.int .u8 0) ht hu hi hz ⟨g,0,none⟩ n cap xs (by rw[q];omega) holds s (by omega) (by omega) (growslice_fits (by omega) (by rw[H];omega))
   rw[hr] at l
   cases l
   intro g' G
   simp[bT] at G
   exact .inr (by omega)
theorem Aa {w w':World} {v l:Value} (hg:w.grownBy w' v.ownBlock) (hb:∀g,l.ownBlock=some g→v.ownBlock=some g∨w.heap.size≤g) (q:∀g,l.ownBlock=some g→g<w'.heap.size) :
  cJ (fun k=>v.ownBlock=some k) (fun k=>l.ownBlock=some k) w w' :=
 ⟨(Fr.refl _ _).grown hg (fun r hr=>.inl hr),fun k hk=>(hb k hk).imp id (fun h=>⟨h,q k hk⟩)⟩
section
variable {F:Fence} {n:Nat} {P:Program}
theorem Ma {α:Type} {enc:α→List Value} {size:Nat} (w:World) (t ty e:TypeId) (i:TypeInfo) (z:Value) (bytes:Nat) (ht:P.underlying t=some (.slice e)) (hi:P.info? e=some i) (hz:i.zero=some z)
  (q:i.size=size) (I:i.bytes=bytes) (T:z.cells.size=size) (hsz:0<size) (H:∀x,(enc x).length=size) (h1:∀x,∀u∈enc x,u.oneCell'=true)
  (v:Value) (L:List α) (C:Nat→Prop) (l:il enc e size v L C w) (ys:List α) (b c:Nat)
  (Z:TypeId) (Y:Nat×Nat) (hb:w.heap[b]?=some (.cells (ys.flatMap enc).toArray Z Y)) (hn:L.length+ys.length≤2147483648) (E:bytes≤65536) :
  ∃G w',(cR #[t,t] ty #[v,.slice (some ⟨b,0,none⟩) ys.length c]).run P w=.ok G w'∧∃C',il enc e size G (L++ys) C' w'∧cJ C C' w w':=by
 obtain⟨l,rfl⟩:=l
 have V:(ys.flatMap enc).length=ys.length*size:=qM H ys
 have D:∀j u,(ys.flatMap enc)[j]?=some u→w.cell? ((⟨b,0,none⟩:Addr).add j)=some u:=by
  intro j u hu
  have M:(⟨b,0,none⟩:Addr).add j=⟨b,j,none⟩:=by unfold qa;split<;>simp_all
  rw[M,oY hb (v:=u) (by simpa using hu)]
 have O:∀u∈ys.flatMap enc,u.oneCell'=true:=by
  intro u hu
  obtain⟨x,hx,hu⟩:=iI.1 hu
  exact h1 x u hu
 have J:(L.length+ys.length)*bytes≤140737488355328:=by
  have:(L.length+ys.length)*bytes≤2147483648*65536:=Nat.mul_le_mul (by omega) E
  omega
 obtain⟨G,w',hr,r1,r2,_⟩:=run_append_own (P:=P) w 0 t ty e i z size bytes ht hi hz q I T hsz v L.length (L.flatMap enc) l ⟨b,0,none⟩ ys.length c (ys.flatMap enc) V D O (by simp[maxLen];omega) J (bG _)
 have U:=Cw (P:=P) w 0 t ty e i z size bytes ht hi hz q I v L.length (L.flatMap enc) l ⟨b,0,none⟩ ys.length c (ys.flatMap enc) V D O (by simp[maxLen];omega) J hr
 have W:Rw enc w' 0 e size G (L++ys):=by
  unfold Rw;rw[aa,dX];exact r1
 exact⟨G,w',hr,_,⟨W,rfl⟩,Aa r2 U (fun g hg=>(fl W g hg).2)⟩
end
theorem F7 (a b:ad):strCells (a++b)=strCells a++strCells b:=by
 unfold strCells;rw[ByteArray.data_append];simp
def jC (e:TypeId) (v:Value) (b:ad) (C:Nat→Prop) (w:World):Prop:=w.ownsRow 0 e 1 v b.size (strCells b)∧C=(fun k=>v.ownBlock=some k)
section
variable {e:TypeId} {v:Value} {b:ad} {C:Nat→Prop} {w w':World}
theorem jC.local (h:jC e v b C w) (hk:∀k,C k→w'.heap[k]?=w.heap[k]?):jC e v b C w':=by
 obtain⟨h1,rfl⟩:=h
 refine⟨⟨h1.1,?_⟩,rfl⟩
 rcases h1.2 with q|⟨g,cap,l,rfl,h5,D,rest⟩
 ·exact .inl q
 ·exact .inr ⟨g,cap,l,rfl,h5,(hk g rfl).trans D,rest⟩
theorem jC.lt (h:jC e v b C w):∀k,C k→k<w.heap.size:=by
 obtain⟨h1,rfl⟩:=h
 exact fun k hk=>(fl h1 k hk).2
theorem jC.ext {D l:Nat→Prop} (h:jC e v b C w) (hx:cJ D l w w') (hd:∀k,C k→¬D k):jC e v b C w' :=
 h.local (fun k hk=>hx.1.keep k (h.lt k hk) (hd k hk))
theorem jC.nil:jC e (.slice none 0 0) ⟨#[]⟩ (fun _=>False) w:=⟨sj w 0 e 1,by funext k;simp[bT]⟩
theorem jC.shape (h:jC e v b C w) :
  (v=.slice none 0 0∧b=⟨#[]⟩∧C=fun _=>False)∨∃g cap l,v=.slice (some ⟨g,0,none⟩) b.size cap∧g<w.heap.size∧b.size≤cap∧cap≤maxLen∧C=(fun k=>k=g)∧w.heap[g]?=some (.cells l e (0,0)):=by
 obtain⟨h1,rfl⟩:=h
 rcases h1.2 with⟨rfl,h2⟩|⟨g,cap,l,rfl,h2,h3,q,h5,_⟩
 ·exact .inl ⟨rfl,by apply _root_.ByteArray.ext;exact my h2,by funext k;simp[bT]⟩
 ·exact .inr ⟨g,cap,l,rfl,(c9.1 h3).1,q,h5,by funext k;simp[bT];exact⟨fun h=>h.symm,fun h=>h.symm⟩,h3⟩
theorem jC.conv {P:Program} (h:jC e v b C w) (src dst:TypeId) (l:P.underlying src=some (.slice e)) (he:P.underlying e=some (.int .u8)) (hd:P.underlying dst=some .string) :
  (convert src dst v).run P w=.ok (.string b) w:=by
 obtain⟨h,-⟩:=h
 rcases h.2 with⟨rfl,h2⟩|⟨g,cap,D,rfl,_,_,_⟩
 ·have hb:b=⟨#[]⟩:=by
   apply _root_.ByteArray.ext;exact my h2
  rw[hb];exact run_convert_nil_bytes w src dst e 0 l he hd
 ·have q:b.data.toList.length=b.size:=by rw[cU];rfl
  have:=run_convert_bytes_back (P:=P) w src dst e ⟨g,0,none⟩ cap b.data.toList l he hd (fun j hj=>by
   refine rm h rfl j _ ?_
   unfold strCells;rw[bU,aJ hj];rfl)
  rw[q] at this
  rw[this]
end
section
variable {F:Fence} {n:Nat} {P:Program}
theorem F8 (w:World) (t u ty e:TypeId) (i:TypeInfo) (ht:P.underlying t=some (.slice e)) (hu:P.underlying u=some .string) (hi:P.info? e=some i) (hz:i.zero=some (.int .u8 0))
  (q:i.size=1) (E:i.bytes=1) (v:Value) (b:ad) (C:Nat→Prop) (l:jC e v b C w) (s:ad) (H:b.size+s.size≤140737488355328) :
  ∃D w',(cR #[t,u] ty #[v,.string s]).run P w=.ok D w'∧∃C',jC e D (b++s) C' w'∧cJ C C' w w':=by
 obtain⟨l,rfl⟩:=l
 obtain⟨D,w',hr,r1,r2,_⟩:=run_append_own_string (P:=P) w 0 t u ty e i ht hu hi hz q E v b.size (strCells b) l s (by simp[maxLen];omega) H (bG _)
 have G:=L9 (P:=P) w 0 t u ty e i ht hu hi hz q E v b.size (strCells b) l s (by simp[maxLen];omega) H hr
 have I:w'.ownsRow 0 e 1 D (b++s).size (strCells (b++s)):=by rw[F7,aE];exact r1
 exact⟨D,w',hr,_,⟨I,rfl⟩,Aa r2 G (fun g hg=>(fl I g hg).2)⟩
theorem znw (w:World) {ops:Array Oper} {rest:List Oper} {o:Oper} {a:Act} {Q:Exit→Act→World→Prop} (E:o.guard=none) (sl x:Operand) (t u:TypeId)
  (I:o.op=.call { callee:=.builtin .append,args:=#[sl,x],argTypes:=#[t,u] })
  (e:TypeId) (i:TypeInfo) (ht:P.underlying t=some (.slice e)) (hu:P.underlying u=some .string) (hi:P.info? e=some i) (hz:i.zero=some (.int .u8 0))
  (l:i.size=1) (G:i.bytes=1) (v:Value) (b:ad) (C:Nat→Prop) (H:a.eval sl=v) (q:jC e v b C w) (s:ad) (hx:a.eval x=.string s)
  (J:b.size+s.size≤140737488355328)
  (h:∀D w' C',jC e D (b++s) C' w'→cJ C C' w w'→wpList P ops Q rest (a.put o.dst D) w'):wpList P ops Q (o::rest) a w:=by
 refine wpList_plain E fun K M=>?_
 obtain⟨D,w',hr,C',h2,h3⟩:=F8 (P:=P) w t u o.type e i ht hu hi hz l G v b C q s J
 unfold Oper.wp execOp
 simp only[I,resolve,invoke,builtin,ap,iR,cj,eS,av,ed,H,hx,hr]
 exact M _ _ (h D w' C' h2 h3)
theorem Mb (w:World) (t ty e:TypeId) (i:TypeInfo) (ht:P.underlying t=some (.slice e)) (hi:P.info? e=some i) (hz:i.zero=some (.int .u8 0))
  (D:i.size=1) (H:i.bytes=1) (v:Value) (b:ad) (C:Nat→Prop) (q:jC e v b C w) (ys:ad) (l c:Nat) (U:TypeId) (T:Nat×Nat)
  (hb:w.heap[l]?=some (.cells (strCells ys).toArray U T)) (V:b.size+ys.size≤140737488355328) :
  ∃G w',(cR #[t,t] ty #[v,.slice (some ⟨l,0,none⟩) ys.size c]).run P w=.ok G w'∧∃C',jC e G (b++ys) C' w'∧cJ C C' w w':=by
 obtain⟨q,rfl⟩:=q
 have M:(strCells ys).length=ys.size*1:=by rw[strCells_length];omega
 have E:∀j u,(strCells ys)[j]?=some u→w.cell? ((⟨l,0,none⟩:Addr).add j)=some u:=by
  intro j u hu
  have I:(⟨l,0,none⟩:Addr).add j=⟨l,j,none⟩:=by unfold qa;split<;>simp_all
  rw[I,oY hb (v:=u) (by simpa using hu)]
 obtain⟨G,w',hr,r1,r2,_⟩:=run_append_own (P:=P) w 0 t ty e i (.int .u8 0) 1 1 ht hi hz D H rfl (by omega) v b.size (strCells b) q ⟨l,0,none⟩ ys.size c (strCells ys) M E (strCells_oneCell ys) (by simp[maxLen];omega) (by omega) (bG _)
 have J:=Cw (P:=P) w 0 t ty e i (.int .u8 0) 1 1 ht hi hz D H v b.size (strCells b) q ⟨l,0,none⟩ ys.size c (strCells ys) M E (strCells_oneCell ys) (by simp[maxLen];omega) (by omega) hr
 have O:w'.ownsRow 0 e 1 G (b++ys).size (strCells (b++ys)):=by rw[F7,aE];exact r1
 exact⟨G,w',hr,_,⟨O,rfl⟩,Aa r2 J (fun g hg=>(fl O g hg).2)⟩
def jD (o:Oper):List Nat:=(o.after.toList.filter (Region.binds .any)).map (·.on)
def gi (F:Fence) (n:Nat) (P:Program) (ops:Array Oper) (Q:Exit→Act→World→Prop) (Inv:(Nat→Prop)→Act→World→Prop):List Oper→Nat→Prop
 |[],_=>True
 |o::rest,i=>(∀D a w,¬D i→(∀j∈jD o,D j)→Inv D a w→wpListIn F n P ops (_root_.Go.Exit.then (Inv (fun j=>D j∨j=i)) Q) [o] a w)∧gi F n P ops Q Inv rest (i+1)
theorem gi.get {ops:Array Oper} {Q:Exit→Act→World→Prop} {Inv:(Nat→Prop)→Act→World→Prop}:∀ {l:List Oper} {k:Nat},gi F n P ops Q Inv l k→∀i o,l[i]?=some o →
  (∀D a w,¬D (k+i)→(∀j∈jD o,D j)→Inv D a w→wpListIn F n P ops (_root_.Go.Exit.then (Inv (fun j=>D j∨j=k+i)) Q) [o] a w)
 |[],_,_,i,o,ho=>by simp at ho
 |x::l,k,h,0,o,ho=>by simp at ho;subst ho;exact h.1
 |x::l,k,h,i+1,o,ho=>by
  have:=gi.get h.2 i o (by simpa using ho)
  rwa [show k+1+i=k+(i+1) by omega] at this
theorem qN {ops:Array Oper} {Q:Exit→Act→World→Prop} {o:Oper} {K E:Act→World→Prop} {a:Act} {w:World} (h:∀a w,K a w→E a w)
  (l:wpListIn F n P ops (_root_.Go.Exit.then K Q) [o] a w):wpListIn F n P ops (_root_.Go.Exit.then E Q) [o] a w:=by
 simp only[wpListIn] at l ⊢
 split
 ·rename_i D
  rw[am D] at l
  unfold pn at l ⊢
  refine⟨l.1,?_⟩
  have l:=l.2
  generalize (o.semAt F.round a.eval).run P w=r at *
  cases r with
  |ok x w'=>
   cases x<;>simp only[gG] at l ⊢ <;>
    first
     |exact h _ _ l
     |exact⟨l.1,ls l.2 (fun e q he=>by cases e<;>first | exact h _ _ he | exact he)⟩
     |exact⟨l.1,mz l.2 (fun _ _ he=>h _ _ he)⟩
     |exact⟨l.1,lu l.2 (fun e q he=>by cases e<;>first | exact h _ _ he | exact he)⟩
     |exact l
  |halt x w'=>cases x<;>simp only[gG] at l ⊢<;>exact l
 ·rename_i D
  rw[aj D] at l
  exact⟨l.1,h _ _ l.2⟩
theorem Mc {ops:Array Oper} {Q:Exit→Act→World→Prop} {i:Nat} {o:Oper} {K:Act→World→Prop} {a:Act} {w:World} (E:ops[i]?=some o)
  (h:wpListIn F n P ops (_root_.Go.Exit.then K Q) [o] a w):wpOpIn F n P ops Q i K a w:=by
 unfold wpOpIn
 rw[E]
 simp only[wpListIn] at h
 show (if _ then _ else _)
 split
 ·rename_i D
  rw[am D] at h
  have l:=h
  unfold pn at l ⊢
  refine⟨l.1,?_⟩
  have l:=l.2
  generalize (o.semAt F.round a.eval).run P w=r at *
  cases r with
  |ok x w'=>
   cases x<;>simp only[gG] at l ⊢ <;>
    first
     |exact l
     |exact⟨l.1,ls l.2 (fun e q he=>by cases e<;>exact he)⟩
     |exact⟨l.1,mz l.2 (fun _ _ he=>he)⟩
     |exact⟨l.1,lu l.2 (fun e q he=>by cases e<;>exact he)⟩
  |halt x w'=>cases x<;>simp only[gG] at l ⊢<;>exact l
 ·rename_i D
  rw[aj D] at h
  exact h
theorem Md (m j:Nat):(fj m false).getD j false=false:=by
 simp only[fe];split<;>simp
theorem F9:∀ (l:List Bool) (i:Nat),l[i]?=some false→((l.set i true).filter id).length=(l.filter id).length+1
 |[],i,h=>by simp at h
 |x::l,0,h=>by simp at h;subst h;simp
 |x::l,i+1,h=>by
  have:=F9 l i (by simpa using h)
  cases x<;>simp[this]
theorem Me (A:Array Bool) (i:Nat) (l:i<A.size) (h:A.getInternal i l=false):((A.setIfInBounds i true).toList.filter id).length=(A.toList.filter id).length+1:=by
 rw[Array.toList_setIfInBounds]
 refine F9 _ _ ?_
 have q:A[i]=false:=h
 simp[l,q]
theorem Mf {ops:Array Oper} {Q:Exit→Act→World→Prop} {Inv:(Nat→Prop)→Act→World→Prop}
  (I:(ops.toList.zipIdx.all fun (o,i)=>(jD o).all fun j=>decide (j<i))=true) (Y:gi F n P ops Q Inv ops.toList 0)
  (G:∀D a w,(∀i<ops.size,D i)→Inv D a w→Q .normal a w):∀ (zbx:Nat) (l:Array Bool) (a:Act) (w:World),
  l.size=ops.size→(ops.size≤zbx+(l.toList.filter id).length)→Inv (fun j=>l.getD j false=true) a w→wpAnyIn F n P .any ops Q zbx l a w:=by
 have T:∀ (l:Array Bool),l.size=ops.size→Region.ready .any ops l=[]→∀i<ops.size,l.getD i false=true:=by
  intro l hsz hr i
  induction i using Nat.strongRecOn with
  |_ i W=>
   intro hi
   rcases hb:l.getD i false with _|_
   ·exfalso
    have a2:l.getD i true=false:=by
     have I:i<l.size:=by omega
     simp only[fe,I,dif_pos] at hb ⊢
     exact hb
    have:i∈Region.ready .any ops l:=by
     refine mem_ready.2 ⟨a2,ops[i],ep hi,fun e he a1=>?_⟩
     have h1:=bd.1 I (ops[i],i) (by
      rw[List.mem_zipIdx_iff_getElem?];simp[ep hi])
     have h2:=bd.1 h1 e.on (by
      unfold jD
      exact aU.2 ⟨e,cq.2 ⟨by simpa using he,a1⟩,rfl⟩)
     have h3:e.on<i:=by simpa using h2
     exact W e.on h3 (by omega)
    rw[hr] at this
    cases this
   ·rfl
 intro zbx
 induction zbx with
 |zero=>
  intro l a w hsz hf hi
  have ag:(l.toList.filter id).length=l.toList.length:=by
   have:=List.length_filter_le id l.toList
   simp only[cU] at *
   omega
  have hall:∀b∈l.toList,id b=true:=List.length_filter_eq_length_iff.1 ag
  have q:∀i<ops.size,l.getD i false=true:=by
   intro i hi
   have E:i<l.size:=by omega
   simp only[fe,E,dif_pos]
   exact hall _ (by simp)
  refine⟨?_,G _ a w q hi⟩
  refine List.eq_nil_iff_forall_not_mem.2 fun i hm=>?_
  have:=(mem_ready.1 hm).1
  have h2:i<ops.size:=by
   obtain⟨o,O,_⟩:=(mem_ready.1 hm).2
   exact (c9.1 O).1
  have h3:=q i h2
  have E:i<l.size:=by omega
  simp only[fe,E,dif_pos] at this h3
  have h4:l[i]=false:=this
  have h5:l[i]=true:=h3
  rw[h4] at h5;cases h5
 |succ zbx W=>
  intro l a w hsz hf hi
  refine⟨fun hr=>G _ a w (T l hsz hr) hi,fun i hm=>?_⟩
  obtain⟨J,o,O,V⟩:=mem_ready.1 hm
  have a3:i<ops.size:=(c9.1 O).1
  have E:i<l.size:=by omega
  have Z:¬l.getD i false=true:=by
   simp only[fe,E,dif_pos] at J ⊢
   show ¬l[i]=true
   have h4:l[i]=false:=J
   rw[h4];simp
  have H:=Y.get i o (by simpa using O) (fun j=>l.getD j false=true) a w (by simpa using Z) (fun j hj=>by
   obtain⟨e,he,rfl⟩:=aU.1 (show j∈((o.after.toList.filter (Region.binds .any)).map (·.on)) from hj)
   obtain⟨a0,aw⟩:=cq.1 he
   exact V e (by simpa using a0) aw) hi
  refine wpOpIn_mono (fun a' w' U=>?_) (Mc O H)
  refine W _ a' w' (by simp[hsz]) ?_ ?_
  ·have h1:=Me l i E (by simpa only[fe,E,dif_pos] using J)
   omega
  ·have he:(fun j=>(l.setIfInBounds i true).getD j false=true)=(fun j=>l.getD j false=true∨j=0+i):=by
    funext j
    apply propext
    by_cases M:j=i
    ·subst M
     simp[fe,E]
    ·have ao:i≠j:=fun h=>M h.symm
     simp only[cf,M,or_false]
     rw[getD_set_ne false ao]
   rw[he]
   exact U
theorem Cx {id:Nat} {ops:Array Oper} {Q:Exit→Act→World→Prop} {a:Act} {w:World} (hm:P.follows .mixedOrders=true)
  (E:(ops.toList.zipIdx.all fun (o,i)=>(jD o).all fun j=>decide (j<i))=true)
  (Inv:(Nat→Prop)→Act→World→Prop) (h0:Inv (fun _=>False) a w.drew) (q:gi F n P ops Q Inv ops.toList 0)
  (l:∀D a w,(∀i<ops.size,D i)→Inv D a w→Q .normal a w):(Code.region id ops true).wpIn F n P Q a w:=by
 refine wpIn_region_any hm (Mf E q l ops.size _ a _ (by simp) (by omega) ?_)
 have he:(fun j=>(fj ops.size false).getD j false=true)=(fun _=>False):=by
  funext j
  rw[Md];simp
 rw[he]
 exact h0
def Clo (ops:Array Oper) (D:Nat→Prop):Prop:=∀i o,ops[i]?=some o→D i→∀j∈jD o,D j
theorem Clo.add {ops:Array Oper} {D:Nat→Prop} {i:Nat} {o:Oper} (h:Clo ops D) (E:ops[i]?=some o) (hd:∀j∈jD o,D j):Clo ops (fun j=>D j∨j=i):=by
 intro k q l hk j hj
 rcases hk with hk|rfl
 ·exact .inl (h k q l hk j hj)
 ·rw[E] at l;cases l;exact .inl (hd j hj)
end
structure Asn where
 P:(Nat→Prop)→World→Prop
 lt:∀ {C w},P C w→∀k,C k→k<w.heap.size
 loc:∀ {C w w'},P C w→w.heap.size≤w'.heap.size→(∀k,C k→w'.heap[k]?=w.heap[k]?)→P C w'
def cE:Asn:=⟨fun C _=>∀k,¬C k,fun h k hk=>absurd hk (h k),fun h _ _=>h⟩
def obj (b:Nat) (o:Obj):Asn :=
 ⟨fun C w=>(∀k,C k↔k=b)∧w.heap[b]?=some o,fun h k hk=>(h.1 k).1 hk▸lX h.2,fun h _ hk=>⟨h.1,(hk b ((h.1 b).2 rfl)).trans h.2⟩⟩
def cells (b:Nat) (l:List Value) (t:TypeId):Asn:=obj b (.cells l.toArray t (0,0))
def zDE (p:Prop):Asn:=⟨fun C _=>(∀k,¬C k)∧p,fun h k hk=>absurd hk (h.1 k),fun h _ _=>h⟩
def aO:List Asn→(Nat→Prop)→World→Prop
 |[],C,_=>∀k,¬C k
 |A::L,C,w=>∃C1 C2,A.P C1 w∧aO L C2 w∧(∀k,C1 k→¬C2 k)∧(∀k,C k↔C1 k∨C2 k)
theorem aO.lt:∀ {L:List Asn} {C:Nat→Prop} {w:World},aO L C w→∀k,C k→k<w.heap.size
 |[],C,w,h,k,hk=>absurd hk (h k)
 |A::L,C,w,⟨C1,C2,h1,h2,_,h4⟩,k,hk=>by
  rcases (h4 k).1 hk with h|h
  ·exact A.lt h1 k h
  ·exact aO.lt h2 k h
theorem aO.loc:∀ {L:List Asn} {C:Nat→Prop} {w w':World},aO L C w→w.heap.size≤w'.heap.size→(∀k,C k→w'.heap[k]?=w.heap[k]?)→aO L C w'
 |[],C,w,w',h,_,_=>h
 |A::L,C,w,w',⟨C1,C2,h1,h2,h3,h4⟩,hs,hk=>
  ⟨C1,C2,A.loc h1 hs (fun k h=>hk k ((h4 k).2 (.inl h))),aO.loc h2 hs (fun k h=>hk k ((h4 k).2 (.inr h))),h3,h4⟩
theorem aO.congr {L:List Asn} {C C':Nat→Prop} {w:World} (h:aO L C w) (hc:∀k,C' k↔C k):aO L C' w:=by
 have:C'=C:=funext fun k=>propext (hc k)
 rw[this];exact h
def ziH (L:List Asn):Asn:=⟨aO L,aO.lt,aO.loc⟩
def aq (L As R:List Asn):Prop:=∀C w,aO L C w→∃C1 C2,aO As C1 w∧aO R C2 w∧(∀k,C1 k→¬C2 k)∧(∀k,C k↔C1 k∨C2 k)
theorem aO.take:∀ {L:List Asn} {k:Nat} {A:Asn} {C:Nat→Prop} {w:World},L[k]?=some A→aO L C w →
  ∃C1 C2,A.P C1 w∧aO (L.set k cE) C2 w∧(∀k,C1 k→¬C2 k)∧(∀k,C k↔C1 k∨C2 k)
 |B::L,0,A,C,w,hk,⟨C1,C2,h1,h2,h3,h4⟩=>by
  simp at hk;subst hk
  exact⟨C1,C2,h1,⟨fun _=>False,C2,fun _ h=>h,h2,fun _ h=>h.elim,fun k=>by simp⟩,h3,h4⟩
 |B::L,k+1,A,C,w,hk,⟨C1,C2,h1,h2,h3,h4⟩=>by
  obtain⟨D,l,g1,g2,q,g4⟩:=aO.take (L:=L) (k:=k) (by simpa using hk) h2
  refine⟨D,fun j=>C1 j∨l j,g1,⟨C1,l,h1,g2,fun j h h'=>h3 j h ((g4 j).2 (.inr h')),fun j=>_root_.Iff.rfl⟩,fun j h h'=>?_,fun j=>?_⟩
  ·rcases h' with h'|h'
   ·exact h3 j h' ((g4 j).2 (.inl h))
   ·exact q j h h'
  ·rw[h4,g4];exact or_left_comm
theorem aO.put:∀ {L:List Asn} {k:Nat} {A:Asn} {C1 C2 C:Nat→Prop} {w:World},k<L.length→A.P C1 w→aO (L.set k cE) C2 w→(∀k,C1 k→¬C2 k)→(∀k,C k↔C1 k∨C2 k)→aO (L.set k A) C w
 |B::L,0,A,C1,C2,C,w,hk,hA,⟨D1,D2,g1,g2,g3,g4⟩,h3,h4=>by
  have e:∀k,C2 k↔D2 k:=fun k=>by rw[g4];constructor;exact fun h=>h.resolve_left (g1 k);exact .inr
  exact⟨C1,C2,hA,g2.congr e,h3,h4⟩
 |B::L,k+1,A,C1,C2,C,w,hk,hA,⟨D1,D2,g1,g2,g3,g4⟩,h3,h4=>by
  refine⟨D1,fun j=>C1 j∨D2 j,g1,aO.put (L:=L) (k:=k) (by simpa using hk) hA g2 (fun j h h'=>h3 j h ((g4 j).2 (.inr h'))) (fun j=>_root_.Iff.rfl),fun j h h'=>?_,fun j=>?_⟩
  ·rcases h' with h'|h'
   ·exact h3 j h' ((g4 j).2 (.inl h))
   ·exact g3 j h h'
  ·rw[h4,g4];exact or_left_comm
theorem aq.nil {L:List Asn}:aq L [] L:=fun C w h=>⟨fun _=>False,C,fun _ h=>h,h,fun _ h=>h.elim,fun k=>by simp⟩
theorem aq.cons {L As R:List Asn} {k:Nat} {A:Asn} (hk:L[k]?=some A) (h:aq (L.set k cE) As R):aq L (A::As) R:=by
 intro C w hL
 obtain⟨C1,C2,h1,h2,h3,q⟩:=aO.take hk hL
 obtain⟨l,E,g1,g2,D,g4⟩:=h C2 w h2
 refine⟨fun j=>C1 j∨l j,E,⟨C1,l,h1,g1,fun j h h'=>h3 j h ((g4 j).2 (.inl h')),fun j=>_root_.Iff.rfl⟩,g2,fun j h h'=>?_,fun j=>?_⟩
 ·rcases h with h|h
  ·exact h3 j h ((g4 j).2 (.inr h'))
  ·exact D j h h'
 ·rw[q,g4,or_assoc]
theorem Mg {L As Bs R:List Asn} {k:Nat} (hk:L[k]?=some (ziH As)) (h:aq (L.set k cE) Bs R):aq L (As++Bs) R:=by
 intro C w hL
 obtain⟨C1,C2,h1,h2,h3,H⟩:=aO.take hk hL
 obtain⟨E,D,g1,g2,l,g4⟩:=h C2 w h2
 have q:∀ {A B:List Asn} {C1 C2:Nat→Prop} {w:World},aO A C1 w→aO B C2 w→(∀k,C1 k→¬C2 k)→aO (A++B) (fun k=>C1 k∨C2 k) w:=by
  intro A
  induction A with
  |nil=>intro B C1 C2 w h1 h2 h3;exact h2.congr (fun k=>⟨fun h=>h.resolve_left (h1 k),.inr⟩)
  |cons A L G=>
   rintro B C1 C2 w ⟨E,D,g1,g2,l,g4⟩ h2 h3
   exact⟨E,fun k=>D k∨C2 k,g1,G g2 h2 (fun k h=>h3 k ((g4 k).2 (.inr h))),fun k h h'=>h'.elim (l k h) (h3 k ((g4 k).2 (.inl h))),fun k=>by show C1 k∨C2 k↔_;rw[g4,or_assoc]⟩
 refine⟨fun j=>C1 j∨E j,D,q h1 g1 (fun j h h'=>h3 j h ((g4 j).2 (.inl h'))),g2,fun j h h'=>?_,fun j=>?_⟩
 ·rcases h with h|h
  ·exact h3 j h ((g4 j).2 (.inr h'))
  ·exact l j h h'
 ·rw[H,g4,or_assoc]
theorem qo {L As:List Asn} {k:Nat} (hk:L[k]?=some (ziH As)):aq L As (L.set k cE):=by
 have:=Mg hk aq.nil
 rwa [aH] at this
theorem aq.consS {L As Bs q R:List Asn} (h1:aq L As q) (h2:aq q Bs R):aq L (ziH As::Bs) R:=by
 intro C w hL
 obtain⟨C1,C2,a1,a2,l,G⟩:=h1 C w hL
 obtain⟨D,H,g1,g2,E,g4⟩:=h2 C2 w a2
 refine⟨fun j=>C1 j∨D j,H,⟨C1,D,a1,g1,fun j h h'=>l j h ((g4 j).2 (.inl h')),fun j=>_root_.Iff.rfl⟩,g2,fun j h h'=>?_,fun j=>?_⟩
 ·rcases h with h|h
  ·exact l j h ((g4 j).2 (.inr h'))
  ·exact E j h h'
 ·rw[G,g4,or_assoc]
def xF (L:List Asn):List Nat→List Asn
 |[]=>L
 |k::ks=>xF (L.set k cE) ks
def oZ (L:List Asn):List Nat→Option (List Asn)
 |[]=>some []
 |k::ks=>match L[k]?,oZ L ks with
  |some A,some As=>some (A::As)
  |_,_=>none
def sy:List Nat→Bool
 |[]=>true
 |k::ks=>!ks.contains k&&sy ks
theorem Cy {L:List Asn} {k:Nat} {B:Asn}:∀ {ks:List Nat},ks.contains k=false→oZ (L.set k B) ks=oZ L ks
 |[],_=>rfl
 |j::ks,h=>by
  simp only[gC,bL] at h
  have l:k≠j:=by have:=h.1;simp at this;exact this
  simp only[oZ,Cy (ks:=ks) h.2,qF l]
theorem bW {L As:List Asn}:∀ (ks:List Nat),oZ L ks=some As→sy ks=true→aq L As (xF L ks):=by
 intro ks
 induction ks generalizing L As with
 |nil=>intro h _;simp only[oZ,fQ] at h;subst h;exact aq.nil
 |cons k ks l=>
  intro h hd
  simp only[sy,aQ,cK] at hd
  simp only[oZ] at h
  split at h
  ·rename_i A q h1 h2
   cases h
   exact aq.cons h1 (l (by rw[Cy hd.1];exact h2) hd.2)
  ·cases h
theorem aO.append:∀ {A B:List Asn} {C1 C2:Nat→Prop} {w:World},aO A C1 w→aO B C2 w→(∀k,C1 k→¬C2 k)→aO (A++B) (fun k=>C1 k∨C2 k) w
 |[],B,C1,C2,w,h1,h2,h3=>h2.congr (fun k=>⟨fun h=>h.resolve_left (h1 k),.inr⟩)
 |A::L,B,C1,C2,w,⟨D1,D2,g1,g2,g3,g4⟩,h2,h3=>
  ⟨D1,fun k=>D2 k∨C2 k,g1,aO.append g2 h2 (fun k h=>h3 k ((g4 k).2 (.inr h))),fun k h h'=>h'.elim (g3 k h) (h3 k ((g4 k).2 (.inl h))),fun k=>by show C1 k∨C2 k↔_;rw[g4,or_assoc]⟩
def Holds (w0:World) (K:Nat→Prop) (L:List Asn) (w:World):Prop:=∃C,aO L C w∧cJ K C w0 w
section
variable {w0 w w':World} {K:Nat→Prop} {L As R:List Asn} {A B:Asn} {k:Nat}
theorem Holds.split (h:Holds w0 K L w) (E:aq L As R):∃C1,aO As C1 w∧∀Bs l w',cJ C1 l w w'→aO Bs l w'→Holds w0 K (R++Bs) w':=by
 obtain⟨C,hL,hx⟩:=h
 obtain⟨C1,C2,h1,h2,h3,q⟩:=E C w hL
 refine⟨C1,h1,fun Bs l w' he hB=>?_⟩
 have hsz:=he.1.size
 have D:aO R C2 w':=h2.loc hsz (fun k hk=>he.1.keep k (h2.lt k hk) (fun h=>h3 k h hk))
 have hd:∀k,C2 k→¬l k:=fun k hk h'=>by
  rcases he.2 k h' with h|h
  ·exact h3 k h hk
  ·have:=h2.lt k hk;omega
 refine⟨_,D.append hB hd,hx.1.trans' he.1 (fun i hi hc=>?_),fun k hk=>?_⟩
 ·rcases hx.2 i ((q i).2 (.inl hc)) with h|h
  ·exact h
  ·omega
 ·have:=hx.1.size
  rcases hk with hk|hk
  ·rcases hx.2 k ((q k).2 (.inr hk)) with h|h
   ·exact .inl h
   ·exact .inr (by omega)
  ·rcases he.2 k hk with h|h
   ·rcases hx.2 k ((q k).2 (.inl h)) with h|h
    ·exact .inl h
    ·exact .inr (by omega)
   ·exact .inr (by omega)
theorem Holds.splitX (h:Holds w0 K L w) (E:aq L As R):∃C1,cJ K C1 w0 w∧aO As C1 w∧∀Bs l w',cJ C1 l w w'→aO Bs l w'→Holds w0 K (R++Bs) w':=by
 obtain⟨C,hL,hx⟩:=h
 obtain⟨C1,C2,h1,h2,h3,q⟩:=E C w hL
 refine⟨C1,⟨hx.1,fun k hk=>hx.2 k ((q k).2 (.inl hk))⟩,h1,fun Bs l w' he hB=>?_⟩
 have hsz:=he.1.size
 have D:aO R C2 w':=h2.loc hsz (fun k hk=>he.1.keep k (h2.lt k hk) (fun h=>h3 k h hk))
 have hd:∀k,C2 k→¬l k:=fun k hk h'=>by
  rcases he.2 k h' with h|h
  ·exact h3 k h hk
  ·have:=h2.lt k hk;omega
 refine⟨_,D.append hB hd,hx.1.trans' he.1 (fun i hi hc=>?_),fun k hk=>?_⟩
 ·rcases hx.2 i ((q i).2 (.inl hc)) with h|h
  ·exact h
  ·omega
 ·have:=hx.1.size
  rcases hk with hk|hk
  ·rcases hx.2 k ((q k).2 (.inr hk)) with h|h
   ·exact .inl h
   ·exact .inr (by omega)
  ·rcases he.2 k hk with h|h
   ·rcases hx.2 k ((q k).2 (.inl h)) with h|h
    ·exact .inl h
    ·exact .inr (by omega)
   ·exact .inr (by omega)
theorem Holds.focus (h:Holds w0 K L w) (hk:L[k]?=some A):∃C1,A.P C1 w∧∀B l w',cJ C1 l w w'→B.P l w'→Holds w0 K (L.set k B) w':=by
 obtain⟨C,hL,hx⟩:=h
 obtain⟨C1,C2,h1,h2,h3,D⟩:=aO.take hk hL
 refine⟨C1,h1,fun B l w' he hB=>?_⟩
 have q:k<L.length:=(au.1 hk).1
 have hsz:=he.1.size
 have E:aO (L.set k cE) C2 w':=h2.loc hsz (fun k hk=>he.1.keep k (h2.lt k hk) (fun h=>h3 k h hk))
 have hd:∀k,l k→¬C2 k:=fun k h' hk=>by
  rcases he.2 k h' with h|h
  ·exact h3 k h hk
  ·have:=h2.lt k hk;omega
 refine⟨_,aO.put q hB E hd (fun k=>_root_.Iff.rfl),hx.1.trans' he.1 (fun i hi hc=>?_),fun k hk=>?_⟩
 ·rcases hx.2 i ((D i).2 (.inl hc)) with h|h
  ·exact h
  ·omega
 ·have:=hx.1.size
  rcases hk with hk|hk
  ·rcases he.2 k hk with h|h
   ·rcases hx.2 k ((D k).2 (.inl h)) with h|h
    ·exact .inl h
    ·exact .inr (by omega)
   ·exact .inr (by omega)
  ·rcases hx.2 k ((D k).2 (.inr hk)) with h|h
   ·exact .inl h
   ·exact .inr (by omega)
theorem Holds.obj {b:Nat} {o:Obj} (h:Holds w0 K L w) (hk:L[k]?=some (obj b o)):w.heap[b]?=some o:=by
 obtain⟨C1,h1,_⟩:=h.focus hk;exact h1.2
theorem Holds.cell {b j:Nat} {l:List Value} {t:TypeId} {v:Value} (h:Holds w0 K L w) (hk:L[k]?=some (cells b l t)) (hj:l[j]?=some v):w.cell? ⟨b,j,none⟩=some v :=
 oY (h.obj hk) (by simpa using hj)
theorem Holds.drew (h:Holds w0 K L w):Holds w0 K L w.drew:=by
 obtain⟨C,h1,h2⟩:=h
 exact⟨C,h1.loc (bq _) (fun _ _=>rfl),h2.drew⟩
theorem Holds.grow {Bs:List Asn} {C':Nat→Prop} (h:Holds w0 K L w) (hx:cJ (fun _=>False) C' w w') (hB:aO Bs C' w'):Holds w0 K (L++Bs) w':=by
 obtain⟨C1,h1,h2⟩:=h.split (aq.nil (L:=L))
 exact h2 Bs C' w' (by
  have:C1=fun _=>False:=funext fun k=>propext ⟨fun h=>absurd h (h1 k),fun h=>h.elim⟩
  rw[this];exact hx) hB
theorem aO.one {C:Nat→Prop} (h:A.P C w):aO [A] C w:=⟨C,fun _=>False,h,fun _ h=>h,fun _ _ h=>h,fun k=>by simp⟩
theorem Holds.alloc (h:Holds w0 K L w) (o:Obj):Holds w0 K (L++[Go.Proofs.YtifpjbgnikjglaaGreatDoor.obj w.heap.size o]) (w.alloc o):=by
 refine h.grow (C':=fun k=>k=w.heap.size) ⟨(Fr.refl _ _).alloc _,fun k hk=>.inr ⟨by omega,by simp;omega⟩⟩ (aO.one ⟨fun k=>_root_.Iff.rfl,eV w o⟩)
theorem Holds.setCell {b j:Nat} {l l':List Value} {t:TypeId} {v:Value} (h:Holds w0 K L w) (hk:L[k]?=some (cells b l t)) (q:l.set j v=l'):Holds w0 K (L.set k (cells b l' t)) (w.setCell ⟨b,j,none⟩ v):=by
 obtain⟨C1,h1,h2⟩:=h.focus hk
 refine h2 _ C1 _ ((cJ.refl _ _).setCell ((h1.1 b).2 rfl) v) ⟨h1.1,?_⟩
 subst q
 have:=h1.2
 simp[l9,this,Array.getElem?_modify]
theorem Holds.weaken {L':List Asn} (h:Holds w0 K L w) (l:aq L L' R):Holds w0 K L' w:=by
 obtain⟨C,hL,hx⟩:=h
 obtain⟨C1,C2,h1,h2,h3,q⟩:=l C w hL
 exact⟨C1,h1,hx.1,fun k hk=>hx.2 k ((q k).2 (.inl hk))⟩
def pF (A B:Asn):Prop:=∀C w,A.P C w→B.P C w
theorem Holds.ent (h:Holds w0 K L w) (hk:L[k]?=some A) (he:pF A B):Holds w0 K (L.set k B) w:=by
 obtain⟨C1,h1,h2⟩:=h.focus hk
 exact h2 B C1 w (cJ.refl _ _) (he _ _ h1)
theorem Holds.rewE {l:Asn} (h:Holds w0 K L w) (hk:L[k]?=some A) (he:A=l):Holds w0 K (L.set k l) w:=by
 subst he
 obtain⟨C1,h1,h2⟩:=h.focus hk
 exact h2 A C1 w (cJ.refl _ _) h1
theorem Holds.starCons {j:Nat} {X:List Asn} (h:Holds w0 K L w) (hk:L[k]?=some A) (hj:L[j]?=some (ziH X)) (q:k≠j):Holds w0 K ((L.set k cE).set j (ziH (A::X))) w:=by
 obtain⟨C,hL,hx⟩:=h
 obtain⟨C1,C2,h1,h2,h3,E⟩:=aO.take hk hL
 have l:(L.set k cE)[j]?=some (ziH X):=by rw[qF q];exact hj
 obtain⟨D,H,g1,g2,G,g4⟩:=aO.take l h2
 refine⟨C,aO.put (C1:=fun i=>C1 i∨D i) (C2:=H) (au.1 l).1 ⟨C1,D,h1,g1,fun i a b=>h3 i a ((g4 i).2 (.inl b)),fun i=>_root_.Iff.rfl⟩ g2 (fun i a b=>?_) (fun i=>?_),hx⟩
 ·rcases a with a|a
  ·exact h3 i a ((g4 i).2 (.inr b))
  ·exact G i a b
 ·rw[E,g4,or_assoc]
theorem Holds.star0 (h:Holds w0 K L w):Holds w0 K (L++[ziH []]) w:=by
 obtain⟨C,hL,hx⟩:=h
 exact⟨_,hL.append (aO.one (A:=ziH []) (C:=fun _=>False) (fun _ h=>h)) (fun _ _ h=>h),hx.1,fun k hk=>hx.2 k (hk.resolve_right (fun h=>h))⟩
end
def At (N:Nat) (dfs:List Deferred) (σ:List (Nat×Value)) (a:Act):Prop:=a.tmps.size=N∧a.defers=dfs∧∀t v,σ.lookup t=some v→a.tmps.getD t undef=v
def ev (σ:List (Nat×Value)):Operand→Option Value
 |.tmp t=>σ.lookup t
 |.const v=>some v
 |.func f=>some (.func (.func f) #[] #[])
 |.global _=>none
theorem At.ev {N:Nat} {dfs:List Deferred} {σ:List (Nat×Value)} {a:Act} (h:At N dfs σ a) {x:Operand} {v:Value} (hx:ev σ x=some v):a.eval x=v:=by
 cases x<;>simp[Go.Proofs.YtifpjbgnikjglaaGreatDoor.ev] at hx
 ·exact h.2.2 _ _ hx
 ·exact hx
 ·exact hx
theorem At.put {N:Nat} {dfs:List Deferred} {σ:List (Nat×Value)} {a:Act} (h:At N dfs σ a) {d:Nat} (hd:d<N) (v:Value):At N dfs ((d,v)::σ) (a.put (some d) v):=by
 refine⟨by simp[Act.put,h.1],h.2.1,fun t u ht=>?_⟩
 simp only[dM] at ht
 split at ht
 ·rename_i e
  have:t=d:=by simpa using e
  subst this;cases ht
  have h1:=h.1
  simp[Act.put,fe,h1,hd]
 ·rename_i e
  have:t≠d:=by simpa using e
  rw[←h.2.2 t u ht]
  have D:¬d=t:=fun h=>this h.symm
  show (a.tmps.setIfInBounds d v).getD t undef=_
  by_cases q:t<a.tmps.size
  ·have l:t<(a.tmps.setIfInBounds d v).size:=by simpa using q
   unfold fe
   rw[dif_pos l,dif_pos q]
   show (a.tmps.setIfInBounds d v)[t]=a.tmps[t]
   exact Array.getElem_setIfInBounds_ne q D
  ·have l:¬t<(a.tmps.setIfInBounds d v).size:=by simpa using q
   unfold fe
   rw[dif_neg l,dif_neg q]
def qO (σ σ':List (Nat×Value)):Prop:=∀a N dfs,At N dfs σ a→At N dfs σ' a
theorem rA {σ:List (Nat×Value)}:qO σ []:=fun a N dfs h=>⟨h.1,h.2.1,fun t v ht=>by cases ht⟩
theorem CA {σ σ':List (Nat×Value)} {t:Nat} {v:Value} (h:σ.lookup t=some v) (l:qO σ σ'):qO σ ((t,v)::σ'):=fun a N dfs ha=>by
 refine⟨ha.1,ha.2.1,fun s u hu=>?_⟩
 simp only[dM] at hu
 split at hu
 ·rename_i e
  have:s=t:=by simpa using e
  subst this;cases hu
  exact ha.2.2 _ _ h
 ·exact (l a N dfs ha).2.2 s u hu
theorem Ga {σ:List (Nat×Value)}:qO σ σ:=fun a N dfs h=>h
class bu (F:Fence):Prop where
 fn:∀f,F.fn f
 depth:F.depth=none
 calls:∀ {P:Program} {f:FuncId} {args:Array Value} {w:World} {R:Ending→World→Prop},Calls P f args w R→CallsIn F 0 P f args w R
 rounds:∀ {P:Program} {l:Nat} {f:FuncId} {tmps:Array Value} {assign body:Code} {w:World} {R:Ending→World→Prop},RoundIn bF 0 P l f tmps assign body w R→RoundIn F 0 P l f tmps assign body w R
instance:bu bF:=⟨fun _=>trivial,rfl,fun h=>callsIn_wide.2 h,fun h=>h⟩
instance (l:Nat):bu (Fence.wide.inRound l):=⟨fun _=>trivial,rfl,fun h=>CallsIn.inRound l (callsIn_wide.2 h),fun h=>h⟩
def TO (F:Fence) (P:Program) (w0:World) (K:Nat→Prop) (N:Nat) (dfs:List Deferred) (ops:Array Oper) (Q:Exit→Act→World→Prop) (rest:List Oper) (σ:List (Nat×Value)) (L:List Asn):Prop :=
 ∀a w,At N dfs σ a→Holds w0 K L w→wpListIn F 0 P ops Q rest a w
def TC (F:Fence) (P:Program) (w0:World) (K:Nat→Prop) (N:Nat) (dfs:List Deferred) (Q:Exit→Act→World→Prop) (c:Code) (σ:List (Nat×Value)) (L:List Asn):Prop :=
 ∀a w,At N dfs σ a→Holds w0 K L w→c.wpIn F 0 P Q a w
def TX (w0:World) (K:Nat→Prop) (N:Nat) (dfs:List Deferred) (Q:Exit→Act→World→Prop) (e:Exit) (σ:List (Nat×Value)) (L:List Asn):Prop :=
 ∀a w,At N dfs σ a→Holds w0 K L w→Q e a w
def St (w0:World) (K:Nat→Prop) (N:Nat) (dfs:List Deferred) (σ:List (Nat×Value)) (L:List Asn) (a:Act) (w:World):Prop:=At N dfs σ a∧Holds w0 K L w
def gd (ops:Array Oper) (σ:List (Nat×Value)):Option (Nat×Bool)→Option Bool
 |none=>some true
 |some (j,b)=>match (ops[j]?).bind (·.dst) with
  |some t=>match σ.lookup t with
   |some (.bool c)=>some (c==b)
   |some (.tuple _)=>some false
   |_=>none
  |none=>none
def lA (P:Program) (t:TypeId):Prop:=∃d,P.underlying t=some d∧d.isRow=false
def o0 (P:Program) (t:TypeId) (n:Nat):Prop:=∃d,P.underlying t=some d∧d.isRow=true∧(P.info? t).map (·.size)=some n
def bC (P:Program) (t:TypeId) (n:Nat):Prop:=(P.info? t).map (·.size)=some n
def cm (P:Program) (t:TypeId) (cs:List Value):Prop:=(P.info? t).bind (fun i=>i.zero.map (·.cells.toList))=some cs
def jy (P:Program) (t:TypeId) (f off:Nat):Prop:=∃fs l,P.underlying t=some (.struct fs)∧fs[f]?=some l∧l.offset=off∧(P.info? l.type).map (fun i=>i.size != 0)=some true
theorem bC.some {P:Program} {t:TypeId} {n:Nat} (h:bC P t n):∃i,P.info? t=some i∧i.size=n:=by
 unfold bC at h;cases hi:P.info? t with
 |none=>simp[hi] at h
 |some i=>exact⟨i,rfl,by simpa [hi] using h⟩
theorem cm.some {P:Program} {t:TypeId} {cs:List Value} (h:cm P t cs):∃i z,P.info? t=some i∧i.zero=some z∧z.cells.toList=cs:=by
 unfold cm at h;cases hi:P.info? t with
 |none=>simp[hi] at h
 |some i=>
  cases hz:i.zero with
  |none=>simp[hi,hz] at h
  |some z=>exact⟨i,z,rfl,hz,by simpa [hi,hz] using h⟩
section
variable {F:Fence} {P:Program} {w0:World} {K:Nat→Prop} {N:Nat} {dfs:List Deferred} {ops:Array Oper} {Q:Exit→Act→World→Prop} {rest:List Oper} {σ σ':List (Nat×Value)} {L L' R As Bs:List Asn} {o:Oper} {v:Value}
 {d:Nat} {t:TypeId} {op:Op} {ty:TypeId} {pos:String} {aft:Array Edge} {g:Option (Nat×Bool)} {x y z:Operand} {c c1 c2:Code} {k:Nat} {A B:Asn}
theorem Gb {a:Act} {N:Nat} (q:a.tmps.size=N) {t:Nat} {b:Bool} (h:a.tmps.getD t undef=.bool b):a.tmps[t]?=some (.bool b):=by
 unfold fe at h
 split at h
 ·rename_i l
  have h':a.tmps[t]=.bool b:=h
  simp[l,h']
 ·simp[undef] at h
theorem uv {a:Act} (ha:At N dfs σ a) (hg:gd ops σ o.guard=some true):kR o (yielded ops a.tmps)=true:=by
 unfold gd at hg
 unfold kR
 split at hg
 ·rename_i e;rw[e]
 ·rename_i j b e
  rw[e]
  split at hg
  ·rename_i t ht
   split at hg
   ·rename_i c hc
    simp only[fQ] at hg
    have l:c=b:=by simpa using hg
    subst l
    have h1:=Gb ha.1 (ha.2.2 _ _ hc)
    simp[yielded,ht,h1]
   ·cases hg
   ·cases hg
  ·cases hg
theorem Mh {a:Act} {t:Nat} {vs:Array Value} (h:a.tmps.getD t undef=.tuple vs):∀b,a.tmps[t]?≠some (.bool b):=by
 intro b hb
 rw[nw,hb] at h
 cases h
theorem Mi {a:Act} (ha:At N dfs σ a) (hg:gd ops σ o.guard=some false):kR o (yielded ops a.tmps)=false:=by
 unfold gd at hg
 unfold kR
 split at hg
 ·cases hg
 ·rename_i j b e
  rw[e]
  split at hg
  ·rename_i t ht
   split at hg
   ·rename_i c hc
    simp only[fQ] at hg
    have h1:=Gb ha.1 (ha.2.2 _ _ hc)
    simp[yielded,ht,h1]
    simpa using hg
   ·rename_i vs hc
    have h1:=Mh (ha.2.2 _ _ hc)
    have h2:yielded ops a.tmps j=none:=by
     unfold yielded
     rw[ht]
     show (match a.tmps[t]? with | some (.bool b)=>some b | _=>none)=none
     split
     ·rename_i b h3;exact absurd h3 (h1 b)
     ·rfl
    simp[h2]
   ·cases hg
  ·cases hg
theorem oi [bu F] (hg:gd ops σ o.guard=some true) (hnd:∀c,o.op≠.defer c)
  (h:∀a w,At N dfs σ a→Holds w0 K L w→∃v w',(execOp a.eval o).run P w=.ok (.value v) w'∧wpListIn F 0 P ops Q rest (a.put o.dst v) w'):TO F P w0 K N dfs ops Q (o::rest) σ L:=by
 intro a w ha l
 obtain⟨v,w',h1,h2⟩:=h a w ha l
 simp only[wpListIn,uv ha hg,if_true]
 refine⟨fun f _=>bu.fn f,?_⟩
 rw[ig F _ _ hnd,h1]
 exact h2
theorem Ab [bu F] (hg:gd ops σ o.guard=some true) (hnd:∀c,o.op≠.defer c)
  (h:∀a w,At N dfs σ a→Holds w0 K L w→∃w',(execOp a.eval o).run P w=.ok .skip w'∧wpListIn F 0 P ops Q rest (a.put o.dst undef) w'):TO F P w0 K N dfs ops Q (o::rest) σ L:=by
 intro a w ha l
 obtain⟨w',h1,h2⟩:=h a w ha l
 simp only[wpListIn,uv ha hg,if_true]
 refine⟨fun f _=>bu.fn f,?_⟩
 rw[ig F _ _ hnd,h1]
 exact h2
theorem jz [bu F] (hg:gd ops σ g=some true) (hd:d<N) (hnd:∀c,op≠.defer c)
  (hr:∀a w,At N dfs σ a→Holds w0 K L w→(execOp a.eval ⟨some d,op,ty,pos,aft,g⟩).run P w=.ok (.value v) w)
  (h:TO F P w0 K N dfs ops Q rest ((d,v)::σ) L):TO F P w0 K N dfs ops Q (⟨some d,op,ty,pos,aft,g⟩::rest) σ L :=
 oi hg hnd fun a w ha l=>⟨v,w,hr a w ha l,h _ _ (ha.put hd v) l⟩
theorem Mj [bu F] (hg:gd ops σ g=some false) (hd:d<N) (h:TO F P w0 K N dfs ops Q rest ((d,undef)::σ) L):TO F P w0 K N dfs ops Q (⟨some d,op,ty,pos,aft,g⟩::rest) σ L:=by
 intro a w ha l
 simp only[wpListIn,Mi (o:=⟨some d,op,ty,pos,aft,g⟩) ha hg]
 exact⟨fun f _=>bu.fn f,h _ _ (ha.put hd undef) l⟩
theorem zaB (h:TX w0 K N dfs Q .normal σ L):TO F P w0 K N dfs ops Q [] σ L:=fun a w ha l=>h a w ha l
theorem Gc (q:qO σ σ') (h:TO F P w0 K N dfs ops Q rest σ' L):TO F P w0 K N dfs ops Q rest σ L:=fun a w ha l=>h a w (q _ _ _ ha) l
theorem qp (hk:L[k]?=some A) (he:pF A B) (h:TO F P w0 K N dfs ops Q rest σ (L.set k B)):TO F P w0 K N dfs ops Q rest σ L:=fun a w ha l=>h a w ha (l.ent hk he)
theorem Mk (hk:L[k]?=some A) (he:pF A B) (h:TC F P w0 K N dfs Q c σ (L.set k B)):TC F P w0 K N dfs Q c σ L:=fun a w ha l=>h a w ha (l.ent hk he)
theorem CB [bu F] (hg:gd ops σ g=some true) (hd:d<N) (hx:ev σ x=some v) (h:TO F P w0 K N dfs ops Q rest ((d,v)::σ) L):TO F P w0 K N dfs ops Q (⟨some d,.move x,ty,pos,aft,g⟩::rest) σ L :=
 jz hg hd (by simp) (fun a w ha l=>by simp[execOp,ha.ev hx]) h
theorem Mn [bu F] (hg:gd ops σ g=some true) (hd:d<N) (hx:ev σ x=some v) (h:TO F P w0 K N dfs ops Q rest ((d,v)::σ) L):TO F P w0 K N dfs ops Q (⟨some d,.assign x,ty,pos,aft,g⟩::rest) σ L :=
 jz hg hd (by simp) (fun a w ha l=>by simp[execOp,ha.ev hx]) h
theorem Gd [bu F] {b:Bool} (hg:gd ops σ g=some true) (hd:d<N) (hc:ev σ x=some (.bool b)) (hv:ev σ (if b then y else z)=some v) (h:TO F P w0 K N dfs ops Q rest ((d,v)::σ) L) :
  TO F P w0 K N dfs ops Q (⟨some d,.pick x y z,ty,pos,aft,g⟩::rest) σ L :=
 jz hg hd (by simp) (fun a w ha l=>by
  have h1:=ha.ev hc
  have h2:=ha.ev hv
  cases b<;>simp_all [execOp,asBool]) h
theorem mh [bu F] {b:BinOp} {l:TypeId} {v1 v2:Value} (hg:gd ops σ g=some true) (hd:d<N) (hx:ev σ x=some v1) (hy:ev σ y=some v2)
  (hb:∀w:World,(do eqGuard b t x y v1 v2;binOp b t v1 v2:Sem Value).run P w=.ok v w) (h:TO F P w0 K N dfs ops Q rest ((d,v)::σ) L) :
  TO F P w0 K N dfs ops Q (⟨some d,.binOp b t x y l,ty,pos,aft,g⟩::rest) σ L :=
 jz hg hd (by simp) (fun a w ha q=>by
  have:=hb w
  simp only[execOp,ha.ev hx,ha.ev hy,ap] at this ⊢
  rw[this];rfl) h
theorem jW [bu F] {b:UnOp} {v1:Value} (hg:gd ops σ g=some true) (hd:d<N) (hx:ev σ x=some v1)
  (hb:∀w:World,(sn b v1).run P w=.ok v w) (h:TO F P w0 K N dfs ops Q rest ((d,v)::σ) L) :
  TO F P w0 K N dfs ops Q (⟨some d,.unOp b t x,ty,pos,aft,g⟩::rest) σ L :=
 jz hg hd (by simp) (fun a w ha l=>by
  simp only[execOp,ha.ev hx,ap,hb w];rfl) h
theorem zcH [bu F] {s:TypeId} {v1:Value} (hg:gd ops σ g=some true) (hd:d<N) (hx:ev σ x=some v1)
  (hb:∀w:World,(convert s t v1).run P w=.ok v w) (h:TO F P w0 K N dfs ops Q rest ((d,v)::σ) L) :
  TO F P w0 K N dfs ops Q (⟨some d,.convert s t x,ty,pos,aft,g⟩::rest) σ L :=
 jz hg hd (by simp) (fun a w ha l=>by
  simp only[execOp,ha.ev hx,ap,hb w];rfl) h
theorem zab [bu F] {b off l:Nat} {f fo:Nat} (hf:jy P t f fo) (hg:gd ops σ g=some true) (hd:d<N) (hx:ev σ x=some (.pointer (some ⟨b,off,none⟩))) (D:off+fo=l)
  (h:TO F P w0 K N dfs ops Q rest ((d,.pointer (some ⟨b,l,none⟩))::σ) L) :
  TO F P w0 K N dfs ops Q (⟨some d,.fieldAddr t x f,ty,pos,aft,g⟩::rest) σ L:=by
 subst D
 obtain⟨fs,q,hu,hf,rfl,hz⟩:=hf
 obtain⟨i,hi,hz⟩:∃i,P.info? q.type=some i∧i.size≠0:=by
  cases hi:P.info? q.type with
  |none=>simp[hi] at hz
  |some i=>exact⟨i,rfl,by simpa [hi] using hz⟩
 refine jz hg hd (by simp) (fun a w ha E=>?_) h
 simp[execOp,ha.ev hx,Instr.fieldAt,ap,run_underlying hu,hf,er,fieldPlace,sizeOf,typeInfo,hi,hz,iN]
theorem eY [bu F] {f:Nat} {vs:Array Value} (hg:gd ops σ g=some true) (hd:d<N) (hx:ev σ x=some (.tuple vs)) (hv:vs[f]?=some v) (h:TO F P w0 K N dfs ops Q rest ((d,v)::σ) L) :
  TO F P w0 K N dfs ops Q (⟨some d,.extract x f,ty,pos,aft,g⟩::rest) σ L :=
 jz hg hd (by simp) (fun a w ha l=>by simp[execOp,ha.ev hx,Instr.extract,hv]) h
theorem nj [bu F] {v1 v2:Value} (hg:gd ops σ g=some true) (hd:d<N) (hx:ev σ x=some v1) (hy:ev σ y=some v2)
  (hb:∀w:World,(jd t v1 v2).run P w=.ok v w) (h:TO F P w0 K N dfs ops Q rest ((d,v)::σ) L) :
  TO F P w0 K N dfs ops Q (⟨some d,.index t x y,ty,pos,aft,g⟩::rest) σ L :=
 jz hg hd (by simp) (fun a w ha l=>by simp only[execOp,ha.ev hx,ha.ev hy,ap,hb w];rfl) h
def evO (σ:List (Nat×Value)):Option Operand→Option (Option Value)
 |none=>some none
 |some x=>(ev σ x).map some
theorem At.evO {a:Act} (h:At N dfs σ a) {x:Option Operand} {v:Option Value} (hx:evO σ x=some v):x.map a.eval=v:=by
 cases x with
 |none=>simpa [Go.Proofs.YtifpjbgnikjglaaGreatDoor.evO] using hx
 |some x=>
  simp only[Go.Proofs.YtifpjbgnikjglaaGreatDoor.evO,cS] at hx
  obtain⟨u,hu,rfl⟩:=hx
  simp[h.ev hu]
theorem iA [bu F] {v1:Value} {lo hi:Option Operand} {D hv:Option Value} (hg:gd ops σ g=some true) (hd:d<N) (hx:ev σ x=some v1) (l:evO σ lo=some D) (q:evO σ hi=some hv)
  (hb:∀w:World,(gH t v1 D hv none).run P w=.ok v w) (h:TO F P w0 K N dfs ops Q rest ((d,v)::σ) L) :
  TO F P w0 K N dfs ops Q (⟨some d,.slice t x lo hi none,ty,pos,aft,g⟩::rest) σ L :=
 jz hg hd (by simp) (fun a w ha E=>by simp only[execOp,ha.ev hx,ha.evO l,ha.evO q,Option.map_none,ap,hb w];rfl) h
def evP (σ:List (Nat×Value)):List (Nat×Operand)→Option (List (Nat×Value))
 |[]=>some []
 |(i,x)::r=>match ev σ x,evP σ r with
  |some v,some l=>some ((i,v)::l)
  |_,_=>none
theorem At.evP {a:Act} (h:At N dfs σ a):∀ {ps:List (Nat×Operand)} {vs:List (Nat×Value)},evP σ ps=some vs→ps.map (fun (i,x)=>(i,a.eval x))=vs
 |[],vs,hx=>by simpa [Go.Proofs.YtifpjbgnikjglaaGreatDoor.evP] using hx
 |(i,x)::r,vs,hx=>by
  simp only[Go.Proofs.YtifpjbgnikjglaaGreatDoor.evP] at hx
  split at hx
  ·rename_i v l h1 h2
   cases hx
   simp[h.ev h1,At.evP h h2]
  ·cases hx
def evL (σ:List (Nat×Value)):List Operand→Option (List Value)
 |[]=>some []
 |x::r=>match ev σ x,evL σ r with
  |some v,some l=>some (v::l)
  |_,_=>none
theorem At.evL {a:Act} (h:At N dfs σ a):∀ {ps:List Operand} {vs:List Value},evL σ ps=some vs→ps.map a.eval=vs
 |[],vs,hx=>by simpa [Go.Proofs.YtifpjbgnikjglaaGreatDoor.evL] using hx
 |x::r,vs,hx=>by
  simp only[Go.Proofs.YtifpjbgnikjglaaGreatDoor.evL] at hx
  split at hx
  ·rename_i v l h1 h2
   cases hx
   simp[h.ev h1,At.evL h h2]
  ·cases hx
theorem zbf [bu F] {ps:List (Nat×Operand)} {vs:List (Nat×Value)} (hg:gd ops σ g=some true) (hd:d<N) (hx:evP σ ps=some vs)
  (hb:∀w:World,(Instr.build t vs.toArray).run P w=.ok v w) (h:TO F P w0 K N dfs ops Q rest ((d,v)::σ) L) :
  TO F P w0 K N dfs ops Q (⟨some d,.build t ps.toArray,ty,pos,aft,g⟩::rest) σ L :=
 jz hg hd (by simp) (fun a w ha l=>by
  have:=hb w
  simp only[execOp,eS,ha.evP hx,ap,this];rfl) h
theorem zjk [bu F] {fn:Fn} {x1 x2:List Operand} {q l:List Value} (hg:gd ops σ g=some true) (hd:d<N) (h1:evL σ x1=some q) (h2:evL σ x2=some l)
  (h:TO F P w0 K N dfs ops Q rest ((d,.func fn q.toArray l.toArray)::σ) L) :
  TO F P w0 K N dfs ops Q (⟨some d,.makeFunc fn x1.toArray x2.toArray,ty,pos,aft,g⟩::rest) σ L :=
 jz hg hd (by simp) (fun a w ha D=>by simp[execOp,Instr.makeFunc,ha.evL h1,ha.evL h2]) h
theorem zbc [bu F] {a0:Addr} (hg:gd ops σ g=some true) (hd:d<N) (hx:ev σ x=some (.pointer (some a0))) (h:TO F P w0 K N dfs ops Q rest ((d,.pointer (some a0))::σ) L) :
  TO F P w0 K N dfs ops Q (⟨some d,.nilCheck x,ty,pos,aft,g⟩::rest) σ L :=
 jz hg hd (by simp) (fun a w ha l=>by simp[execOp,ha.ev hx]) h
theorem zfq [bu F] (hg:gd ops σ g=some true) (hd:d<N) (hx:ev σ x=some v)
  (h:∀b,TO F P w0 K N dfs ops Q rest ((d,.pointer (some ⟨b,0,none⟩))::σ) (L++[cells b v.cells.toList t])):TO F P w0 K N dfs ops Q (⟨some d,.box t x,ty,pos,aft,g⟩::rest) σ L :=
 oi hg (by simp) fun a w ha l=>⟨.pointer (some ⟨w.heap.size,0,none⟩),w.alloc (.cells v.cells t),by simp[execOp,ha.ev hx,Instr.box,newVar,newRow,ap],h _ _ _ (ha.put hd _) (by simpa [cells] using l.alloc (.cells v.cells t (0,0)))⟩
theorem Mo [bu F] (l:∀w,Holds w0 K L w→v.oneCell'=true) (hg:gd ops σ g=some true) (hd:d<N) (hx:ev σ x=some v)
  (h:∀b,TO F P w0 K N dfs ops Q rest ((d,.pointer (some ⟨b,0,none⟩))::σ) (L++[cells b [v] t])):TO F P w0 K N dfs ops Q (⟨some d,.box t x,ty,pos,aft,g⟩::rest) σ L :=
 oi hg (by simp) fun a w ha D=>⟨.pointer (some ⟨w.heap.size,0,none⟩),w.alloc (.cells v.cells t),by simp[execOp,ha.ev hx,Instr.box,newVar,newRow,ap],h _ _ _ (ha.put hd _) (by
  have q:v.cells=#[v]:=by have:=l w D;cases v<;>simp_all [qd,nQ]
  rw[q];simpa [cells] using D.alloc (.cells #[v] t (0,0)))⟩
theorem zbi [bu F] {cs:List Value} (hz:cm P t cs) (hg:gd ops σ g=some true) (hd:d<N)
  (h:∀b,TO F P w0 K N dfs ops Q rest ((d,.pointer (some ⟨b,0,none⟩))::σ) (L++[cells b cs t])):TO F P w0 K N dfs ops Q (⟨some d,.alloc t,ty,pos,aft,g⟩::rest) σ L:=by
 obtain⟨i,q,hi,l,rfl⟩:=hz.some
 exact oi hg (by simp) fun a w ha D=>⟨.pointer (some ⟨w.heap.size,0,none⟩),w.alloc (.cells q.cells t),by simp[execOp,Instr.alloc,zeroValue,typeInfo,hi,l,newVar,newRow,ap],h _ _ _ (ha.put hd _) (by simpa [cells] using D.alloc (.cells q.cells t (0,0)))⟩
theorem zas [bu F] {b j:Nat} {l:List Value} {e:TypeId} (D:lA P t) (hg:gd ops σ g=some true) (hd:d<N) (hx:ev σ x=some (.pointer (some ⟨b,j,none⟩))) (hk:L[k]?=some (cells b l e)) (hj:l[j]?=some v)
  (h:TO F P w0 K N dfs ops Q rest ((d,v)::σ) L):TO F P w0 K N dfs ops Q (⟨some d,.load t x,ty,pos,aft,g⟩::rest) σ L:=by
 obtain⟨dd,hu,hr⟩:=D
 exact jz hg hd (by simp) (fun a w ha q=>by
  have hc:=q.cell hk hj
  cases dd<;>simp_all [execOp,ha.ev hx,kw,er,loadVar,isAgg,ap,run_underlying hu]) h
theorem zbR [bu F] {b j n:Nat} {l cs:List Value} {e:TypeId} (G:o0 P t n) (hg:gd ops σ g=some true) (hd:d<N) (hx:ev σ x=some (.pointer (some ⟨b,j,none⟩))) (hk:L[k]?=some (cells b l e))
  (q:(l.drop j).take n=cs) (E:cs.length=n) (h:TO F P w0 K N dfs ops Q rest ((d,.agg cs.toArray)::σ) L) :
  TO F P w0 K N dfs ops Q (⟨some d,.load t x,ty,pos,aft,g⟩::rest) σ L:=by
 subst E
 obtain⟨dd,hu,hr,hi⟩:=G
 exact jz hg hd (by simp) (fun a w ha D=>by
  have hc:w.rangeAt b j cs:=fun i u hu=>by
   refine D.cell hk ?_
   rw[←q] at hu
   rw[iV] at hu
   split at hu
   ·rw[gD] at hu;exact hu
   ·cases hu
  simp only[execOp,ha.ev hx,ap,run_loadAt_mid w b j t cs dd hc hu hr hi];rfl) h
theorem eP [bu F] {b j:Nat} {l l':List Value} {e:TypeId} {u:Value} (H:bC P t 1) (hg:gd ops σ g=some true) (hx:ev σ x=some (.pointer (some ⟨b,j,none⟩))) (hy:ev σ y=some v)
  (hk:L[k]?=some (cells b l e)) (hj:l[j]?=some u) (q:∀w,Holds w0 K L w→v.oneCell'=true) (G:l.set j v=l')
  (h:TO F P w0 K N dfs ops Q rest σ (L.set k (cells b l' e))):TO F P w0 K N dfs ops Q (⟨none,.store t x y,ty,pos,aft,g⟩::rest) σ L:=by
 obtain⟨i,hi,hsz⟩:=H.some
 exact Ab hg (by simp) fun a w ha D=>⟨_,by
  have h1:=q w D
  have hc:=D.cell hk hj
  have hf:w.frozen? ⟨b,j,none⟩=false:=by simp[mb,D.obj hk]
  have E:v.cells=#[v]:=by cases v<;>simp_all [qd,nQ]
  simp[execOp,ha.ev hx,ha.ev hy,Instr.storeAt,er,storeVar,sizeOf,typeInfo,hi,hsz,E,storeCells,ap,run_store _ _ _ _ _ h1,hc,hf,iN],h _ _ ha (D.setCell hk G)⟩
def qP (l:List Value) (j:Nat):List Value→List Value
 |[]=>l
 |v::vs=>qP (l.set j v) (j+1) vs
theorem tz:∀ (vs l:List Value) (j:Nat),(qP l j vs).length=l.length
 |[],l,j=>rfl
 |v::vs,l,j=>by simp[qP,tz vs]
theorem Holds.setCells {b:Nat} {e:TypeId} (q:k<L.length):∀ (vs:List Value) (j:Nat) (l:List Value) (w:World),Holds w0 K (L.set k (cells b l e)) w→Holds w0 K (L.set k (cells b (qP l j vs) e)) (w.setCells b j vs)
 |[],j,l,w,h=>h
 |v::vs,j,l,w,h=>by
  have hk:(L.set k (cells b l e))[k]?=some (cells b l e):=by simp[q]
  have:=h.setCell (j:=j) (v:=v) hk rfl
  rw[List.set_set] at this
  simp only[World.setCells,qP]
  exact Holds.setCells q vs (j+1) _ _ this
theorem Ge {α:Type} {L:List α} {k:Nat} {A:α} (hk:L[k]?=some A):L.set k A=L:=by
 apply mc
 intro i
 rw[tk]
 split
 ·rename_i e
  subst e
  rw[hk]
  simp[(au.1 hk).1]
 ·rfl
theorem eE [bu F] {b j n:Nat} {l l' vs:List Value} {e:TypeId} (I:bC P t n) (hg:gd ops σ g=some true) (hx:ev σ x=some (.pointer (some ⟨b,j,none⟩))) (hy:ev σ y=some (.agg vs.toArray))
  (hk:L[k]?=some (cells b l e)) (E:vs.length=n) (hj:j+n≤l.length) (h1:vs.all (·.oneCell')=true) (G:qP l j vs=l')
  (h:TO F P w0 K N dfs ops Q rest σ (L.set k (cells b l' e))):TO F P w0 K N dfs ops Q (⟨none,.store t x y,ty,pos,aft,g⟩::rest) σ L:=by
 subst G;subst E
 have q:k<L.length:=(au.1 hk).1
 refine Ab hg (by simp) fun a w ha D=>⟨w.setCells b j vs,?_,h _ _ ha (Holds.setCells q vs j l w (by rw[Ge hk];exact D))⟩
 have ht:w.there b j vs.toArray.size:=fun i hi=>by
  have H:i<vs.length:=by simpa using hi
  have hc:=D.cell hk (aJ (show j+i<l.length by omega))
  exact⟨by rw[hc];rfl,by simp[mb,D.obj hk]⟩
 simp only[execOp,ha.ev hx,ha.ev hy,ap,run_storeAt_mid w b j t vs.toArray ht (by simpa [bC] using I) (by simpa using h1)];rfl
end
def Ro (w0:World) (K:Nat→Prop) (RO:List (Nat×Obj)):Prop:=∀p∈RO,w0.heap[p.1]?=some p.2∧¬K p.1
theorem Ro.nil {w0:World} {K:Nat→Prop}:Ro w0 K []:=fun p hp=>by cases hp
theorem Holds.ro {w0 w:World} {K:Nat→Prop} {L:List Asn} {RO:List (Nat×Obj)} (h:Holds w0 K L w) (hr:Ro w0 K RO) {i b:Nat} {o:Obj} (hi:RO[i]?=some (b,o)):w.heap[b]?=some o:=by
 obtain⟨C,_,hx⟩:=h
 obtain⟨h1,h2⟩:=hr _ (aP hi)
 exact hx.1.at h1 h2
def Gf {β:Type} (w0:World) (K:Nat→Prop) (N:Nat) (dfs:List Deferred) (I:β→Prop) (l:β→List (Nat×Value)) (q:β→List Asn) (a:Act) (w:World):Prop:=∃b,I b∧St w0 K N dfs (l b) (q b) a w
def CC {β:Type} (w0:World) (K:Nat→Prop) (N:Nat) (I:β→Prop) (D:β→List Deferred) (q:β→List (Nat×Value)) (E:β→List Asn) (μ:β→Nat) (b:β) (a:Act) (w:World):Prop:=∃l,I l∧μ l<μ b∧St w0 K N (D l) (q l) (E l) a w
section
variable {F:Fence} {P:Program} {w0:World} {K:Nat→Prop} {N:Nat} {dfs:List Deferred} {ops:Array Oper} {Q:Exit→Act→World→Prop} {rest:List Oper} {σ σ':List (Nat×Value)} {L L' R As Bs:List Asn} {o:Oper} {v:Value}
 {d:Nat} {t:TypeId} {op:Op} {ty:TypeId} {pos:String} {aft:Array Edge} {g:Option (Nat×Bool)} {x y z:Operand} {c c1 c2:Code} {k:Nat} {A B:Asn} {RO:List (Nat×Obj)}
theorem bX {id:Nat} {l:List Oper} (h:TO F P w0 K N dfs l.toArray Q l σ L):TC F P w0 K N dfs Q (.region id l.toArray false) σ L:=fun a w ha q=>wpIn_region_lit (h a w ha q)
theorem zaJ (h:TC F P w0 K N dfs (_root_.Go.Exit.then (c2.wpIn F 0 P Q) Q) c1 σ L):TC F P w0 K N dfs Q (.seq c1 c2) σ L:=fun a w ha l=>wpIn_seq (h a w ha l)
theorem zap (h:TX w0 K N dfs Q .normal σ L):TC F P w0 K N dfs Q .skip σ L:=fun a w ha l=>wpIn_skip (h a w ha l)
theorem dy {id:Nat} (h:TX w0 K N dfs Q (.exit id) σ L):TC F P w0 K N dfs Q (.exit id) σ L:=fun a w ha l=>wpIn_exit (h a w ha l)
theorem zaA (h:TX w0 K N dfs Q .ret σ L):TC F P w0 K N dfs Q .ret σ L:=fun a w ha l=>wpIn_ret (h a w ha l)
theorem Gg {l:Nat} (h:TX w0 K N dfs Q .normal σ L):TC F P w0 K N dfs Q (.label l) σ L:=fun a w ha q=>wpIn_label (h a w ha q)
theorem zat {id:Nat} (h:TC F P w0 K N dfs (jU id Q) c σ L):TC F P w0 K N dfs Q (.block id c) σ L:=fun a w ha l=>wpIn_block (h a w ha l)
theorem ir (hc:ev σ x=some (.bool true)) (h:TC F P w0 K N dfs Q c1 σ L):TC F P w0 K N dfs Q (.cond x c1 c2) σ L:=fun a w ha l=>wpIn_cond_true (ha.ev hc) (h a w ha l)
theorem za8 (hc:ev σ x=some (.bool false)) (h:TC F P w0 K N dfs Q c2 σ L):TC F P w0 K N dfs Q (.cond x c1 c2) σ L:=fun a w ha l=>wpIn_cond_false (ha.ev hc) (h a w ha l)
theorem Mr {b:Bool} (hc:ev σ x=some (.bool b)) (ht:b=true→TC F P w0 K N dfs Q c1 σ L) (hf:b=false→TC F P w0 K N dfs Q c2 σ L):TC F P w0 K N dfs Q (.cond x c1 c2) σ L :=
 fun a w ha l=>wpIn_cond_split (ha.ev hc) (fun h=>ht h a w ha l) (fun h=>hf h a w ha l)
theorem Mt {s:Nat} {b:Bool} (l:σ.lookup s=some (.bool b)) (ht:b=true→TO F P w0 K N dfs ops Q rest ((s,.bool true)::σ) L) (hf:b=false→TO F P w0 K N dfs ops Q rest ((s,.bool false)::σ) L) :
  TO F P w0 K N dfs ops Q rest σ L:=by
 cases b with
 |true=>exact Gc (CA l Ga) (ht rfl)
 |false=>exact Gc (CA l Ga) (hf rfl)
theorem zaz (h:TC F P w0 K N dfs Q c σ L):TX w0 K N dfs (_root_.Go.Exit.then (c.wpIn F 0 P Q) Q) .normal σ L:=h
theorem bV {id:Nat} {q:Act→World→Prop} (h:TX w0 K N dfs Q (.exit id) σ L):TX w0 K N dfs (_root_.Go.Exit.then q Q) (.exit id) σ L:=h
theorem bP {q:Act→World→Prop} (h:TX w0 K N dfs Q .ret σ L):TX w0 K N dfs (_root_.Go.Exit.then q Q) .ret σ L:=h
theorem cd {id:Nat} (h:TX w0 K N dfs Q .normal σ L):TX w0 K N dfs (jU id Q) .normal σ L:=h
theorem cx {id:Nat} (h:TX w0 K N dfs Q .ret σ L):TX w0 K N dfs (jU id Q) .ret σ L:=h
theorem dz {id:Nat} (h:TX w0 K N dfs Q .normal σ L):TX w0 K N dfs (jU id Q) (.exit id) σ L:=fun a w ha l=>by
 show (if id=id then Q .normal a w else Q (.exit id) a w);rw[am rfl];exact h a w ha l
theorem Ac {id l:Nat} (q:l≠id) (h:TX w0 K N dfs Q (.exit l) σ L):TX w0 K N dfs (jU id Q) (.exit l) σ L:=fun a w ha D=>by
 show (if l=id then Q .normal a w else Q (.exit l) a w);rw[aj q];exact h a w ha D
theorem Mu (I:Nat→Act→World→Prop) (m:Nat) {a:Act} {w:World} (G:I m a w)
  (round:∀m a w,I m a w→c.wpIn F 0 P (_root_.Go.Exit.then (fun E w'=>∃l<m,I l E w') Q) a w):(Code.loop c).wpIn F 0 P Q a w:=by
 refine wpIn_loop (fun a w=>∃m,I m a w) (fun a w=>leastOf (fun m=>I m a w)) ⟨m,G⟩ fun a w H=>?_
 obtain⟨h1,h2⟩:=leastOf_spec H
 refine wpIn_mono (round _ a w h1) fun e E w' D=>?_
 cases e with
 |normal=>
  obtain⟨l,q,h3⟩:=D
  exact⟨⟨l,h3⟩,Nat.lt_of_le_of_lt ((leastOf_spec ⟨l,h3⟩).2 l h3) q⟩
 |_=>exact D
theorem eF {β:Type} (I:β→Prop) (q:β→List Deferred) (l:β→List (Nat×Value)) (D:β→List Asn) (μ:β→Nat) (b0:β) (M:I b0) (hd:dfs=q b0) (H:qO σ (l b0)) (hL:aq L (D b0) R)
  (round:∀b,I b→TC F P w0 K N (q b) (_root_.Go.Exit.then (CC w0 K N I q l D μ b) Q) c (l b) (D b)):TC F P w0 K N dfs Q (.loop c) σ L:=fun a w ha J=>by
 subst hd
 refine Mu (fun m a w=>∃b,I b∧μ b=m∧St w0 K N (q b) (l b) (D b) a w) (μ b0) ⟨b0,M,rfl,H _ _ _ ha,J.weaken hL⟩ ?_
 rintro m a w ⟨b,hb,rfl,h1,h2⟩
 refine wpIn_mono (round b hb a w h1 h2) fun e T w' E=>?_
 cases e with
 |normal=>obtain⟨G,h3,O,h5⟩:=E;exact⟨μ G,O,G,h3,rfl,h5⟩
 |_=>exact E
theorem nB {β:Type} {I:β→Prop} {D:β→List Deferred} {q:β→List (Nat×Value)} {E:β→List Asn} {μ:β→Nat} {b:β} (l:β) (M:I l) (H:μ l<μ b) (hd:dfs=D l) (G:qO σ (q l)) (hL:aq L (E l) R) :
  TX w0 K N dfs (_root_.Go.Exit.then (CC w0 K N I D q E μ b) Q) .normal σ L:=fun a w ha J=>by
 subst hd
 exact⟨l,M,H,G _ _ _ ha,J.weaken hL⟩
theorem qQ {l:Asn} (hk:L[k]?=some A) (he:A=l) (h:TO F P w0 K N dfs ops Q rest σ (L.set k l)):TO F P w0 K N dfs ops Q rest σ L:=fun a w ha q=>h a w ha (q.rewE hk he)
theorem tA {e:Exit} {j:Nat} {X:List Asn} (hk:L[k]?=some A) (hj:L[j]?=some (ziH X)) (l:k≠j) (h:TX w0 K N dfs Q e σ ((L.set k cE).set j (ziH (A::X)))):TX w0 K N dfs Q e σ L:=fun a w ha q=>h a w ha (q.starCons hk hj l)
theorem zjD (h:TC F P w0 K N dfs Q c σ (L++[ziH []])):TC F P w0 K N dfs Q c σ L:=fun a w ha l=>h a w ha l.star0
theorem Ad [bu F] {b j i:Nat} {l:List Value} {e:TypeId} {G:Nat×Nat} (hr:Ro w0 K RO) (E:lA P t) (hg:gd ops σ g=some true) (hd:d<N) (hx:ev σ x=some (.pointer (some ⟨b,j,none⟩)))
  (hi:RO[i]?=some (b,.cells l.toArray e G)) (hj:l[j]?=some v)
  (h:TO F P w0 K N dfs ops Q rest ((d,v)::σ) L):TO F P w0 K N dfs ops Q (⟨some d,.load t x,ty,pos,aft,g⟩::rest) σ L:=by
 obtain⟨dd,hu,q⟩:=E
 exact jz hg hd (by simp) (fun a w ha D=>by
  have hc:w.cell? ⟨b,j,none⟩=some v:=oY (D.ro hr hi) (by simpa using hj)
  cases dd<;>simp_all [execOp,ha.ev hx,kw,er,loadVar,isAgg,ap,run_underlying hu]) h
def Fn (P:Program) (f:FuncId) (vs:List Value) (As:List Asn) {β:Type} (V:β→Value) (Bs:β→List Asn):Prop :=
 ∀w C,aO As C w→Calls P f vs.toArray w fun e w'=>∃x:β,e=.returned (V x)∧∃C',aO (Bs x) C' w'∧cJ C C' w w'
def xG (P:Program) (f:FuncId) (vs:List Value) (As:List Asn) {β:Type} (V:β→Value) (Bs:β→List Asn) (w:World) (C:Nat→Prop):Prop :=
 aO As C w→Calls P f vs.toArray w fun e w'=>∃x:β,e=.returned (V x)∧∃C',aO (Bs x) C' w'∧cJ C C' w w'
def dN (P:Program) (f:FuncId) (vs:List Value) (v:Value):Prop:=∀w,Calls P f vs.toArray w fun e w'=>e=.returned v∧Below w.heap.size w w'
theorem nC {f:FuncId} {vs:List Value} {v:Value} (h:∀w,Calls P f vs.toArray w fun e w'=>e=.returned v∧w=w'):dN P f vs v:=fun w=>(h w).mono fun e w' ⟨h1,h2⟩=>⟨h1,h2▸Below.refl _ _⟩
theorem dN.fn {f:FuncId} {vs:List Value} {v:Value} (h:dN P f vs v):Fn P f vs [] (fun _:Unit=>v) (fun _=>[]):=fun w C l=>
 (h w).mono fun e w' ⟨h1,h2⟩=>⟨(),h1,C,l,F6 h2⟩
theorem Fn.p {f:FuncId} {vs:List Value} {v:Value} (h:Fn P f vs [] (fun _:Unit=>v) (fun _=>[])):dN P f vs v:=fun w=>
 (h w (fun _=>False) (fun _ h=>h)).mono fun e w' ⟨_,h1,C',h2,h3⟩=>⟨h1,h3.toBelow (bq _) (fun _ _ h=>h)⟩
theorem Mv [bu F] {xs:List Operand} {D:Array TypeId} {f:FuncId} {first cap:Array Value} {vs l:List Value} {β:Type} {V:β→Value} {Bs:β→List Asn} {dst:Option Nat}
  (hg:gd ops σ g=some true) (hx:ev σ x=some (.func (.func f) first cap)) (G:evL σ xs=some vs) (hv:first.toList++vs++cap.toList=l)
  (E:∀args w,(callFunc f args).run P w=.ok (.enter f args) w) (T:∀w C,cJ K C w0 w→xG P f l As V Bs w C) (O:aq L As R)
  (h:∀b a w J,J=a.put dst (V b)→At N dfs σ a→Holds w0 K (R++Bs b) w→wpListIn F 0 P ops Q rest J w) :
  TO F P w0 K N dfs ops Q (⟨dst,.call { callee:=.value x,args:=xs.toArray,argTypes:=D },ty,pos,aft,g⟩::rest) σ L:=by
 intro a w ha M
 simp only[wpListIn,uv (o:=⟨dst,.call { callee:=.value x,args:=xs.toArray,argTypes:=D },ty,pos,aft,g⟩) ha hg,if_true]
 refine⟨fun f _=>bu.fn f,?_⟩
 have h1:(execOp a.eval ⟨dst,.call { callee:=.value x,args:=xs.toArray,argTypes:=D },ty,pos,aft,g⟩).run P w=.ok (.enter f l.toArray) w:=by
  have e:first++vs.toArray++cap=l.toArray:=by rw[←hv];simp
  simp only[execOp,resolve,eS,ha.evL G,ha.ev hx,lG,ap,iR,cj,invoke,e,E]
 rw[ig F _ _ (by simp),h1]
 refine⟨(fun h=>by rw[bu.depth (F:=F)] at h;cases h),?_⟩
 obtain⟨C1,H,hA,q⟩:=M.splitX O
 refine bu.calls ((T w C1 H hA).mono ?_)
 rintro e w' ⟨b,rfl,C',hB,I⟩
 exact h b a w' _ rfl ha (q _ _ _ I hB)
theorem Gh [bu F] {xs:List Operand} {E:Array TypeId} {f:FuncId} {first cap:Array Value} {vs l:List Value} {β:Type} {V:β→Value} {Bs:β→List Asn} {dst:Option Nat}
  (hg:gd ops σ g=some true) (hx:ev σ x=some (.func (.func f) first cap)) (D:evL σ xs=some vs) (hv:first.toList++vs++cap.toList=l)
  (q:∀args w,(callFunc f args).run P w=.ok (.enter f args) w) (I:Fn P f l As V Bs) (H:aq L As R)
  (h:∀b a w G,G=a.put dst (V b)→At N dfs σ a→Holds w0 K (R++Bs b) w→wpListIn F 0 P ops Q rest G w) :
  TO F P w0 K N dfs ops Q (⟨dst,.call { callee:=.value x,args:=xs.toArray,argTypes:=E },ty,pos,aft,g⟩::rest) σ L :=
 Mv hg hx D hv q (fun w C _=>I w C) H h
theorem zbN [bu F] {xs:List Operand} {G:Array TypeId} {f:FuncId} {first cap:Array Value} {vs l:List Value} {β:Type} {V:β→Value} {Bs:β→List Asn}
  (hg:gd ops σ g=some true) (hd:d<N) (hx:ev σ x=some (.func (.func f) first cap)) (D:evL σ xs=some vs) (hv:first.toList++vs++cap.toList=l)
  (q:∀args w,(callFunc f args).run P w=.ok (.enter f args) w) (J:Fn P f l As V Bs) (I:aq L As R)
  (h:∀b,TO F P w0 K N dfs ops Q rest ((d,V b)::σ) (R++Bs b)) :
  TO F P w0 K N dfs ops Q (⟨some d,.call { callee:=.value x,args:=xs.toArray,argTypes:=G },ty,pos,aft,g⟩::rest) σ L :=
 Gh hg hx D hv q J I fun b a w M E ha H=>by subst E;exact h b _ _ (ha.put hd _) H
theorem zaI [bu F] {xs:List Operand} {G:Array TypeId} {f:FuncId} {first cap:Array Value} {vs l:List Value}
  (hg:gd ops σ g=some true) (hd:d<N) (hx:ev σ x=some (.func (.func f) first cap)) (D:evL σ xs=some vs) (hv:first.toList++vs++cap.toList=l)
  (q:∀args w,(callFunc f args).run P w=.ok (.enter f args) w) (I:dN P f l v) (h:TO F P w0 K N dfs ops Q rest ((d,v)::σ) L) :
  TO F P w0 K N dfs ops Q (⟨some d,.call { callee:=.value x,args:=xs.toArray,argTypes:=G },ty,pos,aft,g⟩::rest) σ L :=
 Gh hg hx D hv q I.fn aq.nil fun b a w J E ha H=>by
  subst E
  rw[aH] at H
  exact h _ _ (ha.put hd _) H
def YC (P:Program) (l:Nat) {α:Type} (enc:α→List Value) (xs:List α) (I X:List α→Asn) (w0:World) (K:Nat→Prop):Prop :=
 ∀pre x post C q,xs=pre++x::post→cJ K C w0 q→(I pre).P C q →
  Ct P l (enc x).toArray q fun b D=>∃C',cJ C C' q D∧((b=true∧(I (pre++[x])).P C' D)∨(b=false∧(X (pre++[x])).P C' D))
theorem Holds.focus' {w:World} (h:Holds w0 K L w) (hk:L[k]?=some A):∃C1,cJ K C1 w0 w∧A.P C1 w∧∀B l w',cJ C1 l w w'→B.P l w'→Holds w0 K (L.set k B) w':=by
 obtain⟨C1,h1,h2⟩:=h.focus hk
 have h':=h
 obtain⟨C,hL,hx⟩:=h'
 obtain⟨H,G,g1,g2,E,g4⟩:=aO.take hk hL
 refine⟨H,⟨hx.1,fun j hj=>hx.2 j ((g4 j).2 (.inl hj))⟩,g1,?_⟩
 intro B l w' he hB
 have q:k<L.length:=(au.1 hk).1
 have hsz:=he.1.size
 have D:aO (L.set k cE) G w':=g2.loc hsz (fun k hk=>he.1.keep k (g2.lt k hk) (fun h=>E k h hk))
 have hd:∀k,l k→¬G k:=fun k h' hk=>by
  rcases he.2 k h' with h|h
  ·exact E k h hk
  ·have:=g2.lt k hk;omega
 refine⟨_,aO.put q hB D hd (fun k=>_root_.Iff.rfl),hx.1.trans' he.1 (fun i hi hc=>?_),fun k hk=>?_⟩
 ·rcases hx.2 i ((g4 i).2 (.inl hc)) with h|h
  ·exact h
  ·omega
 ·have:=hx.1.size
  rcases hk with hk|hk
  ·rcases he.2 k hk with h|h
   ·rcases hx.2 k ((g4 k).2 (.inl h)) with h|h
    ·exact .inl h
    ·exact .inr (by omega)
   ·exact .inr (by omega)
  ·rcases hx.2 k ((g4 k).2 (.inr hk)) with h|h
   ·exact .inl h
   ·exact .inr (by omega)
theorem Mw [bu F] {xs:List Operand} {E:Array TypeId} {l:Nat} {α:Type} {enc:α→List Value} {zs:List α} {I X:List α→Asn} {dst:Option Nat} (hy:YC P l enc zs I X w0 K)
  (hg:gd ops σ g=some true) (hx:ev σ x=some (.func (.yield l) #[] #[])) {pre:List α} {e:α} {post:List α} (hz:zs=pre++e::post) (O:evL σ xs=some (enc e))
  (hk:L[k]?=some (I pre))
  (ht:∀a w M,M=a.put dst (.bool true)→At N dfs σ a→Holds w0 K (L.set k (I (pre++[e]))) w→wpListIn F 0 P ops Q rest M w)
  (hf:∀a w M,M=a.put dst (.bool false)→At N dfs σ a→Holds w0 K (L.set k (X (pre++[e]))) w→wpListIn F 0 P ops Q rest M w) :
  TO F P w0 K N dfs ops Q (⟨dst,.call { callee:=.value x,args:=xs.toArray,argTypes:=E },ty,pos,aft,g⟩::rest) σ L:=by
 intro a w ha T
 simp only[wpListIn,uv (o:=⟨dst,.call { callee:=.value x,args:=xs.toArray,argTypes:=E },ty,pos,aft,g⟩) ha hg,if_true]
 refine⟨fun f _=>bu.fn f,?_⟩
 obtain⟨C1,J,hi,q⟩:=T.focus' hk
 obtain⟨fn,tmps,assign,body,H,D⟩:=hy pre e post C1 w hz J hi
 have h1:(execOp a.eval ⟨dst,.call { callee:=.value x,args:=xs.toArray,argTypes:=E },ty,pos,aft,g⟩).run P w=.ok (.round l fn tmps assign body) w:=by
  simp only[execOp,resolve,eS,ha.evL O,ha.ev hx,lG,ap,iR,cj,invoke,Array.empty_append,H]
 rw[ig F _ _ (by simp),h1]
 refine⟨(fun h=>by rw[bu.depth (F:=F)] at h;cases h),?_⟩
 have hr:RoundIn F 0 P l fn tmps assign body w _:=bu.rounds D
 refine hr.mono ?_
 rintro U w' ⟨b,rfl,C',G,h|h⟩
 ·obtain⟨rfl,h⟩:=h
  exact ht a w' _ rfl ha (q _ _ _ G h)
 ·obtain⟨rfl,h⟩:=h
  exact hf a w' _ rfl ha (q _ _ _ G h)
theorem vA [bu F] {xs:List Operand} {G:Array TypeId} {l:Nat} {α:Type} {enc:α→List Value} {zs:List α} {I X:List α→Asn} (hy:YC P l enc zs I X w0 K)
  (hg:gd ops σ g=some true) (hd:d<N) (hx:ev σ x=some (.func (.yield l) #[] #[])) {pre:List α} {e:α} {post:List α} (hz:zs=pre++e::post) (D:evL σ xs=some (enc e))
  (hk:L[k]?=some (I pre)) (ht:TO F P w0 K N dfs ops Q rest ((d,.bool true)::σ) (L.set k (I (pre++[e])))) (hf:TO F P w0 K N dfs ops Q rest ((d,.bool false)::σ) (L.set k (X (pre++[e])))) :
  TO F P w0 K N dfs ops Q (⟨some d,.call { callee:=.value x,args:=xs.toArray,argTypes:=G },ty,pos,aft,g⟩::rest) σ L :=
 Mw hy hg hx hz D hk (fun a w H q ha E=>by subst q;exact ht _ _ (ha.put hd _) E) (fun a w H q ha E=>by subst q;exact hf _ _ (ha.put hd _) E)
end
def tB (vs:List Value):List (Nat×Value):=vs.zipIdx.map fun p=>(p.2,p.1)
theorem Gi:∀ (vs:List Value) (k t:Nat) (v:Value),((vs.zipIdx k).map fun p=>(p.2,p.1)).lookup t=some v→k≤t∧vs[t-k]?=some v
 |[],k,t,v,h=>by simp at h
 |u::vs,k,t,v,h=>by
  simp only[List.zipIdx_cons,av,dM] at h
  split at h
  ·rename_i e
   have:t=k:=by simpa using e
   subst this;cases h
   simp
  ·rename_i e
   have l:t≠k:=by simpa using e
   obtain⟨h1,h2⟩:=Gi vs (k+1) t v h
   refine⟨by omega,?_⟩
   rw[show t-k=(t-(k+1))+1 by omega]
   simpa using h2
theorem xH {N:Nat} (vs:List Value) (D:vs.length≤N):At N [] (tB vs) { tmps:=vs.toArray++fj (N-vs.toArray.size) undef,defers:=[] }:=by
 refine⟨by simp;omega,rfl,fun t v h=>?_⟩
 obtain⟨_,h2⟩:=Gi vs 0 t v h
 have h3:vs[t]?=some v:=by simpa using h2
 have l:t<vs.length:=(au.1 h3).1
 have q:(vs.toArray++fj (N-vs.toArray.size) undef)[t]?=some v:=by
  rw[Array.getElem?_append_left (by simpa using l)];simpa using h3
 rw[nw,q];rfl
def FR (P:Program) {β:Type} (V:β→Value) (Bs:β→List Asn) (w0:World) (K:Nat→Prop) (e:Ending) (w:World):Prop:=∃x:β,e=.returned (V x)∧Holds w0 K (Bs x) w
section
variable {F:Fence} {P:Program} {w0:World} {K:Nat→Prop} {N:Nat} {dfs:List Deferred} {ops:Array Oper} {Q:Exit→Act→World→Prop} {rest:List Oper} {σ σ':List (Nat×Value)} {L L' R As Bs:List Asn} {o:Oper} {v:Value}
 {d:Nat} {t:TypeId} {op:Op} {ty:TypeId} {pos:String} {aft:Array Edge} {g:Option (Nat×Bool)} {x y z:Operand} {c c1 c2:Code} {k:Nat} {A B:Asn} {RO:List (Nat×Obj)}
theorem Fn.intro {f:FuncId} {fn:Func} {vs:List Value} {β:Type} {V:β→Value} {Bs:β→List Asn} (hf:P.funcs[f]?=some fn) (hb:fn.body=some c) (l:fn.ntmps=N) (q:vs.length≤N)
  (h:∀w0 K,TC bF P w0 K N [] (bodyPostM bF 0 P fn (FR P V Bs w0 K)) c (tB vs) As):Fn P f vs As V Bs:=by
 subst l
 intro w C hA
 refine (xE hf hb (h w C _ w (xH vs q) ⟨C,hA,cJ.refl _ _⟩)).mono ?_
 rintro e w' ⟨x,rfl,C',hB,hx⟩
 exact⟨x,rfl,C',hB,hx⟩
theorem xG.intro {f:FuncId} {fn:Func} {vs:List Value} {β:Type} {V:β→Value} {Bs:β→List Asn} {w:World} {C:Nat→Prop} (hf:P.funcs[f]?=some fn) (hb:fn.body=some c) (l:fn.ntmps=N) (q:vs.length≤N)
  (h:TC bF P w C N [] (bodyPostM bF 0 P fn (FR P V Bs w C)) c (tB vs) As):xG P f vs As V Bs w C:=by
 subst l
 intro hA
 refine (xE hf hb (h _ w (xH vs q) ⟨C,hA,cJ.refl _ _⟩)).mono ?_
 rintro e w' ⟨x,rfl,C',hB,hx⟩
 exact⟨x,rfl,C',hB,hx⟩
theorem dN.intro {f:FuncId} {fn:Func} {vs:List Value} (hf:P.funcs[f]?=some fn) (hb:fn.body=some c) (l:fn.ntmps=N) (q:vs.length≤N)
  (h:∀w0 K,TC bF P w0 K N [] (bodyPostM bF 0 P fn (FR P (fun _:Unit=>v) (fun _=>[]) w0 K)) c (tB vs) []):dN P f vs v:=Fn.p (Fn.intro hf hb l q h)
inductive nk (P:Program) (σ:List (Nat×Value)) (L:List Asn):ResultVar→Value→Prop
 |tmp {t:Nat} {v:Value} (h:σ.lookup t=some v):nk P σ L (.tmp t) v
 |cell {s b:Nat} {t:TypeId} {k:Nat} {v:Value} {e:TypeId} (hT:lA P t) (hs:σ.lookup s=some (.pointer (some ⟨b,0,none⟩))) (hk:L[k]?=some (cells b [v] e)):nk P σ L (.cell s t) v
 |cells {s b n:Nat} {t:TypeId} {k:Nat} {cs:List Value} {e:TypeId} (hT:o0 P t n) (hs:σ.lookup s=some (.pointer (some ⟨b,0,none⟩))) (hk:L[k]?=some (Go.Proofs.YtifpjbgnikjglaaGreatDoor.cells b cs e)) (hn:cs.length=n):nk P σ L (.cell s t) (.agg cs.toArray)
inductive je (P:Program) (σ:List (Nat×Value)) (L:List Asn):List ResultVar→List Value→Prop
 |nil:je P σ L [] []
 |cons {r:ResultVar} {rs:List ResultVar} {v:Value} {vs:List Value} (h:nk P σ L r v) (hs:je P σ L rs vs):je P σ L (r::rs) (v::vs)
def tC:List Value→Value
 |[v]=>v
 |vs=>.tuple vs.toArray
def uw (tmps:Array Value):ResultVar→Sem Value
 |.tmp t=>pure (tmps.getD t undef)
 |.cell a t=>do loadVar t (←asAddr (tmps.getD a undef))
theorem nk.run {r:ResultVar} (h:nk P σ L r v) {a:Act} {w:World} (ha:At N dfs σ a) (l:Holds w0 K L w):(uw a.tmps r).run P w=.ok v w:=by
 cases h with
 |tmp h=>simp[uw,ha.2.2 _ _ h]
 |@cell s b t k v e hT hs hk=>
  obtain⟨dd,hu,hr⟩:=hT
  have hc:=l.cell hk (j:=0) (v:=v) rfl
  have:=ha.2.2 _ _ hs
  cases dd<;>simp_all [uw,asAddr,loadVar,isAgg,ap,run_underlying hu]
 |@cells s b n t k cs e hT hs hk hn=>
  subst hn
  obtain⟨dd,hu,hr,hi⟩:=hT
  have hc:w.rangeAt b 0 cs:=fun i u hu=>l.cell hk (by simpa using hu)
  have:=ha.2.2 _ _ hs
  simp[uw,asAddr,ap,this,run_loadVar_mid w b 0 t cs dd hc hu hr hi]
theorem je.run {rs:List ResultVar} {vs:List Value} (h:je P σ L rs vs) {a:Act} {w:World} (ha:At N dfs σ a) (q:Holds w0 K L w):(rs.mapM (uw a.tmps)).run P w=.ok vs w:=by
 induction h with
 |nil=>simp
 |cons h D l=>simp[List.mapM_cons,ap,h.run ha q,l]
theorem xI {fn:Func} {rs:List ResultVar} {vs:List Value} (l:fn.results=rs.toArray) (h:je P σ L rs vs) {a:Act} {w:World} (ha:At N dfs σ a) (q:Holds w0 K L w):(results fn a.tmps).run P w=.ok (tC vs) w:=by
 have h1:=h.run ha q
 have h2:(fn.results.mapM (uw a.tmps)).run P w=.ok vs.toArray w:=by
  rw[l,List.mapM_toArray,map_eq_pure_bind,ap,h1];rfl
 have h3:results fn a.tmps=(do let vs ←fn.results.mapM (uw a.tmps);pure (if h:vs.size=1 then vs[0] else .tuple vs)):=rfl
 rw[h3,ap,h2]
 rcases vs with _|⟨v,_|⟨u,vs⟩⟩
 ·rfl
 ·rfl
 ·simp[tC]
theorem eu {fn:Func} {rs:List ResultVar} {vs:List Value} {β:Type} {V:β→Value} {Bs:β→List Asn} {e:Exit} (b:β) (he:e=.ret∨e=.normal) (q:fn.results=rs.toArray) (l:je P σ L rs vs) (hv:tC vs=V b) (E:aq L (Bs b) R) :
  TX w0 K N [] (bodyPostM F 0 P fn (FR P V Bs w0 K)) e σ L:=by
 intro a w ha D
 have h1:=xI q l ha D
 have h2:LeavesInM F 0 P fn a.tmps (FR P V Bs w0 K) a.defers .returning w:=by
  rw[ha.2.1]
  exact⟨tC vs,h1,b,by rw[hv],D.weaken E⟩
 rcases he with rfl|rfl<;>exact h2
def gL (d:Nat):Asn:=obj d (.deferred (some []))
theorem aO.marks {w:World}:∀ {ds:List Nat} {C:Nat→Prop},aO (ds.map gL) C w→ds.Nodup∧(∀d∈ds,w.heap[d]?=some (.deferred (some [])))∧∀k,C k↔k∈ds
 |[],C,h=>⟨List.nodup_nil,by simp,fun k=>by simp;exact h k⟩
 |d::ds,C,⟨C1,C2,h1,h2,h3,h4⟩=>by
  obtain⟨g1,g2,l⟩:=aO.marks h2
  have hd:∀k,C1 k↔k=d:=h1.1
  refine⟨iY.2 ⟨fun hm=>h3 d ((hd d).2 rfl) ((l d).2 hm),g1⟩,?_,fun k=>by rw[h4,hd,l];simp⟩
  intro e he
  rcases bo.1 he with rfl|he
  ·exact h1.2
  ·exact g2 e he
theorem CD {fn:Func} {tmps:Array Value} {E:Ending→World→Prop} (ds:List Nat) {w:World} (hm:aq L (ds.map gL) L') (G:Holds w0 K L w)
  (h:∀w',Holds w0 K L' w'→∃v,(results fn tmps).run P w'=.ok v w'∧E (.returned v) w'):LeavesInM bF 0 P fn tmps E (po ds) .returning w:=by
 obtain⟨C,hL,hx⟩:=G
 obtain⟨C1,C2,h1,h2,h3,q⟩:=hm C w hL
 obtain⟨g1,g2,D⟩:=aO.marks h1
 refine F3 ds w g1 g2 fun w' hf hsz=>h w' ?_
 refine⟨C2,h2.loc (by omega) (fun j hj=>hf.keep j (h2.lt j hj) (fun l=>h3 j ((D j).2 l) hj)),hx.1.trans' hf (fun i hi l=>?_),fun j hj=>?_⟩
 ·rcases hx.2 i ((q i).2 (.inl ((D i).2 l))) with h|h
  ·exact h
  ·omega
 ·rcases hx.2 j ((q j).2 (.inr hj)) with h|h
  ·exact .inl h
  ·exact .inr (by omega)
theorem qq {fn:Func} {rs:List ResultVar} {vs:List Value} {β:Type} {V:β→Value} {Bs:β→List Asn} {e:Exit} (ds:List Nat) (b:β) (he:e=.ret∨e=.normal) (hm:aq L (ds.map gL) L') (D:fn.results=rs.toArray)
  (q:je P σ L' rs vs) (hv:tC vs=V b) (G:aq L' (Bs b) R):TX w0 K N (po ds) (bodyPostM bF 0 P fn (FR P V Bs w0 K)) e σ L:=by
 intro a w ha E
 have h2:LeavesInM bF 0 P fn a.tmps (FR P V Bs w0 K) a.defers .returning w:=by
  rw[ha.2.1]
  exact CD ds hm E fun w' l=>⟨tC vs,xI D q ha l,b,by rw[hv],l.weaken G⟩
 rcases he with rfl|rfl<;>exact h2
def sA (P:Program) (gf:FuncId) (l:List Value) {α:Type} (enc:α→List Value) (xs:List α) (RO:List (Nat×Obj)):Prop :=
 ∀w,(∀p∈RO,w.heap[p.1]?=some p.2)→Cu P gf l.toArray (fun x=>(enc x).toArray) xs (fun k=>∃p∈RO,p.1=k) w
def Ae (I:(Nat→Prop)→World→Prop) (q:∀C W W',I C W→W.heap.size≤W'.heap.size→(∀k,C k→W'.heap[k]?=W.heap[k]?)→I C W'):Asn :=
 ⟨fun C w=>I C w∧∀k,C k→k<w.heap.size,fun h=>h.2,fun h l hk=>⟨q _ _ _ h.1 l hk,fun k D=>eG (h.2 k D) l⟩⟩
def FY {α:Type} (xs:List α) (I X:List α→Asn) (w0:World) (K:Nat→Prop) (e:Ending) (w:World):Prop :=
 (∃v,e=.returned v)∧(Holds w0 K [I xs] w∨∃pre x post,xs=pre++x::post∧Holds w0 K [X (pre++[x])] w)
theorem sA.intro {gf:FuncId} {fn:Func} {q:List Value} {α:Type} {enc:α→List Value} {xs:List α} (hf:P.funcs[gf]?=some fn) (hb:fn.body=some c) (hn:fn.ntmps=N) (hN:q.length+1≤N)
  (h:∀l w0 K (I X:List α→Asn),Ro w0 K RO→YC P l enc xs I X w0 K →
   TC bF P w0 K N [] (bodyPostM bF 0 P fn (FY xs I X w0 K)) c (tB (.func (.yield l) #[] #[]::q)) [I []]):sA P gf q enc xs RO:=by
 subst hn
 intro w U l I X Y W hD hsz H V O hy h0
 have T:Ro W Y RO:=fun p hp=>⟨(hD p.1 ⟨p,hp,rfl⟩).2.trans (U p hp),fun hc=>(H _ hc).2 ⟨p,hp,rfl⟩⟩
 have:=h l W Y (fun pre=>Ae (I pre) (fun C W W'=>V pre C W W')) (fun pre=>Ae (X pre) (fun C W W'=>O pre C W W')) T (fun pre x post C W1 D he hi=>by
  obtain⟨f1,t1,a1,b1,M,J⟩:=hy pre x post C W1 D he hi.1
  refine⟨f1,t1,a1,b1,M,J.mono ?_⟩
  rintro e w2 ⟨b,rfl,C',hx,hc⟩
  have E:∀k,C' k→k<w2.heap.size:=fun k hk=>by
   have:=hx.1.size
   rcases hx.2 k hk with h|h
   ·have:=hi.2 k h;omega
   ·exact h.2
  exact⟨b,rfl,C',hx,hc.imp (fun h=>⟨h.1,h.2,E⟩) (fun h=>⟨h.1,h.2,E⟩)⟩)
 have Z:(Value.func (.yield l) #[] #[]::q).toArray=#[.func (.yield l) #[] #[]]++q.toArray:=by simp
 rw[←Z]
 refine (xE hf hb (this _ W (xH _ (by simpa using hN)) ⟨Y,aO.one ⟨h0,fun k hk=>(H k hk).1⟩,cJ.refl _ _⟩)).mono ?_
 rintro e w' ⟨he,G⟩
 refine⟨he,?_⟩
 rcases G with⟨C',G,hx⟩|⟨pre,x,post,D,C',G,hx⟩
 ·obtain⟨C1,C2,g1,g2,_,g4⟩:=G
  have:C'=C1:=funext fun k=>propext (by rw[g4];exact⟨fun h=>h.resolve_right (g2 k),.inl⟩)
  subst this
  exact⟨C',hx,.inl g1.1⟩
 ·obtain⟨C1,C2,g1,g2,_,g4⟩:=G
  have:C'=C1:=funext fun k=>propext (by rw[g4];exact⟨fun h=>h.resolve_right (g2 k),.inl⟩)
  subst this
  exact⟨C',hx,.inr ⟨pre,x,post,D,g1.1⟩⟩
theorem xJ {fn:Func} {α:Type} {xs:List α} {I X:List α→Asn} {e:Exit} (ds:List Nat) (he:e=.ret∨e=.normal) (hm:aq L (ds.map gL) L') (q:fn.results=#[]) (hA:I xs=A) (E:aq L' [A] R) :
  TX w0 K N (po ds) (bodyPostM bF 0 P fn (FY xs I X w0 K)) e σ L:=by
 subst hA
 intro a w ha D
 have h2:LeavesInM bF 0 P fn a.tmps (FY xs I X w0 K) a.defers .returning w:=by
  rw[ha.2.1]
  exact CD ds hm D fun w' l=>⟨_,xI (rs:=[]) q .nil ha l,⟨_,rfl⟩,.inl (l.weaken E)⟩
 rcases he with rfl|rfl<;>exact h2
theorem vB {fn:Func} {α:Type} {xs:List α} {I X:List α→Asn} {e:Exit} (ds:List Nat) (pre:List α) (x:α) (post:List α) (q:xs=pre++x::post) (he:e=.ret∨e=.normal) (hm:aq L (ds.map gL) L') (D:fn.results=#[]) (G:aq L' [X (pre++[x])] R) :
  TX w0 K N (po ds) (bodyPostM bF 0 P fn (FY xs I X w0 K)) e σ L:=by
 intro a w ha E
 have h2:LeavesInM bF 0 P fn a.tmps (FY xs I X w0 K) a.defers .returning w:=by
  rw[ha.2.1]
  exact CD ds hm E fun w' l=>⟨_,xI (rs:=[]) D .nil ha l,⟨_,rfl⟩,.inr ⟨pre,x,post,q,l.weaken G⟩⟩
 rcases he with rfl|rfl<;>exact h2
def RQ {α β γ:Type} (Inv:List α→β→Prop) (LI:List α→β→List Asn) (X:Code→List α→γ→Prop) (LX:Code→List α→γ→List Asn) (pre:List α) (w1:World) (q:Nat→Prop):Exit→Act→World→Prop
 |.normal,_,w=>∃b,Inv pre b∧Holds w1 q (LI pre b) w
 |.ret,_,w=>∃b,X .ret pre b∧Holds w1 q (LX .ret pre b) w
 |.exit id,_,w=>∃b,X (.exit id) pre b∧Holds w1 q (LX (.exit id) pre b) w
 |.goto l,_,w=>∃b,X (.goto l) pre b∧Holds w1 q (LX (.goto l) pre b) w
 |.panic _,_,_=>False
 |.outgrown,_,_=>False
section
variable {α β γ:Type} {Inv:List α→β→Prop} {LI:List α→β→List Asn} {X:Code→List α→γ→Prop} {LX:Code→List α→γ→List Asn} {pre:List α}
theorem lY (b:β) (h:Inv pre b) (q:aq L (LI pre b) R):TX w0 K N dfs (RQ Inv LI X LX pre w0 K) .normal σ L:=fun a w ha l=>⟨b,h,l.weaken q⟩
theorem nl (b:γ) (h:X .ret pre b) (q:aq L (LX .ret pre b) R):TX w0 K N dfs (RQ Inv LI X LX pre w0 K) .ret σ L:=fun a w ha l=>⟨b,h,l.weaken q⟩
end
def Af (ps:List Nat) (vs:List Value) (σ:List (Nat×Value)):List (Nat×Value):=(ps.zip vs).foldl (fun σ p=>p::σ) σ
theorem At.zip {a:Act} (h:At N dfs σ a) (ps:List Nat) (vs:List Value) (hp:∀p∈ps,p<N):At N [] (Af ps vs σ) { tmps:=(ps.toArray.zip vs.toArray).foldl (fun t p=>t.setIfInBounds p.1 p.2) a.tmps,defers:=[] }:=by
 have key:∀ (l:List (Nat×Value)) (σ:List (Nat×Value)) (D:Array Value),(∀p∈l,p.1<N)→At N [] σ { tmps:=D,defers:=[] } →
   At N [] (l.foldl (fun σ p=>p::σ) σ) { tmps:=l.foldl (fun t p=>t.setIfInBounds p.1 p.2) D,defers:=[] }:=by
  intro l
  induction l with
  |nil=>intro σ D _ h;exact h
  |cons p l G=>
   intro σ D hp h
   simp only[List.foldl_cons]
   exact G _ _ (fun q H=>hp q (ak _ H)) (h.put (hp p (ar ..)) p.2)
 have:=key (ps.zip vs) σ a.tmps (fun p E=>hp _ (List.of_mem_zip E).1) ⟨h.1,rfl,h.2.2⟩
 simpa [Af] using this
theorem Holds.split2 {w:World} (h:Holds w0 K L w) (E:aq L As R):∃C1 C2,aO As C1 w∧aO R C2 w∧(∀k,C1 k→¬C2 k)∧cJ K C1 w0 w∧∀Bs l w',cJ C1 l w w'→aO Bs l w'→Holds w0 K (R++Bs) w':=by
 have h0:=h
 obtain⟨C,hL,hx⟩:=h
 obtain⟨C1,C2,h1,h2,h3,q⟩:=E C w hL
 refine⟨C1,C2,h1,h2,h3,⟨hx.1,fun k hk=>hx.2 k ((q k).2 (.inl hk))⟩,fun Bs l w' he hB=>?_⟩
 have hsz:=he.1.size
 have D:aO R C2 w':=h2.loc hsz (fun k hk=>he.1.keep k (h2.lt k hk) (fun h=>h3 k h hk))
 have hd:∀k,C2 k→¬l k:=fun k hk h'=>by
  rcases he.2 k h' with h|h
  ·exact h3 k h hk
  ·have:=h2.lt k hk;omega
 refine⟨_,D.append hB hd,hx.1.trans' he.1 (fun i hi hc=>?_),fun k hk=>?_⟩
 ·rcases hx.2 i ((q i).2 (.inl hc)) with h|h
  ·exact h
  ·omega
 ·have:=hx.1.size
  rcases hk with hk|hk
  ·rcases hx.2 k ((q k).2 (.inr hk)) with h|h
   ·exact .inl h
   ·exact .inr (by omega)
  ·rcases he.2 k hk with h|h
   ·rcases hx.2 k ((q k).2 (.inl h)) with h|h
    ·exact .inl h
    ·exact .inr (by omega)
   ·exact .inr (by omega)
def oj (R:List Asn) (RO:List (Nat×Obj)):List (Nat×Obj)→Prop
 |[]=>True
 |p::ps=>((∃k:Nat,R[k]?=some (obj p.1 p.2))∨∃k:Nat,RO[k]?=some p)∧oj R RO ps
theorem oj.mem {R:List Asn} {RO:List (Nat×Obj)}:∀ {D:List (Nat×Obj)},oj R RO D→∀p∈D,((∃k:Nat,R[k]?=some (obj p.1 p.2))∨∃k:Nat,RO[k]?=some p)
 |[],_,p,hp=>by cases hp
 |q::D,h,p,hp=>by
  rcases bo.1 hp with rfl|hp
  ·exact h.1
  ·exact oj.mem h.2 p hp
theorem aO.mem {b:Nat} {o:Obj}:∀ {R:List Asn} {C:Nat→Prop} {w:World} {k:Nat},R[k]?=some (obj b o)→aO R C w→w.heap[b]?=some o∧C b:=by
 intro R C w k hk h
 obtain⟨C1,C2,h1,_,_,l⟩:=aO.take hk h
 exact⟨h1.2,(l b).2 (.inl ((h1.1 b).2 rfl))⟩
theorem Ro.snoc {RO:List (Nat×Obj)} {b:Nat} {o:Obj} (h:Ro w0 K RO) (hb:w0.heap[b]?=some o) (l:¬K b):Ro w0 K (RO++[(b,o)]):=fun p hp=>by
 rcases bY.1 hp with hp|hp
 ·exact h p hp
 ·rw[List.mem_singleton.1 hp];exact⟨hb,l⟩
section
variable {α β γ δ:Type}
theorem ux {gf:FuncId} {M:List Value} {enc:α→List Value} {xs:List α} {D:List (Nat×Obj)} {ps:List Nat} {assign body:Code} (ao:Ro w0 K RO)
  (hg:ev σ x=some (.func (.func gf) #[] M.toArray)) (a3:∀args w,(callFunc gf args).run P w=.ok (.enter gf args) w) (hY:sA P gf M enc xs D)
  (Inv:List α→β→Prop) (LI:List α→β→List Asn) (X:Code→List α→γ→Prop) (LX:Code→List α→γ→List Asn) (σJ:List α→α→β→δ→List (Nat×Value)) (LJ:List α→α→β→δ→List Asn) (b0:β)
  (h0:Inv [] b0) (Y:aq L (LI [] b0) R) (hD:oj R RO D) (a5:∀x,(enc x).length=ps.length) (a6:∀p∈ps,p<N)
  (J:∀l r pre e post b w1 T,xs=pre++e::post→cJ K T w0 w1→Ro w1 T (RO++[(l,.loop r)])→Inv pre b →
   TC (Fence.wide.inRound l) P w1 T N [] (_root_.Go.Exit.then (fun a w=>∃j,St w1 T N [] (σJ pre e b j) (LJ pre e b j) a w) (fun _ _ _=>False)) assign (Af ps (enc e) σ) (LI pre b))
  (ag:∀l r pre e post b j w1 T,xs=pre++e::post→cJ K T w0 w1→Ro w1 T (RO++[(l,.loop r)])→Inv pre b→TC (Fence.wide.inRound l) P w1 T N [] (RQ Inv LI X LX (pre++[e]) w1 T) body (σJ pre e b j) (LJ pre e b j))
  (Z:∀d b,Inv xs b→TX w0 K N ({ target:=.collected d,args:=#[] }::dfs) Q .normal σ (R++(LI xs b++[gL d])))
  (V:∀d c pre e post b,xs=pre++e::post→X c (pre++[e]) b→TC bF P w0 K N ({ target:=.collected d,args:=#[] }::dfs) Q c σ (R++(LX c (pre++[e]) b++[gL d]))) :
  TC bF P w0 K N dfs Q (.rangeFunc x ps.toArray assign body) σ L:=by
 intro a w ha hw
 obtain⟨C1,C2,g1,g2,g3,gx,I⟩:=hw.split2 Y
 have aw:∀p∈D,w.heap[p.1]?=some p.2∧¬C1 p.1:=fun p hp=>by
  rcases hD.mem p hp with⟨k,hk⟩|⟨k,hk⟩
  ·obtain⟨h1,h2⟩:=aO.mem hk g2
   exact⟨h1,fun h=>g3 _ h h2⟩
  ·refine⟨hw.ro ao hk,fun h=>?_⟩
   obtain⟨h1,h2⟩:=ao _ (aP hk)
   rcases gx.2 _ h with h|h
   ·exact h2 h
   ·have:=lX h1;omega
 have a2:=g1.lt
 have U:∀ {C:Nat→Prop} {W:World},cJ K C w0 W→Ro W C RO:=fun {C W} hx p hp=>by
  obtain⟨h1,h2⟩:=ao p hp
  refine⟨hx.1.at h1 h2,fun h=>?_⟩
  rcases hx.2 _ h with h|h
  ·exact h2 h
  ·have:=lX h1;omega
 refine L8 (gf:=gf) (lb:=M.toArray) (ha.ev hg) a3 (hY w (fun p hp=>(aw p hp).1)) (fun k ⟨p,hp,hk⟩=>⟨hk▸lX (aw p hp).1,rfl⟩) (bq _) (fun e=>by simp[a5])
  (fun pre C W=>∃b,Inv pre b∧aO (LI pre b) C W) (fun c pre C W=>∃b,X c pre b∧aO (LX c pre b) C W)
  (fun pre e a1 C W=>∃b j,Inv pre b∧At N [] (σJ pre e b j) a1∧aO (LJ pre e b j) C W) ?_ ?_ ?_ C1 (fun k hk=>⟨a2 k hk,fun⟨p,hp,e⟩=>(aw p hp).2 (e▸hk)⟩) ⟨b0,h0,g1⟩ ?_ ?_ ?_ ?_
 ·rintro pre C W W' ⟨b,h1,h2⟩ Y hk;exact⟨b,h1,h2.loc Y hk⟩
 ·rintro c pre C W W' ⟨b,h1,h2⟩ Y hk;exact⟨b,h1,h2.loc Y hk⟩
 ·rintro pre e a1 _ C W W' ⟨b,j,h1,h2,h3⟩ Y hk;exact⟨b,j,h1,h2,h3.loc Y hk⟩
 ·rintro l pre e post C W1 G q ⟨b,hb,hi⟩ hn hl ⟨r,hr⟩
  have H:cJ K C w0 W1:=gx.trans q
  refine wpIn_mono (J l r pre e post b W1 C G H ((U H).snoc hr hn) hb _ W1 (ha.zip ps (enc e) a6) ⟨C,hi,cJ.refl _ _⟩) ?_
  rintro ex a' w' O
  cases ex with
  |normal=>
   obtain⟨j,hj,C',a8,a4⟩:=O
   exact⟨C',a4,b,j,hb,hj,a8⟩
  |_=>exact O
 ·rintro l pre e post C W1 a1 G q ⟨b,j,hb,a7,hi⟩ hn hl ⟨r,hr⟩
  have H:cJ K C w0 W1:=gx.trans q
  refine wpIn_mono (ag l r pre e post b j W1 C G H ((U H).snoc hr hn) hb a1 W1 a7 ⟨C,hi,cJ.refl _ _⟩) ?_
  rintro ex a' w' O
  cases ex with
  |normal=>obtain⟨b',h1,C',h2,h3⟩:=O;exact⟨C',h3,b',h1,h2⟩
  |ret=>obtain⟨b',h1,C',h2,h3⟩:=O;exact⟨C',h3,b',h1,h2⟩
  |exit id=>obtain⟨b',h1,C',h2,h3⟩:=O;exact⟨C',h3,b',h1,h2⟩
  |goto id=>obtain⟨b',h1,C',h2,h3⟩:=O;exact⟨C',h3,b',h1,h2⟩
  |panic _=>exact O
  |outgrown=>exact O
 ·rintro d C W q ⟨b,hb,hi⟩ hd a0 E
  refine Z d b hb _ W ⟨ha.1,by rw[←ha.2.1],ha.2.2⟩ (I _ (fun k=>C k∨k=d) W ⟨q.1,fun k hk=>?_⟩ ?_)
  ·rcases hk with hk|rfl
   ·exact q.2 k hk
   ·exact .inr ⟨hd,lX E⟩
  ·exact hi.append (aO.one ⟨fun k=>_root_.Iff.rfl,E⟩) (fun k hk e=>a0 (e▸hk))
 ·rintro d c pre e post C W G q ⟨b,hb,hi⟩ hd a0 E
  refine V d c pre e post b G hb _ W ⟨ha.1,by rw[←ha.2.1],ha.2.2⟩ (I _ (fun k=>C k∨k=d) W ⟨q.1,fun k hk=>?_⟩ ?_)
  ·rcases hk with hk|rfl
   ·exact q.2 k hk
   ·exact .inr ⟨hd,lX E⟩
  ·exact hi.append (aO.one ⟨fun k=>_root_.Iff.rfl,E⟩) (fun k hk e=>a0 (e▸hk))
end
end
def jf:List Nat→Bool
 |[]=>true
 |x::l=>!l.contains x&&jf l
theorem vC:∀ {l:List Nat},jf l=true→l.Nodup
 |[],_=>List.nodup_nil
 |x::l,h=>by
  simp only[jf,aQ,cK] at h
  exact iY.2 ⟨by have:=h.1;simpa using this,vC h.2⟩
open Classical in
noncomputable def dl (D:Nat→Prop):List (Nat×Nat×Value)→List (Nat×Value)
 |[]=>[]
 |(i,t,v)::r=>if D i then (t,v)::dl D r else dl D r
theorem CE {D:Nat→Prop} {σ:List (Nat×Value)}:∀ {l:List (Nat×Nat×Value)} {m i t:Nat} {v:Value},(l.map (fun p=>p.2.1)).Nodup→l[m]?=some (i,t,v)→D i→(dl D l++σ).lookup t=some v
 |[],m,i,t,v,_,hm,_=>by simp at hm
 |(i',t',v')::r,0,i,t,v,hu,hm,hd=>by
  simp at hm
  obtain⟨rfl,rfl,rfl⟩:=hm
  simp[dl,hd]
 |(i',t',v')::r,m+1,i,t,v,hu,hm,hd=>by
  simp only[av,iY] at hu
  have q:r[m]?=some (i,t,v):=by simpa using hm
  have G:=CE (σ:=σ) hu.2 q hd
  have E:(t==t')=false:=by
   have:t∈r.map (fun p=>p.2.1):=aU.2 ⟨_,aP q,rfl⟩
   simp;rintro rfl;exact hu.1 this
  simp only[dl]
  split
  ·simp only[aX,dM,E];exact G
  ·exact G
theorem jX {D:Nat→Prop} {σ:List (Nat×Value)} {l:List (Nat×Nat×Value)} {m i t:Nat} {v:Value} (hu:jf (l.map (fun p=>p.2.1))=true) (hm:l[m]?=some (i,t,v)) (hd:D i):(dl D l++σ).lookup t=some v:=CE (vC hu) hm hd
theorem zbA {D:Nat→Prop} {σ:List (Nat×Value)} {t:Nat} {v:Value}:∀ {l:List (Nat×Nat×Value)},(l.map (fun p=>p.2.1)).contains t=false→σ.lookup t=some v→(dl D l++σ).lookup t=some v
 |[],_,h=>h
 |(i',t',v')::r,hc,h=>by
  simp only[av,gC,bL] at hc
  have q:=zbA (D:=D) hc.2 h
  simp only[dl]
  split
  ·simp only[aX,dM,hc.1];exact q
  ·exact q
theorem Gj {D:Nat→Prop} {σ:List (Nat×Value)} {t:Nat}:∀ {l:List (Nat×Nat×Value)},(l.map (fun p=>p.2.1)).contains t=false→(dl D l++σ).lookup t=σ.lookup t
 |[],_=>rfl
 |(i',t',v')::r,hc=>by
  simp only[av,gC,bL] at hc
  have q:=Gj (D:=D) (σ:=σ) hc.2
  simp only[dl]
  split
  ·simp only[aX,dM,hc.1];exact q
  ·exact q
theorem Gk {D:Nat→Prop} {σ:List (Nat×Value)} {q:List (Nat×Nat×Value)} {m i t:Nat} {v:Value} (hu:(q.map (fun p=>p.2.1)).Nodup) (hi:(q.map (fun p=>p.1)).Nodup) (hm:q[m]?=some (i,t,v)) :
  qO ((t,v)::(dl D q++σ)) (dl (fun j=>D j∨j=i) q++σ):=by
 have key:∀ (l:List (Nat×Nat×Value)) (s:Nat) (u:Value),(∀p∈l,p.1=i→p.2.1=t∧p.2.2=v)→(∀p∈l,p.2.1=t→p.1=i)→(Go.Proofs.YtifpjbgnikjglaaGreatDoor.dl (fun j=>D j∨j=i) l++σ).lookup s=some u→s≠t→(Go.Proofs.YtifpjbgnikjglaaGreatDoor.dl D l++σ).lookup s=some u:=by
  intro l
  induction l with
  |nil=>intro s u _ _ h _;exact h
  |cons p l I=>
   obtain⟨T,t',V⟩:=p
   intro s u h1 h2 h E
   have I:=fun h=>I s u (fun p hp=>h1 p (ak _ hp)) (fun p hp=>h2 p (ak _ hp)) h E
   simp only[Go.Proofs.YtifpjbgnikjglaaGreatDoor.dl] at h ⊢
   by_cases hd:D T
   ·rw[am (.inl hd)] at h
    rw[am hd]
    simp only[aX,dM] at h ⊢
    split at h
    ·exact h
    ·exact I h
   ·rw[aj hd]
    by_cases H:T=i
    ·rw[am (.inr H)] at h
     obtain⟨h3,_⟩:=h1 _ (ar ..) H
     have U:t'=t:=h3
     simp only[aX,dM] at h
     split at h
     ·rename_i e
      exact absurd ((by simpa using e:s=t').trans U) E
     ·exact I h
    ·rw[aj (by rintro (h | h);exact hd h;exact H h)] at h
     exact I h
 have h1:∀p∈q,p.1=i→p.2.1=t∧p.2.2=v:=by
  intro p hp e
  obtain⟨n,J⟩:=ia.1 hp
  have e1:(q.map (fun p=>p.1))[n]?=some i:=by simp[J,e]
  have e2:(q.map (fun p=>p.1))[m]?=some i:=by simp[hm]
  have O:n<(q.map (fun p=>p.1)).length:=(au.1 e1).1
  have:=(tn O hi).1 (e1.trans e2.symm)
  subst this
  rw[J] at hm;cases hm;exact⟨rfl,rfl⟩
 have h2:∀p∈q,p.2.1=t→p.1=i:=by
  intro p hp e
  obtain⟨n,J⟩:=ia.1 hp
  have e1:(q.map (fun p=>p.2.1))[n]?=some t:=by simp[J,e]
  have e2:(q.map (fun p=>p.2.1))[m]?=some t:=by simp[hm]
  have O:n<(q.map (fun p=>p.2.1)).length:=(au.1 e1).1
  have:=(tn O hu).1 (e1.trans e2.symm)
  subst this
  rw[J] at hm;cases hm;rfl
 intro a N dfs ha
 refine⟨ha.1,ha.2.1,fun s u M=>?_⟩
 by_cases G:s=t
 ·subst G
  have:=CE (σ:=σ) (D:=fun j=>D j∨j=i) hu hm (.inr rfl)
  rw[this] at M;cases M
  exact ha.2.2 _ _ (by simp[dM])
 ·refine ha.2.2 s u ?_
  have E:(s==t)=false:=by simpa using G
  simp only[dM,E]
  exact key q s u h1 h2 M G
theorem Gm {D:Nat→Prop} {i:Nat}:∀ {l:List (Nat×Nat×Value)},(l.map (fun p=>p.1)).contains i=false→dl (fun j=>D j∨j=i) l=dl D l
 |[],_=>rfl
 |(i',t',v')::r,hc=>by
  simp only[av,gC,bL] at hc
  have E:=Gm (D:=D) hc.2
  have q:¬i'=i:=by have:=hc.1;simp at this;exact fun h=>this h.symm
  simp only[dl,E]
  by_cases hd:D i'
  ·rw[am (.inl hd),am hd]
  ·rw[aj hd,aj (by rintro (h | h);exact hd h;exact q h)]
theorem vD:∀ {D:Nat→Prop} {l:List (Nat×Nat×Value)},(∀p∈l,D p.1)→dl D l=l.map (fun p=>p.2)
 |D,[],_=>rfl
 |D,(i',t',v')::r,h=>by
  simp only[dl,av]
  rw[am (h _ (ar ..)),vD (fun p hp=>h p (ak _ hp))]
theorem Ag:∀ {l:List (Nat×Nat×Value)},dl (fun _=>False) l=[]
 |[]=>rfl
 |(i',t',v')::r=>by simp[dl,Ag]
def vE (acc:List (List Nat)) (o:Oper):List (List Nat):=acc++[(jD o++(jD o).flatMap (fun j=>acc.getD j [])).eraseDups]
def rB (l:List Oper):List (List Nat):=l.foldl vE []
def vF (l:List Oper) (n:Nat):Bool:=((rB l).zipIdx.drop n).all fun p=>(List.range p.2).all fun j=>p.1.contains j
def Gn (l:List Oper) (acc:List (List Nat)):Prop :=
 ∀i o,i<acc.length→l[i]?=some o→∀j∈acc.getD i [],∀ (D:Nat→Prop),(∀k q,l[k]?=some q→D k→∀j∈jD q,D j)→(∀j∈jD o,D j)→D j
theorem CF:∀ (l done:List Oper) (acc:List (List Nat)),acc.length=done.length→Gn (done++l) acc→(l.foldl vE acc).length=(done++l).length∧Gn (done++l) (l.foldl vE acc)
 |[],done,acc,hl,hB=>⟨by simpa using hl,hB⟩
 |o::l,done,acc,hl,hB=>by
  have:=CF l (done++[o]) (vE acc o) (by simp[vE,hl]) (by
   rw[aA]
   intro i T hi H j hj D O hd
   unfold vE at hi hj
   by_cases E:i<acc.length
   ·rw[cC,eK E] at hj
    exact hB i T E H j (by rw[cC];exact hj) D O hd
   ·have M:i=acc.length:=by simp at hi;omega
    subst M
    have G:o=T:=by rw[hl] at H;simpa using H
    subst G
    rw[cC] at hj
    simp only[List.getElem?_concat_length,Option.getD_some,List.mem_eraseDups,bY,iI] at hj
    rcases hj with hj|⟨k,hk,hj⟩
    ·exact hd j hj
    ·have J:=hd k hk
     by_cases I:k<acc.length
     ·obtain⟨ok,q⟩:∃ok,(done++o::l)[k]?=some ok:=⟨_,aJ (by simp;omega)⟩
      exact hB k ok I q j hj D O (O k ok q J)
     ·rw[cC,ib (by omega)] at hj
      simp at hj)
  rwa [aA] at this
theorem CG (l:List Oper):(rB l).length=l.length:=(CF l [] [] rfl (fun i o h=>by simp at h)).1
theorem Gp (l:List Oper) (i:Nat) (o:Oper) (E:l[i]?=some o):∀j∈(rB l).getD i [],∀ (D:Nat→Prop),(∀k q,l[k]?=some q→D k→∀j∈jD q,D j)→(∀j∈jD o,D j)→D j :=
 (CF l [] [] rfl (fun i o h=>by simp at h)).2 i o (by have:=CG l;unfold rB at this;rw[this];exact (au.1 E).1) E
section
variable {F:Fence} {P:Program} {w0:World} {K:Nat→Prop} {N:Nat} {dfs:List Deferred} {Q:Exit→Act→World→Prop} {σ:List (Nat×Value)} {L:List Asn}
def bR (F:Fence) (P:Program) (w0:World) (K:Nat→Prop) (N:Nat) (dfs:List Deferred) (Q:Exit→Act→World→Prop) (ops:Array Oper) (σ:List (Nat×Value)) (L:List Asn) (l:List (Nat×Nat×Value)):List Oper→Nat→Prop
 |[],_=>True
 |o::rest,i=>(∀D:Nat→Prop,¬D i→(∀j∈jD o,D j)→Clo ops D→jf (l.map (fun p=>p.2.1))=true→jf (l.map (fun p=>p.1))=true →
   TO F P w0 K N dfs ops (_root_.Go.Exit.then (fun a w=>At N dfs (dl (fun j=>D j∨j=i) l++σ) a∧Holds w0 K L w) Q) [o] (dl D l++σ) L)∧bR F P w0 K N dfs Q ops σ L l rest (i+1)
theorem bR.nil {ops:Array Oper} {l:List (Nat×Nat×Value)} {i:Nat}:bR F P w0 K N dfs Q ops σ L l [] i:=trivial
theorem zac {ops:Array Oper} {l:List (Nat×Nat×Value)} {o:Oper} {rest:List Oper} {i:Nat} (h:∀D:Nat→Prop,¬D i→(∀j∈jD o,D j)→Clo ops D→jf (l.map (fun p=>p.2.1))=true→jf (l.map (fun p=>p.1))=true →
   TO F P w0 K N dfs ops (_root_.Go.Exit.then (fun a w=>At N dfs (dl (fun j=>D j∨j=i) l++σ) a∧Holds w0 K L w) Q) [o] (dl D l++σ) L) (q:bR F P w0 K N dfs Q ops σ L l rest (i+1)) :
  bR F P w0 K N dfs Q ops σ L l (o::rest) i:=⟨h,q⟩
theorem bR.get {ops:Array Oper} {q:List (Nat×Nat×Value)}:∀ {l:List Oper} {k:Nat},bR F P w0 K N dfs Q ops σ L q l k→∀i o,l[i]?=some o→∀D:Nat→Prop,¬D (k+i)→(∀j∈jD o,D j)→Clo ops D→jf (q.map (fun p=>p.2.1))=true→jf (q.map (fun p=>p.1))=true →
   TO F P w0 K N dfs ops (_root_.Go.Exit.then (fun a w=>At N dfs (dl (fun j=>D j∨j=k+i) q++σ) a∧Holds w0 K L w) Q) [o] (dl D q++σ) L
 |[],k,_,i,o,h=>by simp at h
 |x::l,k,h,0,o,ho=>by simp at ho;subst ho;exact h.1
 |x::l,k,h,i+1,o,ho=>by
  have:=bR.get h.2 i o (by simpa using ho)
  rwa [show k+1+i=k+(i+1) by omega] at this
theorem Ah {ops:Array Oper} {l:List (Nat×Nat×Value)} {D:Nat→Prop} (m:Nat) {i t:Nat} {v:Value} (hu:jf (l.map (fun p=>p.2.1))=true) (hi:jf (l.map (fun p=>p.1))=true) (hm:l[m]?=some (i,t,v)) :
  TO F P w0 K N dfs ops (_root_.Go.Exit.then (fun a w=>At N dfs (Go.Proofs.YtifpjbgnikjglaaGreatDoor.dl (fun j=>D j∨j=i) l++σ) a∧Holds w0 K L w) Q) [] ((t,v)::(Go.Proofs.YtifpjbgnikjglaaGreatDoor.dl D l++σ)) L:=fun a w ha q=>⟨Gk (vC hu) (vC hi) hm _ _ _ ha,q⟩
theorem Mx {ops:Array Oper} {l:List (Nat×Nat×Value)} {D:Nat→Prop} {i:Nat} (h:(l.map (fun p=>p.1)).contains i=false) :
  TO F P w0 K N dfs ops (_root_.Go.Exit.then (fun a w=>At N dfs (dl (fun j=>D j∨j=i) l++σ) a∧Holds w0 K L w) Q) [] (dl D l++σ) L:=fun a w ha q=>⟨by rw[Gm h];exact ha,q⟩
theorem lZ {ops:Array Oper} {S:List (Nat×Value)} {j t:Nat} {b:Bool} (hj:(ops[j]?).bind (·.dst)=some t) (h:S.lookup t=some (.bool b)):gd ops S (some (j,b))=some true:=by
 simp[gd,hj,h]
theorem We {ops:Array Oper} {S:List (Nat×Value)} {j t:Nat} {b:Bool} (hj:(ops[j]?).bind (·.dst)=some t) (h:S.lookup t=some (.bool (!b))):gd ops S (some (j,b))=some false:=by
 simp[gd,hj,h]
theorem Wf {ops:Array Oper} {S:List (Nat×Value)} {j t:Nat} {b:Bool} (hj:(ops[j]?).bind (·.dst)=some t) (h:S.lookup t=some undef):gd ops S (some (j,b))=some false:=by
 simp[gd,hj,h,undef]
theorem My {id:Nat} {pre tail:List Oper} (E:List (Nat×Nat×Value)) (hm:P.follows .mixedOrders=true)
  (a7:((pre++tail).zipIdx.all fun (o,i)=>(jD o).all fun j=>decide (j<i))=true) (hT:vF (pre++tail) pre.length=true)
  (hval:E.all (fun p=>decide (p.1<pre.length))=true) (hu:jf (E.map (fun p=>p.2.1))=true) (hi:jf (E.map (fun p=>p.1))=true)
  (ao:bR F P w0 K N dfs Q (pre++tail).toArray σ L E pre 0)
  (O:TO F P w0 K N dfs (pre++tail).toArray Q tail (E.map (fun p=>p.2)++σ) L):TC F P w0 K N dfs Q (.region id (pre++tail).toArray true) σ L:=by
 intro a w ha hw
 have a2:∀ (D:Nat→Prop),Clo (pre++tail).toArray D→∀i o,pre.length≤i→(pre++tail)[i]?=some o→(∀j∈jD o,D j)→∀j<i,D j:=by
  intro D G i o hi M hd j hj
  have aw:=CG (pre++tail)
  have a0:i<(rB (pre++tail)).length:=by rw[aw];exact (au.1 M).1
  have h1:=bd.1 hT ((rB (pre++tail))[i],i) (by
   rw[ia]
   refine⟨i-pre.length,?_⟩
   rw[gD,show pre.length+(i-pre.length)=i by omega,kI,aJ a0];simp)
  have h2:=bd.1 h1 j (by simpa using hj)
  have h3:j∈(rB (pre++tail)).getD i []:=by
   rw[cC,aJ a0];simpa using h2
  exact Gp _ i o M j h3 D (fun k o' hk=>G k o' (by simpa using hk)) hd
 obtain⟨J,hJ⟩:∃J:(Nat→Prop)→Act→World→Prop,J=(fun D a w=>Clo (pre++tail).toArray D∧((∃k,0<k∧(∀j,D j↔j<pre.length+k)∧wpListIn F 0 P (pre++tail).toArray Q (tail.drop k) a w)∨((∀j,D j→j<pre.length)∧At N dfs (dl D E++σ) a∧Holds w0 K L w))):=⟨_,rfl⟩
 refine Cx hm (by simpa using a7) J (by subst hJ;exact
  ⟨fun i o _ h=>h.elim,.inr ⟨fun _ h=>h.elim,by rw[Ag];exact ha,hw.drew⟩⟩) ?_ ?_
 ·have all:∀ (l:List Oper) (k:Nat),(∀i o,l[i]?=some o→(pre++tail)[k+i]?=some o)→gi F 0 P (pre++tail).toArray Q J l k:=by
   intro l
   induction l with
   |nil=>intro k _;trivial
   |cons o l ih=>
    intro k hl
    refine⟨?_,ih (k+1) (fun i o' a5=>by have:=hl (i+1) o' (by simpa using a5);rwa [show k+1+i=k+(i+1) by omega])⟩
    have M:(pre++tail)[k]?=some o:=hl 0 o rfl
    subst hJ
    rintro D a w hn hd ⟨G,hI⟩
    have V:Clo (pre++tail).toArray (fun j=>D j∨j=k):=G.add (by simpa using M) hd
    have tl:∀ (m:Nat),(∀j,D j↔j<pre.length+m)→wpListIn F 0 P (pre++tail).toArray Q (tail.drop m) a w→pre.length≤k →
      wpListIn F 0 P (pre++tail).toArray (_root_.Go.Exit.then (fun a w=>Clo (pre++tail).toArray (fun j=>D j∨j=k)∧((∃W,0<W∧(∀j,(D j∨j=k)↔j<pre.length+W)∧wpListIn F 0 P (pre++tail).toArray Q (tail.drop W) a w)∨((∀j,(D j∨j=k)→j<pre.length)∧At N dfs (dl (fun j=>D j∨j=k) E++σ) a∧Holds w0 K L w))) Q) [o] a w:=by
     intro m H q hk
     have bh:k=pre.length+m:=by
      have h1:¬k<pre.length+m:=fun h=>hn ((H k).2 h)
      have h2:=a2 D G k o hk M hd
      by_cases h3:pre.length+m<k
      ·have:=(H _).1 (h2 _ h3);omega
      ·omega
     have Z:tail.drop m=o::tail.drop (m+1):=by
      rw[fX hk,show k-pre.length=m by omega] at M
      obtain⟨h1,h2⟩:=au.1 M
      rw[←h2];exact aR h1
     rw[Z] at q
     have ag:∀a' w',wpListIn F 0 P (pre++tail).toArray Q (tail.drop (m+1)) a' w'→(Clo (pre++tail).toArray (fun j=>D j∨j=k)∧((∃W,0<W∧(∀j,(D j∨j=k)↔j<pre.length+W)∧wpListIn F 0 P (pre++tail).toArray Q (tail.drop W) a' w')∨((∀j,(D j∨j=k)→j<pre.length)∧At N dfs (dl (fun j=>D j∨j=k) E++σ) a'∧Holds w0 K L w'))) :=
      fun a' w' h=>⟨V,.inl ⟨m+1,by omega,fun j=>by rw[H];omega,h⟩⟩
     have a1:wpListIn F 0 P (pre++tail).toArray (_root_.Go.Exit.then (wpListIn F 0 P (pre++tail).toArray Q (tail.drop (m+1))) Q) [o] a w:=by
      simp only[wpListIn] at q ⊢
      split
      ·rename_i Y
       rw[am Y] at q
       unfold pn at q ⊢
       refine⟨q.1,?_⟩
       have T:=q.2
       generalize (o.semAt F.round a.eval).run P w=r at *
       cases r with
       |ok x w'=>
        cases x<;>simp only[gG] at T ⊢ <;>
         first
          |exact T
          |exact⟨T.1,ls T.2 (fun e a3 he=>by cases e<;>exact he)⟩
          |exact⟨T.1,mz T.2 (fun _ _ he=>he)⟩
          |exact⟨T.1,lu T.2 (fun e a3 he=>by cases e<;>exact he)⟩
       |halt x w'=>cases x<;>simp only[gG] at T ⊢<;>exact T
      ·rename_i Y
       rw[aj Y] at q
       exact q
     exact qN ag a1
    rcases hI with⟨m,a6,H,q⟩|⟨H,I,U⟩
    ·refine tl m H q ?_
     have:¬k<pre.length+m:=fun h=>hn ((H k).2 h)
     omega
    ·by_cases hk:k<pre.length
     ·have a4:pre[k]?=some o:=by rw[eK hk] at M;exact M
      have:=ao.get k o a4 D (by rwa [cf]) hd G hu hi a w I U
      rw[cf] at this
      refine qN (fun a' w' h=>⟨V,.inr ⟨fun j hj=>?_,h.1,h.2⟩⟩) this
      rcases hj with hj|rfl
      ·exact H j hj
      ·exact hk
     ·have hall:=a2 D G k o (by omega) M hd
      have bk:k=pre.length:=by
       by_cases h:pre.length<k
       ·have:=H _ (hall _ h);omega
       ·omega
      have bb:∀j,D j↔j<pre.length+0:=fun j=>⟨fun h=>by have:=H j h;omega,fun h=>hall j (by omega)⟩
      refine tl 0 bb ?_ (by omega)
      rw[el]
      refine O a w ?_ U
      rw[vD (fun p hp=>hall _ (by have:=bd.1 hval p hp;simp at this;omega))] at I
      exact I
  exact all _ 0 (fun i o M=>by simpa using M)
 ·subst hJ
  rintro D a w H ⟨G,hI⟩
  have hsz:(pre++tail).toArray.size=pre.length+tail.length:=by simp
  rcases hI with⟨m,a6,a9,q⟩|⟨a8,I,U⟩
  ·have:tail.length≤m:=by
    by_cases h:m<tail.length
    ·have:=(a9 (pre.length+m)).1 (H _ (by rw[hsz];omega));omega
    ·omega
   rw[bJ this] at q
   exact q
  ·have Z:tail=[]:=by
    rcases tail with _|⟨o,tail⟩
    ·rfl
    ·have:=a8 pre.length (H _ (by rw[hsz];simp));omega
   subst Z
   rw[vD (fun p hp=>H _ (by have:=bd.1 hval p hp;simp at this;rw[hsz];omega))] at I
   exact O a w I U
theorem Gq {D:Nat→Prop} {t:Nat} {v:Value}:∀ {l:List (Nat×Nat×Value)},(l.map (fun p=>p.2.1)).contains t=false→qO ((t,v)::(Go.Proofs.YtifpjbgnikjglaaGreatDoor.dl D l++σ)) (Go.Proofs.YtifpjbgnikjglaaGreatDoor.dl D l++((t,v)::σ)):=by
 intro l hc a N dfs ha
 refine⟨ha.1,ha.2.1,fun s u G=>ha.2.2 s u ?_⟩
 by_cases q:s=t
 ·subst q
  rw[Gj hc] at G
  simpa [dM] using G
 ·have E:(s==t)=false:=by simpa using q
  have:∀ (vs:List (Nat×Nat×Value)),(Go.Proofs.YtifpjbgnikjglaaGreatDoor.dl D vs++((t,v)::σ)).lookup s=(Go.Proofs.YtifpjbgnikjglaaGreatDoor.dl D vs++σ).lookup s:=by
   intro vs
   induction vs with
   |nil=>simp[Go.Proofs.YtifpjbgnikjglaaGreatDoor.dl,dM,E]
   |cons p vs H=>
    obtain⟨i,t',I⟩:=p
    simp only[Go.Proofs.YtifpjbgnikjglaaGreatDoor.dl]
    split
    ·simp only[aX,dM,H]
    ·exact H
  rw[this] at G
  simp only[dM,E];exact G
theorem Ai {ops:Array Oper} {Q:Exit→Act→World→Prop} {o:Oper} {r:List Oper} {a:Act} {w:World} (l:wpListIn F 0 P ops Q (o::r) a w):wpListIn F 0 P ops (_root_.Go.Exit.then (wpListIn F 0 P ops Q r) Q) [o] a w:=by
 simp only[wpListIn] at l ⊢
 split
 ·rename_i D
  rw[am D] at l
  unfold pn at l ⊢
  refine⟨l.1,?_⟩
  have q:=l.2
  generalize (o.semAt F.round a.eval).run P w=r at *
  cases r with
  |ok x w'=>
   cases x<;>simp only[gG] at q ⊢ <;>
    first
     |exact q
     |exact⟨q.1,ls q.2 (fun e E he=>by cases e<;>exact he)⟩
     |exact⟨q.1,mz q.2 (fun _ _ he=>he)⟩
     |exact⟨q.1,lu q.2 (fun e E he=>by cases e<;>exact he)⟩
  |halt x w'=>cases x<;>simp only[gG] at q ⊢<;>exact q
 ·rename_i D
  rw[aj D] at l
  exact l
theorem Gs {l:List Oper} {n:Nat} (J:vF l n=true):∀ (D:Nat→Prop),Clo l.toArray D→∀i o,n≤i→l[i]?=some o→(∀j∈jD o,D j)→∀j<i,D j:=by
 intro D G i o hi H hd j hj
 have q:=CG l
 have E:i<(rB l).length:=by rw[q];exact (au.1 H).1
 have h1:=bd.1 J ((rB l)[i],i) (by
  rw[ia]
  refine⟨i-n,?_⟩
  rw[gD,show n+(i-n)=i by omega,kI,aJ E];simp)
 have h2:=bd.1 h1 j (by simpa using hj)
 have h3:j∈(rB l).getD i []:=by
  rw[cC,aJ E];simpa using h2
 exact Gp _ i o H j h3 D (fun k I hk=>G k I (by simpa using hk)) hd
def dh (F:Fence) (P:Program) (w0:World) (K:Nat→Prop) (N:Nat) (dfs:List Deferred) (Q:Exit→Act→World→Prop) (ops:Array Oper) (σ:List (Nat×Value)) (L:List Asn) (l:List (Nat×Nat×Value)) (e:Nat):List Oper→Nat→Prop
 |[],_=>True
 |o::rest,i=>(i≠e→∀D:Nat→Prop,¬D i→(∀j∈jD o,D j)→Clo ops D→jf (l.map (fun p=>p.2.1))=true→jf (l.map (fun p=>p.1))=true →
   TO F P w0 K N dfs ops (_root_.Go.Exit.then (fun a w=>At N dfs (dl (fun j=>D j∨j=i) l++σ) a∧Holds w0 K L w) Q) [o] (dl D l++σ) L)∧dh F P w0 K N dfs Q ops σ L l e rest (i+1)
theorem dh.nil {ops:Array Oper} {l:List (Nat×Nat×Value)} {e i:Nat}:dh F P w0 K N dfs Q ops σ L l e [] i:=trivial
theorem gQ {ops:Array Oper} {l:List (Nat×Nat×Value)} {o:Oper} {rest:List Oper} {e i:Nat} (h:∀D:Nat→Prop,¬D i→(∀j∈jD o,D j)→Clo ops D→jf (l.map (fun p=>p.2.1))=true→jf (l.map (fun p=>p.1))=true →
   TO F P w0 K N dfs ops (_root_.Go.Exit.then (fun a w=>At N dfs (dl (fun j=>D j∨j=i) l++σ) a∧Holds w0 K L w) Q) [o] (dl D l++σ) L) (q:dh F P w0 K N dfs Q ops σ L l e rest (i+1)) :
  dh F P w0 K N dfs Q ops σ L l e (o::rest) i:=⟨fun _=>h,q⟩
theorem tD {ops:Array Oper} {l:List (Nat×Nat×Value)} {o:Oper} {rest:List Oper} {e:Nat} (q:dh F P w0 K N dfs Q ops σ L l e rest (e+1)) :
  dh F P w0 K N dfs Q ops σ L l e (o::rest) e:=⟨fun h=>absurd rfl h,q⟩
theorem dh.get {ops:Array Oper} {q:List (Nat×Nat×Value)} {e:Nat}:∀ {l:List Oper} {k:Nat},dh F P w0 K N dfs Q ops σ L q e l k→∀i o,l[i]?=some o→k+i≠e→∀D:Nat→Prop,¬D (k+i)→(∀j∈jD o,D j)→Clo ops D→jf (q.map (fun p=>p.2.1))=true→jf (q.map (fun p=>p.1))=true →
   TO F P w0 K N dfs ops (_root_.Go.Exit.then (fun a w=>At N dfs (dl (fun j=>D j∨j=k+i) q++σ) a∧Holds w0 K L w) Q) [o] (dl D q++σ) L
 |[],k,_,i,o,h=>by simp at h
 |x::l,k,h,0,o,ho=>by simp at ho;subst ho;exact h.1
 |x::l,k,h,i+1,o,ho=>by
  have:=dh.get h.2 i o (by simpa using ho)
  rwa [show k+1+i=k+(i+1) by omega] at this
theorem Aj {id:Nat} {l:List Oper} {β:Type} (n e:Nat) (o:Oper) (E:List (Nat×Nat×Value)) (s1:β→List (Nat×Value)) (L1:β→List Asn) (hm:P.follows .mixedOrders=true)
  (a9:(l.zipIdx.all fun (o,i)=>(jD o).all fun j=>decide (j<i))=true) (hT:vF l n=true) (ho:l[e]?=some o) (b3:e<n) (a7:n≤l.length)
  (hval:E.all (fun p=>decide (p.1<n)&&p.1 != e)=true) (hu:jf (E.map (fun p=>p.2.1))=true) (hi:jf (E.map (fun p=>p.1))=true)
  (aw:dh F P w0 K N dfs Q l.toArray σ L E e (l.take n) 0) (ag:∀b,dh F P w0 K N dfs Q l.toArray (s1 b++σ) (L1 b) E e (l.take n) 0)
  (a2:∀D:Nat→Prop,¬D e→(∀j∈jD o,D j)→Clo l.toArray D→TO F P w0 K N dfs l.toArray (_root_.Go.Exit.then (fun a w=>∃b,At N dfs (dl D E++(s1 b++σ)) a∧Holds w0 K (L1 b) w) Q) [o] (dl D E++σ) L)
  (V:∀b,TO F P w0 K N dfs l.toArray Q (l.drop n) (E.map (fun p=>p.2)++(s1 b++σ)) (L1 b)):TC F P w0 K N dfs Q (.region id l.toArray true) σ L:=by
 intro a w ha hw
 have a3:=Gs hT
 have b4:e<l.length:=(au.1 ho).1
 obtain⟨J,hJ⟩:∃J:(Nat→Prop)→Act→World→Prop,J=(fun D a w=>Clo l.toArray D∧((∃k,n<k∧(∀j,D j↔j<k)∧wpListIn F 0 P l.toArray Q (l.drop k) a w) ∨
  ((∀j,D j→j<n)∧((¬D e∧At N dfs (dl D E++σ) a∧Holds w0 K L w)∨(D e∧∃b,At N dfs (dl D E++(s1 b++σ)) a∧Holds w0 K (L1 b) w))))):=⟨_,rfl⟩
 have bk:∀ (D:Nat→Prop),dl (fun j=>D j∨j=e) E=dl D E:=fun D=>by
  have:∀ (vs:List (Nat×Nat×Value)),vs.all (fun p=>decide (p.1<n)&&p.1 != e)=true→dl (fun j=>D j∨j=e) vs=dl D vs:=by
   intro vs
   induction vs with
   |nil=>intro _;rfl
   |cons p vs ih=>
    obtain⟨i,t,v⟩:=p
    intro h
    simp only[List.all_cons,aQ,decide_eq_true_eq,cQ,ne_eq] at h
    simp only[dl,ih h.2]
    by_cases hd:D i
    ·rw[am (.inl hd),am hd]
    ·rw[aj hd,aj (by rintro (h' | h');exact hd h';exact h.1.2 h')]
  exact this E hval
 have ao:∀p∈E,p.1<n:=fun p hp=>by
  have:=bd.1 hval p hp;simp only[aQ,decide_eq_true_eq] at this;exact this.1
 refine Cx hm (by simpa using a9) J (by subst hJ;exact⟨fun i o _ h=>h.elim,.inr ⟨fun _ h=>h.elim,.inl ⟨fun h=>h,by rw[Ag];exact ha,hw.drew⟩⟩⟩) ?_ ?_
 ·have all:∀ (m:List Oper) (k:Nat),(∀i o,m[i]?=some o→l[k+i]?=some o)→gi F 0 P l.toArray Q J m k:=by
   intro m
   induction m with
   |nil=>intro k _;trivial
   |cons q m ih=>
    intro k hl
    refine⟨?_,ih (k+1) (fun i o' a6=>by have:=hl (i+1) o' (by simpa using a6);rwa [show k+1+i=k+(i+1) by omega])⟩
    have Z:l[k]?=some q:=hl 0 q rfl
    subst hJ
    rintro D a w hn hd ⟨T,Y⟩
    have O:Clo l.toArray (fun j=>D j∨j=k):=T.add (by simpa using Z) hd
    have b2:k<l.length:=(au.1 Z).1
    have W:l.drop k=q::l.drop (k+1):=by
     obtain⟨h1,h2⟩:=au.1 Z
     rw[←h2];exact aR h1
    rcases Y with⟨m,a8,U,M⟩|⟨U,Y⟩
    ·have bb:k=m:=by
      have h1:¬k<m:=fun h=>hn ((U k).2 h)
      have h2:=a3 D T k q (by omega) Z hd
      by_cases h3:m<k
      ·have:=(U _).1 (h2 _ h3);omega
      ·omega
     subst bb
     rw[W] at M
     refine qN (fun a' w' h=>⟨O,.inl ⟨k+1,by omega,fun j=>?_,h⟩⟩) (Ai M)
     show D j∨j=k↔_
     rw[U];omega
    ·by_cases hk:k<n
     ·by_cases a1:k=e
      ·subst a1
       have a5:q=o:=by rw[ho] at Z;exact (mL Z).symm
       subst a5
       rcases Y with⟨G,H,I⟩|⟨G,_⟩
       ·refine qN (fun a' w' h=>⟨O,.inr ⟨fun j hj=>?_,.inr ⟨.inr rfl,?_⟩⟩⟩) (a2 D G hd T a w H I)
        ·rcases hj with hj|rfl
         ·exact U j hj
         ·exact hk
        ·rw[bk];exact h
       ·exact absurd G hn
      ·have a0:(l.take n)[k]?=some q:=by rw[oU hk];exact Z
       rcases Y with⟨G,H,I⟩|⟨G,b,H,I⟩
       ·have:=aw.get k q a0 (by omega) D (by rwa [cf]) hd T hu hi a w H I
        rw[cf] at this
        refine qN (fun a' w' h=>⟨O,.inr ⟨fun j hj=>?_,.inl ⟨?_,h.1,h.2⟩⟩⟩) this
        ·rcases hj with hj|rfl
         ·exact U j hj
         ·exact hk
        ·rintro (h | h)
         ·exact G h
         ·exact a1 h.symm
       ·have:=(ag b).get k q a0 (by omega) D (by rwa [cf]) hd T hu hi a w H I
        rw[cf] at this
        refine qN (fun a' w' h=>⟨O,.inr ⟨fun j hj=>?_,.inr ⟨.inl G,b,h.1,h.2⟩⟩⟩) this
        rcases hj with hj|rfl
        ·exact U j hj
        ·exact hk
     ·have hall:=a3 D T k q (by omega) Z hd
      have bh:k=n:=by
       by_cases h:n<k
       ·have:=U _ (hall _ h);omega
       ·omega
      subst bh
      rcases Y with⟨G,_⟩|⟨G,b,H,I⟩
      ·exact absurd (hall e (by omega)) G
      ·have M:wpListIn F 0 P l.toArray Q (l.drop k) a w:=by
        refine V b a w ?_ I
        rw[vD (fun p hp=>hall _ (ao p hp))] at H
        exact H
       rw[W] at M
       refine qN (fun a' w' h=>⟨O,.inl ⟨k+1,by omega,fun j=>?_,h⟩⟩) (Ai M)
       refine⟨fun hj=>?_,fun hj=>?_⟩
       ·rcases hj with hj|rfl
        ·have:=U j hj;omega
        ·omega
       ·by_cases h:j=k
        ·exact .inr h
        ·exact .inl (hall j (by omega))
  exact all _ 0 (fun i o ho=>by simpa using ho)
 ·subst hJ
  rintro D a w U ⟨T,Y⟩
  have hsz:l.toArray.size=l.length:=by simp
  rcases Y with⟨m,a8,b0,M⟩|⟨bs,Y⟩
  ·have:l.length≤m:=by
    by_cases h:m<l.length
    ·have:=(b0 m).1 (U _ (by rw[hsz];omega));omega
    ·omega
   rw[bJ this] at M
   exact M
  ·have b1:l.length≤n:=by
    by_cases h:n<l.length
    ·have:=bs n (U _ (by rw[hsz];omega));omega
    ·omega
   rcases Y with⟨G,_⟩|⟨G,b,H,I⟩
   ·exact absurd (U e (by rw[hsz];omega)) G
   ·have a4:∀p∈E,p.1<l.length:=fun p hp=>eG (ao p hp) a7
    have:=V b a w (by
     rw[vD (fun p hp=>U _ (by rw[hsz];exact a4 p hp))] at H
     exact H) I
    rw[bJ (by omega)] at this
    exact this
theorem zcI {id:Nat} {l:List Oper} (n:Nat) (q:List (Nat×Nat×Value)) (hm:P.follows .mixedOrders=true)
  (I:(l.zipIdx.all fun (o,i)=>(jD o).all fun j=>decide (j<i))=true) (J:vF l n=true) (M:n≤l.length)
  (hval:q.all (fun p=>decide (p.1<n))=true) (hu:jf (q.map (fun p=>p.2.1))=true) (hi:jf (q.map (fun p=>p.1))=true)
  (E:bR F P w0 K N dfs Q l.toArray σ L q (l.take n) 0)
  (D:TO F P w0 K N dfs l.toArray Q (l.drop n) (q.map (fun p=>p.2)++σ) L):TC F P w0 K N dfs Q (.region id l.toArray true) σ L:=by
 have H:l.take n++l.drop n=l:=bZ n l
 have G:(l.take n).length=n:=by rw[bD];omega
 have:=My (id:=id) (pre:=l.take n) (tail:=l.drop n) (F:=F) (P:=P) (w0:=w0) (K:=K) (N:=N) (dfs:=dfs) (Q:=Q) (σ:=σ) (L:=L) q hm (by rw[H];exact I) (by rw[H,G];exact J) (by rw[G];exact hval) hu hi (by rw[H];exact E) (by rw[H];exact D)
 rwa [H] at this
theorem evL.nil {σ:List (Nat×Value)}:evL σ []=some []:=rfl
theorem evL.cons {σ:List (Nat×Value)} {x:Operand} {v:Value} {r:List Operand} {l:List Value} (h1:ev σ x=some v) (h2:evL σ r=some l):evL σ (x::r)=some (v::l):=by simp[evL,h1,h2]
theorem evP.nil {σ:List (Nat×Value)}:evP σ []=some []:=rfl
theorem evP.cons {σ:List (Nat×Value)} {i:Nat} {x:Operand} {v:Value} {r:List (Nat×Operand)} {l:List (Nat×Value)} (h1:ev σ x=some v) (h2:evP σ r=some l):evP σ ((i,x)::r)=some ((i,v)::l):=by simp[evP,h1,h2]
theorem xK {σ:List (Nat×Value)}:evO σ none=some none:=rfl
theorem evO.some {σ:List (Nat×Value)} {x:Operand} {v:Value} (h:ev σ x=some v):evO σ (some x)=some (some v):=by simp[evO,h]
end
section
variable {P:Program} {t:TypeId} {x y:Operand} {k:IntKind} {m n r:Int} {w:World} {a b:ad}
theorem uy {u v:Value} {m:Sem Value} (h:u=v) (hb:∀w:World,m.run P w=.ok u w) (w:World):m.run P w=.ok v w:=h▸hb w
theorem dA (h:k.wrap (m+n)=r) (w:World):(do eqGuard .add t x y (.int k m) (.int k n);binOp .add t (.int k m) (.int k n):Sem Value).run P w=.ok (.int k r) w:=by
 subst h;simp[eqGuard,binOp,nR,ap]
theorem k9 (h:k.wrap (m-n)=r) (w:World):(do eqGuard .sub t x y (.int k m) (.int k n);binOp .sub t (.int k m) (.int k n):Sem Value).run P w=.ok (.int k r) w:=by
 subst h;simp[eqGuard,binOp,nR,ap]
theorem Mz (h:k.wrap (m*n)=r) (w:World):(do eqGuard .mul t x y (.int k m) (.int k n);binOp .mul t (.int k m) (.int k n):Sem Value).run P w=.ok (.int k r) w:=by
 subst h;simp[eqGuard,binOp,nR,ap]
theorem zbd (w:World):(do eqGuard .lss t x y (.int k m) (.int k n);binOp .lss t (.int k m) (.int k n):Sem Value).run P w=.ok (.bool (decide (m<n))) w:=by
 simp[eqGuard,binOp,lz,ap]
theorem io (w:World):(do eqGuard .leq t x y (.int k m) (.int k n);binOp .leq t (.int k m) (.int k n):Sem Value).run P w=.ok (.bool (decide (m≤n))) w:=by
 simp[eqGuard,binOp,lz,ap]
theorem zd4 (w:World):(do eqGuard .gtr t x y (.int k m) (.int k n);binOp .gtr t (.int k m) (.int k n):Sem Value).run P w=.ok (.bool (decide (n<m))) w:=by
 simp[eqGuard,binOp,lz,ap]
theorem zbF (w:World):(do eqGuard .geq t x y (.int k m) (.int k n);binOp .geq t (.int k m) (.int k n):Sem Value).run P w=.ok (.bool (decide (n≤m))) w:=by
 simp[eqGuard,binOp,lz,ap]
theorem zbm (w:World):(do eqGuard .eql t x y (.int k m) (.int k n);binOp .eql t (.int k m) (.int k n):Sem Value).run P w=.ok (.bool (m==n)) w:=by
 simp[eqGuard,binOp,lz,ap]
theorem zed (w:World):(do eqGuard .neq t x y (.int k m) (.int k n);binOp .neq t (.int k m) (.int k n):Sem Value).run P w=.ok (.bool (m != n)) w:=by
 simp[eqGuard,binOp,lz,ap]
theorem MA (l:n≠0) (h:k.wrap (m.tdiv n)=r) (w:World):(do eqGuard .quo t x y (.int k m) (.int k n);binOp .quo t (.int k m) (.int k n):Sem Value).run P w=.ok (.int k r) w:=by
 subst h;simp[eqGuard,binOp,Op.intDiv,ap,l]
theorem MB (l:n≠0) (h:m.tmod n=r) (w:World):(do eqGuard .rem t x y (.int k m) (.int k n);binOp .rem t (.int k m) (.int k n):Sem Value).run P w=.ok (.int k r) w:=by
 subst h;simp[eqGuard,binOp,Op.intDiv,ap,l]
theorem CH (a b:ad):(a.toList==b.toList)=decide (a=b):=by
 by_cases h:a=b
 ·subst h;simp
 ·have:¬a.toList=b.toList:=fun e=>h (by
   have:a.data.toList=b.data.toList:=by rw[←mM,←mM];exact e
   exact _root_.ByteArray.ext (fA.1 this))
  simp[h,this]
theorem lJ (h:a.size+b.size≤9223372036854775807) (w:World):(do eqGuard .add t x y (.string a) (.string b);binOp .add t (.string a) (.string b):Sem Value).run P w=.ok (.string (a++b)) w:=by
 have:¬(((a.size+b.size:Nat):Int) > IntKind.i64.max):=by
  show ¬(((a.size+b.size:Nat):Int) > 9223372036854775807);omega
 simp only[eqGuard,binOp,sq,ap,iR,cj]
 rw[aj this];rfl
theorem zdp (w:World):(do eqGuard .eql t x y (.string a) (.string b);binOp .eql t (.string a) (.string b):Sem Value).run P w=.ok (.bool (decide (a=b))) w:=by
 rw[←CH];simp[eqGuard,binOp,sq,ap]
theorem tE (w:World):(do eqGuard .neq t x y (.string a) (.string b);binOp .neq t (.string a) (.string b):Sem Value).run P w=.ok (.bool (!decide (a=b))) w:=by
 rw[←CH];simp[eqGuard,binOp,sq,ap]
theorem km {b:Bool} (w:World):(sn .not (.bool b)).run P w=.ok (.bool (!b)) w:=rfl
theorem MC (h:k.wrap (-n)=r) (w:World):(sn .neg (.int k n)).run P w=.ok (.int k r) w:=by
 subst h;simp[sn,nR]
theorem vG {s d:TypeId} {u:TypeDesc} {l:IntKind} (q:P.underlying s=some u) (hd:P.underlying d=some (.int l)) (h:l.wrap n=r) (w:World):(convert s d (.int k n)).run P w=.ok (.int l r) w:=by
 subst h
 cases u<;>simp[convert,run_underlying q,run_underlying hd,ap,Conv.intToInt]
theorem mi {s d:TypeId} {l:IntKind} (q:P.underlying s=some (.int l)) (hd:P.underlying d=some .string) (w:World):(convert s d (.int k n)).run P w=.ok (.string (ae n)) w:=by
 simp[convert,run_underlying q,run_underlying hd,ap,Conv.intToString]
theorem MD {i:Nat} (ht:P.underlying t=some .string) (hi:i<a.size) (w:World):(jd t (.string a) (.int .i64 i)).run P w=.ok (.int .u8 (a[i]'hi).toNat) w:=by
 have h1:a[i]?=some a[i]:=by simp[hi]
 simp[jd,asIntOf,run_underlying ht,ap,h1]
theorem ME {lo hi:Option Value} {i j:Nat} (ht:P.underlying t=some .string) (l:lo=none∧i=0∨lo=some (.int .i64 i)) (q:hi=none∧j=a.size∨hi=some (.int .i64 j)) (h1:i≤j) (h2:j≤a.size) (w:World) :
  (gH t (.string a) lo hi none).run P w=.ok (.string (a.extract i j)) w:=by
 rcases l with⟨rfl,rfl⟩|rfl<;>rcases q with⟨rfl,rfl⟩|rfl <;>
  simp[gH,Instr.slice,jB,jv,asIntOf,run_underlying ht,ap,h1,h2]
end
def vec {α:Type} (enc:α→List Value) (e:TypeId) (size:Nat) (v:Value) (xs:List α):Asn :=
 ⟨fun C w=>il enc e size v xs C w,fun h k hk=>h.lt k hk,fun h _ hk=>h.local hk⟩
def byt (e:TypeId) (v:Value) (b:ad):Asn:=⟨fun C w=>jC e v b C w,fun h k hk=>h.lt k hk,fun h _ hk=>h.local hk⟩
def eO:Value→Nat
 |.slice (some a) _ _=>a.block
 |_=>0
section
variable {F:Fence} {P:Program} {w0:World} {K:Nat→Prop} {N:Nat} {dfs:List Deferred} {ops:Array Oper} {Q:Exit→Act→World→Prop} {rest:List Oper} {σ σ':List (Nat×Value)} {L L' R As Bs:List Asn} {o:Oper} {v:Value}
 {d:Nat} {t:TypeId} {op:Op} {ty:TypeId} {pos:String} {aft:Array Edge} {g:Option (Nat×Bool)} {x y z:Operand} {c c1 c2:Code} {k:Nat} {A B:Asn} {RO:List (Nat×Obj)}
 {α:Type} {enc:α→List Value} {e:TypeId} {size:Nat} {xs:List α} {vv:Value}
theorem Holds.vec {w:World} (h:Holds w0 K L w) (hk:L[k]?=some (vec enc e size vv xs)):∃C,il enc e size vv xs C w:=by
 obtain⟨C1,h1,_⟩:=h.focus hk;exact⟨C1,h1⟩
theorem il.len {C:Nat→Prop} {w:World} (h:il enc e size vv xs C w):∃a c,vv=.slice a xs.length c:=by
 rcases h.shape with⟨rfl,rfl,_⟩|⟨g,cap,rfl,_⟩
 ·exact⟨none,0,rfl⟩
 ·exact⟨_,_,rfl⟩
theorem il.ptr {C:Nat→Prop} {w:World} (h:il enc e size vv xs C w) (l:xs≠[]):∃cap,vv=.slice (some ⟨eO vv,0,none⟩) xs.length cap:=by
 rcases h.shape with⟨_,h2,_⟩|⟨g,cap,rfl,_⟩
 ·exact absurd h2 l
 ·exact⟨cap,rfl⟩
theorem MF {w:World} (h:Holds w0 K L w) (hk:L[k]?=some (vec enc e size vv xs)):vv.oneCell'=true:=by
 obtain⟨C,hv⟩:=h.vec hk
 obtain⟨a,c,rfl⟩:=hv.len
 rfl
theorem nD (h:TC F P w0 K N dfs Q c σ (L++[vec enc e size (.slice none 0 0) ([]:List α)])):TC F P w0 K N dfs Q c σ L:=fun a w ha l=>
 h a w ha (l.grow (C':=fun _=>False) (cJ.refl _ _) (aO.one (A:=vec enc e size (.slice none 0 0) ([]:List α)) il.nil))
theorem vH (h:TO F P w0 K N dfs ops Q rest σ (L++[vec enc e size (.slice none 0 0) ([]:List α)])):TO F P w0 K N dfs ops Q rest σ L:=fun a w ha l=>
 h a w ha (l.grow (C':=fun _=>False) (cJ.refl _ _) (aO.one (A:=vec enc e size (.slice none 0 0) ([]:List α)) il.nil))
theorem gZ [bu F] {l:TypeId} {te:TypeId} (hg:gd ops σ g=some true) (hd:d<N) (hx:ev σ x=some vv) (hk:L[k]?=some (vec enc e size vv xs)) (ht:P.underlying l=some (.slice te))
  (h:TO F P w0 K N dfs ops Q rest ((d,.int .i64 xs.length)::σ) L):TO F P w0 K N dfs ops Q (⟨some d,.call { callee:=.builtin .len,args:=#[x],argTypes:=#[l] },ty,pos,aft,g⟩::rest) σ L :=
 jz hg hd (by simp) (fun a w ha D=>by
  obtain⟨C,hv⟩:=D.vec hk
  obtain⟨q,G,E⟩:=hv.len
  have:=ha.ev hx
  simp[execOp,resolve,invoke,builtin,this,E,jw,run_underlying ht,ap,goInt]) h
theorem zcG [bu F] {l:TypeId} {s:ad} (hg:gd ops σ g=some true) (hd:d<N) (hx:ev σ x=some (.string s)) (ht:P.underlying l=some .string)
  (h:TO F P w0 K N dfs ops Q rest ((d,.int .i64 s.size)::σ) L):TO F P w0 K N dfs ops Q (⟨some d,.call { callee:=.builtin .len,args:=#[x],argTypes:=#[l] },ty,pos,aft,g⟩::rest) σ L :=
 jz hg hd (by simp) (fun a w ha q=>by
  have:=ha.ev hx
  simp[execOp,resolve,invoke,builtin,this,jw,run_underlying ht,ap,goInt]) h
theorem il.cellAt {C:Nat→Prop} {w:World} (hz:∀x,(enc x).length=size) (h:il enc e size vv xs C w) {i j:Nat} {q:α} {u:Value} (l:xs[i]?=some q) (hj:j<size) (hu:(enc q)[j]?=some u):w.cell? ⟨eO vv,i*size+j,none⟩=some u:=by
 obtain⟨cap,he⟩:=h.ptr (by intro h;simp[h] at l)
 generalize hb:eO vv=bb at he
 subst he
 exact h.cell hz rfl l hj hu
theorem il.frozenAt {C:Nat→Prop} {w:World} (h:il enc e size vv xs C w) (l:xs≠[]) (j:Nat):w.frozen? ⟨eO vv,j,none⟩=false:=by
 obtain⟨cap,he⟩:=h.ptr l
 generalize hb:eO vv=bb at he
 subst he
 exact h.frozen rfl j
theorem fw [bu F] {i j off:Nat} {q:α} (G:lA P t) (hz:∀x,(enc x).length=size) (hg:gd ops σ g=some true) (hd:d<N) (hx:ev σ x=some (.pointer (some ⟨eO vv,off,none⟩))) (hk:L[k]?=some (vec enc e size vv xs))
  (D:xs[i]?=some q) (E:off=i*size+j) (hj:j<size) (hv:(enc q)[j]?=some v) (h:TO F P w0 K N dfs ops Q rest ((d,v)::σ) L) :
  TO F P w0 K N dfs ops Q (⟨some d,.load t x,ty,pos,aft,g⟩::rest) σ L:=by
 subst E
 obtain⟨dd,hu,hr⟩:=G
 refine jz hg hd (by simp) (fun a w ha l=>?_) h
 obtain⟨C,hV⟩:=l.vec hk
 have hc:=hV.cellAt hz D hj hv
 have h1:=ha.ev hx
 cases dd<;>simp_all [execOp,kw,er,loadVar,isAgg,ap,run_underlying hu]
theorem mj [bu F] {i j off n:Nat} {q:α} {cs:List Value} (J:o0 P t n) (hz:∀x,(enc x).length=size) (hg:gd ops σ g=some true) (hd:d<N) (hx:ev σ x=some (.pointer (some ⟨eO vv,off,none⟩))) (hk:L[k]?=some (vec enc e size vv xs))
  (G:xs[i]?=some q) (H:off=i*size+j) (D:((enc q).drop j).take n=cs) (l:cs.length=n)
  (h:TO F P w0 K N dfs ops Q rest ((d,.agg cs.toArray)::σ) L):TO F P w0 K N dfs ops Q (⟨some d,.load t x,ty,pos,aft,g⟩::rest) σ L:=by
 subst H;subst l
 obtain⟨dd,hu,hr,hi⟩:=J
 refine jz hg hd (by simp) (fun a w ha E=>?_) h
 obtain⟨C,hV⟩:=E.vec hk
 have hc:w.rangeAt (eO vv) (i*size+j) cs:=fun n u l=>by
  rw[←D] at l
  rw[iV] at l
  split at l
  ·rw[gD] at l
   have I:j+n<size:=by rw[←hz q];exact (au.1 l).1
   have:=hV.cellAt hz G I l
   rwa [←Nat.add_assoc] at this
  ·cases l
 simp only[execOp,ha.ev hx,ap,run_loadAt_mid w _ _ t cs dd hc hu hr hi];rfl
theorem qs [bu F] {i j off:Nat} {q q':α} (T:bC P t 1) (hz:∀x,(enc x).length=size) (hg:gd ops σ g=some true) (hx:ev σ x=some (.pointer (some ⟨eO vv,off,none⟩))) (hy:ev σ y=some v) (hk:L[k]?=some (vec enc e size vv xs))
  (I:xs[i]?=some q) (O:off=i*size+j) (hj:j<size) (hv:enc q'=(enc q).set j v) (G:∀w,Holds w0 K L w→v.oneCell'=true)
  (h:TO F P w0 K N dfs ops Q rest σ (L.set k (vec enc e size vv (xs.set i q')))):TO F P w0 K N dfs ops Q (⟨none,.store t x y,ty,pos,aft,g⟩::rest) σ L:=by
 subst O
 obtain⟨V,hi,hsz⟩:=T.some
 refine Ab hg (by simp) fun a w ha J=>?_
 have h1:=G w J
 obtain⟨C,hV,D⟩:=J.focus hk
 obtain⟨u,hu⟩:∃u,(enc q)[j]?=some u:=⟨_,aJ (by rw[hz];exact hj)⟩
 have E:xs≠[]:=by intro h;simp[h] at I
 have l:il enc e size vv xs C w:=hV
 have hc:=l.cellAt hz I hj hu
 have hf:=l.frozenAt E (i*size+j)
 have H:v.cells=#[v]:=by cases v<;>simp_all [qd,nQ]
 refine⟨w.setCell ⟨eO vv,i*size+j,none⟩ v,by
  simp[execOp,ha.ev hx,ha.ev hy,Instr.storeAt,er,storeVar,sizeOf,typeInfo,hi,hsz,H,storeCells,ap,run_store _ _ _ _ _ h1,hc,hf,iN],h _ _ ha (D _ C _ ?_ ?_)⟩
 ·obtain⟨cap,he⟩:=l.ptr E
  refine (cJ.refl _ _).setCell ?_ _
  obtain⟨M,rfl⟩:=l
  rw[he];rfl
 ·obtain⟨cap,he⟩:=l.ptr E
  generalize hb:eO vv=bb at *
  subst he
  obtain⟨M,U⟩:=l
  exact⟨(Rw.stored hz M I hj q' hv).1,U⟩
def dP (P:Program) (e:TypeId) (size:Nat):Prop:=∃ (i:TypeInfo) (l:Value),P.info? e=some i∧i.zero=some l∧i.size=size∧l.cells.size=size∧0<size∧i.bytes≤65536
def lc (P:Program) (e:TypeId):Prop:=∃i:TypeInfo,P.info? e=some i∧i.zero=some (.int .u8 0)∧i.size=1∧i.bytes=1
theorem dP.mk' {P:Program} {e:TypeId} {size:Nat} (h:(P.info? e).bind (fun i=>i.zero.map (fun z=>(i.size,z.cells.size,decide (0<i.size),decide (i.bytes≤65536))))=some (size,size,true,true)):dP P e size:=by
 cases hi:P.info? e with
 |none=>simp[hi] at h
 |some i=>
  cases hz:i.zero with
  |none=>simp[hi,hz] at h
  |some z=>
   simp[hi,hz] at h
   obtain⟨h1,h2,h3,l⟩:=h
   exact⟨i,z,hi,hz,h1,h2,by omega,l⟩
theorem lc.mk' {P:Program} {e:TypeId} (h:(P.info? e).map (fun i=>(i.zero,i.size,i.bytes))=some (some (.int .u8 0),1,1)):lc P e:=by
 cases hi:P.info? e with
 |none=>simp[hi] at h
 |some i=>simp[hi] at h;exact⟨i,hi,h.1,h.2.1,h.2.2⟩
theorem fx [bu F] {ps:List (Nat×Operand)} {vs:List (Nat×Value)} {te n:Nat} {cs:List Value} (hg:gd ops σ g=some true) (hd:d<N) (hx:evP σ ps=some vs)
  (hb:∀w:World,(Instr.buildSlice t n vs.toArray).run P w=.ok (.slice (some ⟨w.heap.size,0,none⟩) n n) (w.alloc (.cells cs.toArray te)))
  (h:∀b,TO F P w0 K N dfs ops Q rest ((d,.slice (some ⟨b,0,none⟩) n n)::σ) (L++[cells b cs te])) :
  TO F P w0 K N dfs ops Q (⟨some d,.buildSlice t n ps.toArray,ty,pos,aft,g⟩::rest) σ L :=
 oi hg (by simp) fun a w ha l=>⟨.slice (some ⟨w.heap.size,0,none⟩) n n,w.alloc (.cells cs.toArray te),by
  have:=hb w
  simp only[execOp,eS,ha.evP hx,ap,this];rfl,h _ _ _ (ha.put hd _) (l.alloc _)⟩
theorem iT [bu F] {s:Operand} {k2 b m cap:Nat} {H:TypeId} {ys:List α} {te:TypeId} {cs:List Value} (ht:P.underlying H=some (.slice e)) (W:dP P e size) (G:∀x,(enc x).length=size) (h1:∀x,∀u∈enc x,u.oneCell'=true) (hg:gd ops σ g=some true) (hd:d<N) (U:ev σ s=some vv) (hx:ev σ x=some (.slice (some ⟨b,0,none⟩) m cap))
  (hk:L[k]?=some (vec enc e size vv xs)) (J:L[k2]?=some (cells b cs te)) (hm:m=ys.length) (M:cs=ys.flatMap enc)
  (V:xs.length+ys.length≤2147483648)
  (h:∀E,TO F P w0 K N dfs ops Q rest ((d,E)::σ) (L.set k (vec enc e size E (xs++ys)))) :
  TO F P w0 K N dfs ops Q (⟨some d,.call { callee:=.builtin .append,args:=#[s,x],argTypes:=#[H,H] },ty,pos,aft,g⟩::rest) σ L:=by
 subst hm;subst M
 obtain⟨i,T,hi,hz,D,I,hsz,l⟩:=W
 refine oi hg (by simp) fun a w ha O=>?_
 have hb:=O.obj J
 obtain⟨C,hV,q⟩:=O.focus hk
 obtain⟨E,w',hr,C',h2,h3⟩:=Ma (P:=P) w H ty e i T i.bytes ht hi hz D rfl I hsz G h1 vv xs C hV ys b cap te (0,0) hb V l
 refine⟨E,w',?_,h E _ _ (ha.put hd _) (q _ C' w' h3 h2)⟩
 simp[execOp,resolve,invoke,builtin,ha.ev U,ha.ev hx,hr,ap]
theorem Holds.byt {w:World} {b:ad} (h:Holds w0 K L w) (hk:L[k]?=some (byt e vv b)):∃C,jC e vv b C w:=by
 obtain⟨C1,h1,_⟩:=h.focus hk;exact⟨C1,h1⟩
theorem Gt {w:World} {b:ad} (h:Holds w0 K L w) (hk:L[k]?=some (byt e vv b)):vv.oneCell'=true:=by
 obtain⟨C,hv⟩:=h.byt hk
 rcases hv.shape with⟨rfl,_⟩|⟨g,cap,l,rfl,_⟩<;>rfl
theorem tF [bu F] {sl:Operand} {E u:TypeId} {b s:ad} (ht:P.underlying E=some (.slice e)) (hu:P.underlying u=some .string) (M:lc P e) (hg:gd ops σ g=some true) (hd:d<N) (I:ev σ sl=some vv) (hx:ev σ x=some (.string s))
  (hk:L[k]?=some (byt e vv b)) (J:b.size+s.size≤140737488355328)
  (h:∀D,TO F P w0 K N dfs ops Q rest ((d,D)::σ) (L.set k (byt e D (b++s)))) :
  TO F P w0 K N dfs ops Q (⟨some d,.call { callee:=.builtin .append,args:=#[sl,x],argTypes:=#[E,u] },ty,pos,aft,g⟩::rest) σ L:=by
 obtain⟨i,hi,hz,q,G⟩:=M
 refine oi hg (by simp) fun a w ha H=>?_
 obtain⟨C,hV,l⟩:=H.focus hk
 obtain⟨D,w',hr,C',h2,h3⟩:=F8 (P:=P) w E u ty e i ht hu hi hz q G vv b C hV s J
 refine⟨D,w',?_,h D _ _ (ha.put hd _) (l _ C' w' h3 h2)⟩
 simp[execOp,resolve,invoke,builtin,ha.ev I,ha.ev hx,hr,ap]
theorem sB [bu F] {sl:Operand} {E:TypeId} {b ys:ad} {k2 J m cap:Nat} {te:TypeId} {cs:List Value} (ht:P.underlying E=some (.slice e)) (U:lc P e) (hg:gd ops σ g=some true) (hd:d<N) (O:ev σ sl=some vv) (hx:ev σ x=some (.slice (some ⟨J,0,none⟩) m cap))
  (hk:L[k]?=some (byt e vv b)) (G:L[k2]?=some (cells J cs te)) (H:cs=strCells ys) (hm:m=ys.size) (T:b.size+ys.size≤140737488355328)
  (h:∀D,TO F P w0 K N dfs ops Q rest ((d,D)::σ) (L.set k (byt e D (b++ys)))) :
  TO F P w0 K N dfs ops Q (⟨some d,.call { callee:=.builtin .append,args:=#[sl,x],argTypes:=#[E,E] },ty,pos,aft,g⟩::rest) σ L:=by
 subst hm;subst H
 obtain⟨i,hi,hz,q,I⟩:=U
 refine oi hg (by simp) fun a w ha M=>?_
 have hb:=M.obj G
 obtain⟨C,hV,l⟩:=M.focus hk
 obtain⟨D,w',hr,C',h2,h3⟩:=Mb (P:=P) w E ty e i ht hi hz q I vv b C hV ys J cap te (0,0) hb T
 refine⟨D,w',?_,h D _ _ (ha.put hd _) (l _ C' w' h3 h2)⟩
 simp[execOp,resolve,invoke,builtin,ha.ev O,ha.ev hx,hr,ap]
theorem rC [bu F] {s:TypeId} {b:ad} (hg:gd ops σ g=some true) (hd:d<N) (hx:ev σ x=some vv) (hk:L[k]?=some (byt e vv b)) (q:P.underlying s=some (.slice e)) (he:P.underlying e=some (.int .u8)) (ht:P.underlying t=some .string)
  (h:TO F P w0 K N dfs ops Q rest ((d,.string b)::σ) L):TO F P w0 K N dfs ops Q (⟨some d,.convert s t x,ty,pos,aft,g⟩::rest) σ L :=
 jz hg hd (by simp) (fun a w ha l=>by
  obtain⟨C,hV⟩:=l.byt hk
  simp only[execOp,ha.ev hx,ap,hV.conv s t q he ht];rfl) h
end
def CI (l:Nat) (J:Act→World→Prop) (Q:Exit→Act→World→Prop):Exit→Act→World→Prop
 |.goto l',a,w=>l'=l∧J a w
 |e,a,w=>Q e a w
section
variable {P:Program} {b:Frame} {a:Act} {k:List Item} {cs:List Frame} {w:World}
theorem vI {c:Code}:step P (lone (b.atR a (.code (.scope c)::k)) cs w)=.next (lone (b.atR a (.code c::.inScope c::k)) cs w) :=
 step_lone_go (by simp[stepG,stepG.exec,Frame.atR])
theorem Gu {c:Code}:step P (lone (b.atR a (.inScope c::k)) cs w)=.next (lone (b.atR a k) cs w) :=
 step_lone_go (by simp[stepG,stepG.exec,Frame.atR])
end
section
variable {F:Fence} {n:Nat} {P:Program} {Q:Exit→Act→World→Prop} {a:Act} {w:World}
theorem tG {I:Machine→Prop} {m:Machine} {b:Frame} {c:Code} {k:List Item} {cs:List Frame} {e:Exit} (q:∀l,e≠.goto l) (E:e≠.normal)
  (h:ArrivesIn I P m b (.inScope c::k) cs e a w):ArrivesIn I P m b k cs e a w:=by
 have hx:∀id,exitTo id (.inScope c::k)=exitTo id k:=fun id=>by simp[exitTo]
 cases e with
 |normal=>exact absurd rfl E
 |exit id=>exact⟨fun D hk=>h.1 D (by rw[hx];exact hk),fun hr hk=>h.2 hr (by rw[hx];exact hk)⟩
 |goto l=>exact absurd rfl (q l)
 |ret=>exact h
 |panic G=>exact h
 |outgrown=>exact h
theorem MG {c rest:Code} {l:Nat} (hf:findLabel c l=some rest) (J:Act→World→Prop) (first:c.wpIn F n P (CI l J Q) a w)
  (I:∀a w,J a w→rest.wpIn F n P (Exit.noGoto Q) a w):(Code.scope c).wpIn F n P Q a w:=by
 intro b k cs M hb hr
 have h0:(lone (b.atR a (.code (.scope c)::k)) cs w).fenced P F:=fenced_calm hb hr rfl
 have hg:gotoIn l (.inScope c::k)=some (.code rest::.inScope c::k):=by simp[gotoIn,hf]
 obtain⟨e,G,E,D,q⟩:=first b (.inScope c::k) cs M hb hr
 cases e with
 |normal=>exact⟨.normal,G,E,D,.head h0 vI (nS q (.one (fenced_calm hb hr rfl) Gu))⟩
 |goto l'=>
  obtain⟨rfl,T⟩:=D
  have h1:=StepsIn.head h0 vI (q.1 _ hg)
  obtain⟨e,O,H,D,q⟩:=I G E T b (.inScope c::k) cs M hb hr
  cases e with
  |normal=>exact⟨.normal,O,H,D,nS h1 (nS q (.one (fenced_calm hb hr rfl) Gu))⟩
  |goto l=>exact D.elim
  |exit id=>exact⟨_,O,H,D,.of_steps h1 (tG (by simp) (by simp) q)⟩
  |ret=>exact⟨_,O,H,D,.of_steps h1 (tG (by simp) (by simp) q)⟩
  |panic U=>exact⟨_,O,H,D,.of_steps h1 (tG (by simp) (by simp) q)⟩
  |outgrown=>exact⟨_,O,H,D,.of_steps h1 (tG (by simp) (by simp) q)⟩
 |exit id=>exact⟨_,G,E,D,.of_steps (.one h0 vI) (tG (by simp) (by simp) q)⟩
 |ret=>exact⟨_,G,E,D,.of_steps (.one h0 vI) (tG (by simp) (by simp) q)⟩
 |panic U=>exact⟨_,G,E,D,.of_steps (.one h0 vI) (tG (by simp) (by simp) q)⟩
 |outgrown=>exact⟨_,G,E,D,.of_steps (.one h0 vI) (tG (by simp) (by simp) q)⟩
end
section
variable {F:Fence} {P:Program} {w0:World} {K:Nat→Prop} {N:Nat} {dfs:List Deferred} {Q:Exit→Act→World→Prop} {σ:List (Nat×Value)} {L R:List Asn} {c rest:Code}
theorem zvE {β:Type} {l:Nat} (I:β→Prop) (q:β→List (Nat×Value)) (D:β→List Asn) (hf:findLabel c l=some rest) (h1:TC F P w0 K N dfs (CI l (Gf w0 K N dfs I q D) Q) c σ L)
  (h2:∀b,I b→TC F P w0 K N dfs (Exit.noGoto Q) rest (q b) (D b)):TC F P w0 K N dfs Q (.scope c) σ L:=fun a w ha E=>
 MG hf (Gf w0 K N dfs I q D) (h1 a w ha E) fun a w ⟨b,hb,h3,G⟩=>h2 b hb a w h3 G
theorem Ak {l:Nat} {J:Act→World→Prop} {e:Exit} (q:∀l,e≠.goto l) (h:TX w0 K N dfs Q e σ L):TX w0 K N dfs (CI l J Q) e σ L:=fun a w ha D=>by
 cases e<;>first|exact h a w ha D|exact absurd rfl (q _)
end
section
variable {F:Fence} {P:Program} {w0:World} {K:Nat→Prop} {N:Nat} {dfs:List Deferred} {ops:Array Oper} {Q:Exit→Act→World→Prop} {rest:List Oper} {σ:List (Nat×Value)} {L:List Asn} {c:Code}
 {α:Type} {enc:α→List Value} {k b e size:Nat} {cs:List Value}
theorem Holds.toVec {w:World} (ys:List α) (h:Holds w0 K L w) (hk:L[k]?=some (cells b cs e)) (q:∀x,(enc x).length=size) (l:cs=ys.flatMap enc) (hm:ys.length≤maxLen) :
  Holds w0 K (L.set k (Go.Proofs.YtifpjbgnikjglaaGreatDoor.vec enc e size (.slice (some ⟨b,0,none⟩) ys.length ys.length) ys)) w:=by
 obtain⟨C1,h1,h2,h3⟩:=h.focus' hk
 refine h3 _ C1 w (cJ.refl _ _) ?_
 obtain⟨I,h5⟩:=h2
 have D:cs.length=ys.length*size:=by
  have H:∀zs:List α,(zs.flatMap enc).length=zs.length*size:=by
   intro zs
   induction zs with
   |nil=>simp
   |cons z zs E=>rw[aG,aa,q,E,List.length_cons,c8,jO,ke]
  rw[l];exact H ys
 have G:cs.take (ys.length*size)=cs:=by rw[←D];exact List.take_length
 refine⟨⟨by rw[←l];exact D,.inr ⟨b,ys.length,cs.toArray,rfl,bG _,h5,bq _,hm,by simpa using D,?_⟩⟩,?_⟩
 ·rw[←l];exact G
 ·funext j;simp_all [bT,eq_comm]
theorem nE (ys:List α) (hk:L[k]?=some (cells b cs e)) (l:∀x,(enc x).length=size) (q:cs=ys.flatMap enc) (hm:ys.length≤maxLen)
  (h:TO F P w0 K N dfs ops Q rest σ (L.set k (vec enc e size (.slice (some ⟨b,0,none⟩) ys.length ys.length) ys))):TO F P w0 K N dfs ops Q rest σ L:=fun a w ha D=>h a w ha (D.toVec ys hk l q hm)
end
section
variable {F:Fence} {P:Program} {w0:World} {K:Nat→Prop} {N:Nat} {dfs:List Deferred} {ops:Array Oper} {Q:Exit→Act→World→Prop} {rest:List Oper} {σ:List (Nat×Value)} {L:List Asn}
 {d:Nat} {t:TypeId} {ty:TypeId} {pos:String} {aft:Array Edge} {g:Option (Nat×Bool)} {x y:Operand} {k n:Nat} {e:TypeId} {size:Nat} {v vv:Value}
end
abbrev cr (x:Int):Prop:=-9223372036854775808≤x∧x≤9223372036854775807
abbrev fB (x:Int):Prop:=-2147483648≤x∧x≤2147483647
abbrev Wg (x:Int):Prop:=-32768≤x∧x≤32767
abbrev I8 (x:Int):Prop:=-128≤x∧x≤127
abbrev U8 (x:Int):Prop:=0≤x∧x≤255
abbrev Wh (x:Int):Prop:=0≤x∧x≤65535
abbrev Wi (x:Int):Prop:=0≤x∧x≤4294967295
abbrev Wj (x:Int):Prop:=0≤x∧x≤18446744073709551615
section
variable {R S:Type}
def aV (c:Prop) [Decidable c] (o:Option R):Option R:=if c then o else none
def aT (o:Option S) (f:S→Option R):Option R:=o.bind f
def aN (b:Bool) (x y:Option R):Option R:=cond b x y
def co {T:Type} (t:T→Option R) (k:T):Option R:=t k
def zaC {T:Type} (bot:T) (step:T→T) (n:Nat):T:=Nat.rec bot (fun _ l=>step l) n
def zdZ {T α:Type} (k:T) (step:α→T→T):List α→T
 |[]=>k
 |x::xs=>step x (zdZ k step xs)
def zbx:Nat:=18446744073709551616
def zca {α:Type} (xs:List α) (i:Int):Option α:=if 0≤i then xs[i.toNat]? else none
def jQ (s:ad) (i:Int):Option Int:=if 0≤i then (s.data[i.toNat]?).map (fun c=>(c.toNat:Int)) else none
def cO (s:ad) (i j:Int):ad:=s.extract i.toNat j.toNat
def dK {α:Type} (s:List α) (i j:Int):List α:=(s.drop i.toNat).take (j.toNat-i.toNat)
variable {c:Prop} [Decidable c] {o:Option R} {r:R} {p:Option S} {f:S→Option R} {b:Bool} {x y:Option R}
theorem Gv (h:aV c o=some r):c∧o=some r:=by
 unfold aV at h;split at h
 ·exact⟨‹c›,h⟩
 ·cases h
theorem Gw (h:c):aV c o=o:=am h
theorem MH (h:aT p f=some r):∃a,p=some a∧f a=some r:=Option.bind_eq_some_iff.1 h
theorem Gx {a:S} (h:p=some a):aT p f=f a:=by rw[h];rfl
theorem oF (hb:b=true) (h:aN b x y=some r):x=some r:=by subst hb;exact h
theorem oG (hb:b=false) (h:aN b x y=some r):y=some r:=by subst hb;exact h
theorem MI (hb:b=true):aN b x y=x:=by subst hb;rfl
theorem MJ (hb:b=false):aN b x y=y:=by subst hb;rfl
theorem MK {T:Type} {t:T→Option R} {k:T} (h:co t k=some r):∃j,j=k∧t j=some r:=⟨k,rfl,h⟩
theorem Gy {T:Type} {bot:T} {step:T→T} {n:Nat}:zaC bot step (n+1)=step (zaC bot step n):=rfl
theorem CJ {T α:Type} {k:T} {step:α→T→T}:zdZ k step []=k:=rfl
theorem oH {T α:Type} {k:T} {step:α→T→T} {x:α} {xs:List α}:zdZ k step (x::xs)=step x (zdZ k step xs):=rfl
theorem ew {α:Prop} (h:(none:Option R)=some r):α:=by cases h
theorem ei {α:Type} {xs:List α} {i:Int} {q:α} (h:zca xs i=some q):xs[i.toNat]?=some q:=by
 unfold zca at h;split at h
 ·exact h
 ·cases h
theorem xL {α:Type} {xs:List α} {i:Int} {q:α} (h:zca xs i=some q):0≤i∧i<xs.length:=by
 unfold zca at h;split at h
 ·have:=(au.1 h).1;omega
 ·cases h
theorem gM {α:Type} {xs:List α} {i:Nat} {q:α} (h:xs[i]?=some q):zca xs (i:Int)=some q:=by
 unfold zca;rw[am (by omega)];exact h
theorem Al {α:Type} {xs:List α} {i:Int} {n:Nat} {q:α} (l:i=n) (h:xs[n]?=some q):zca xs i=some q:=by subst l;exact gM h
theorem CK {s:ad} {i:Int} {n:Nat} (l:i=n) (h:n<s.size):jQ s i=some ((s[n]'h).toNat:Int):=by
 subst l
 unfold jQ;rw[am (by omega)]
 have:s.data[n]?=some s[n]:=by
  rw[ep (by exact h)];rfl
 simp[this]
theorem ML {s:ad} {i v:Int} (h:jQ s i=some v):∃n:Nat,∃l:n<s.size,i=n∧v=((s[n]'l).toNat:Int):=by
 unfold jQ at h;split at h
 ·rename_i h0
  simp only[cS] at h
  obtain⟨c,hc,rfl⟩:=h
  obtain⟨q,he⟩:=c9.1 hc
  exact⟨i.toNat,q,by omega,by rw[←he];rfl⟩
 ·cases h
end
section
variable {F:Fence} {P:Program} {w0:World} {K:Nat→Prop} {N:Nat} {dfs:List Deferred} {ops:Array Oper} {Q:Exit→Act→World→Prop} {rest:List Oper} {σ σ':List (Nat×Value)} {L L' R As Bs:List Asn} {o:Oper} {v:Value}
 {d:Nat} {t:TypeId} {op:Op} {ty:TypeId} {pos:String} {aft:Array Edge} {g:Option (Nat×Bool)} {x y z:Operand} {c c1 c2 c3:Code} {k:Nat} {A B:Asn} {RO:List (Nat×Obj)}
 {α:Type} {enc:α→List Value} {e:TypeId} {size:Nat} {xs:List α} {vv:Value} {s:ad}
def CL {β:Type} (w0:World) (K:Nat→Prop) (N:Nat) (I:β→Prop) (q:β→List Deferred) (l:β→List (Nat×Value)) (D:β→List Asn) (a:Act) (w:World):Prop:=∃b,I b∧St w0 K N (q b) (l b) (D b) a w
def Gz:Nat→Code→Code
 |0,c=>c
 |n+1,.seq _ c=>Gz n c
 |_+1,c=>c
theorem zaL {β:Type} (j:Nat) (hc:Gz j c=.seq c2 c3) (I:β→Prop) (E:β→List Deferred) (q:β→List (Nat×Value)) (G:β→List Asn)
  (h1:(∀ {l:List Deferred} {σ':List (Nat×Value)} {L':List Asn},TC F P w0 K N l (_root_.Go.Exit.then (CL w0 K N I E q G) Q) c2 σ' L'→TC F P w0 K N l Q (.seq c2 c3) σ' L')→TC F P w0 K N dfs Q c σ L)
  (h2:∀b,I b→TC F P w0 K N (E b) Q c3 (q b) (G b)):TC F P w0 K N dfs Q c σ L :=
 h1 fun h a w ha H=>by
  refine wpIn_seq (wpIn_mono (h a w ha H) ?_)
  intro e M w' D
  cases e with
  |normal=>obtain⟨b,hb,h3,J⟩:=D;exact h2 b hb M w' h3 J
  |_=>exact D
theorem cL {β:Type} {I:β→Prop} {q:β→List Deferred} {l:β→List (Nat×Value)} {D:β→List Asn} (b:β) (H:I b) (hd:dfs=q b) (E:qO σ (l b)) (hL:aq L (D b) R) :
  TX w0 K N dfs (_root_.Go.Exit.then (CL w0 K N I q l D) Q) .normal σ L:=fun a w ha G=>by subst hd;exact⟨b,H,E _ _ _ ha,G.weaken hL⟩
theorem vJ {b:Bool} (ht:b=true→TC F P w0 K N dfs Q c σ L) (hf:b=false→TC F P w0 K N dfs Q c σ L):TC F P w0 K N dfs Q c σ L:=by
 cases b with
 |true=>exact ht rfl
 |false=>exact hf rfl
theorem pp {l:Value} (he:v=l) (h:TO F P w0 K N dfs ops Q rest ((d,l)::σ) L):TO F P w0 K N dfs ops Q rest ((d,v)::σ) L:=by subst he;exact h
theorem pq {i u:Int} (ht:P.underlying t=some .string) (h:jQ s i=some u) (w:World):(jd t (.string s) (.int .i64 i)).run P w=.ok (.int .u8 u) w:=by
 obtain⟨n,l,rfl,rfl⟩:=ML h
 exact MD ht l w
theorem kA {lo hi:Option Value} {i j:Int} (ht:P.underlying t=some .string) (l:lo=none∧i=0∨lo=some (.int .i64 i)) (q:hi=none∧j=(s.size:Int)∨hi=some (.int .i64 j)) (h:0≤i∧i≤j∧j≤(s.size:Int)) (w:World) :
  (gH t (.string s) lo hi none).run P w=.ok (.string (cO s i j)) w:=by
 obtain⟨h1,h2,h3⟩:=h
 obtain⟨a,rfl⟩:∃a:Nat,i=a:=⟨i.toNat,by omega⟩
 obtain⟨b,rfl⟩:∃b:Nat,j=b:=⟨j.toNat,by omega⟩
 unfold cO
 refine ME (i:=a) (j:=b) ht ?_ ?_ (by omega) (by omega) w
 ·rcases l with⟨e,h⟩|h
  ·exact .inl ⟨e,by omega⟩
  ·exact .inr h
 ·rcases q with⟨e,h⟩|h
  ·exact .inl ⟨e,by omega⟩
  ·exact .inr h
def lK (k:IntKind) (a b:Int):Int:=k.wrap (a*2 ^ (min b.toNat k.bits))
def fh (k:IntKind) (a b:Int):Int:=a.fdiv (2 ^ (min b.toNat k.bits))
def Am (k:IntKind) (a b:Int):Int:=k.wrap ((fR k.bits a &&& fR k.bits b).toNat:Int)
def lL (k:IntKind) (a b:Int):Int:=k.wrap ((fR k.bits a ||| fR k.bits b).toNat:Int)
theorem GA {k l:IntKind} {m n:Int} (q:0≤n) (w:World):(do eqGuard .shl t x y (.int k m) (.int l n);binOp .shl t (.int k m) (.int l n):Sem Value).run P w=.ok (.int k (lK k m n)) w:=by
 have:¬n<0:=by omega
 simp[eqGuard,binOp,Op.shift,ap,this,lK]
theorem rD {k l:IntKind} {m n:Int} (q:0≤n) (w:World):(do eqGuard .shr t x y (.int k m) (.int l n);binOp .shr t (.int k m) (.int l n):Sem Value).run P w=.ok (.int k (fh k m n)) w:=by
 have:¬n<0:=by omega
 simp[eqGuard,binOp,Op.shift,ap,this,fh]
theorem zDd {k:IntKind} {m n:Int} (w:World):(do eqGuard .and t x y (.int k m) (.int k n);binOp .and t (.int k m) (.int k n):Sem Value).run P w=.ok (.int k (Am k m n)) w:=by
 simp[eqGuard,binOp,Op.intBits,ap,Am]
theorem zvx {k:IntKind} {m n:Int} (w:World):(do eqGuard .or t x y (.int k m) (.int k n);binOp .or t (.int k m) (.int k n):Sem Value).run P w=.ok (.int k (lL k m n)) w:=by
 simp[eqGuard,binOp,Op.intBits,ap,lL]
theorem zeW {s d:TypeId} {u:TypeDesc} {k l:IntKind} {n:Int} (q:P.underlying s=some u) (hd:P.underlying d=some (.int l)) (w:World):(convert s d (.int k n)).run P w=.ok (.int l (l.wrap n)) w:=vG q hd rfl w
def Vw (vv:Value) (L:List α) (size k:Nat) (v:Value) (xs:List α):Prop :=
 k+xs.length≤L.length∧(L.drop k).take xs.length=xs∧∃q c,v=.slice q xs.length c∧xs.length≤c∧(xs≠[]→q=some ⟨eO vv,k*size,none⟩)
theorem Vw.get {Ls:List α} {v:Value} {i:Int} {q:α} (h:Vw vv Ls size k v xs) (l:zca xs i=some q):Ls[k+i.toNat]?=some q:=by
 have h1:=ei l
 rw[←h.2.1,iV] at h1
 split at h1
 ·rwa [gD] at h1
 ·cases h1
theorem An {w:World} (h:Holds w0 K L w) (hk:L[k]?=some (vec enc e size vv xs)):Vw vv xs size 0 vv xs:=by
 obtain⟨C,hv⟩:=h.vec hk
 refine⟨by omega,by simp,?_⟩
 rcases hv.shape with⟨rfl,rfl,_⟩|⟨g,cap,rfl,l⟩
 ·exact⟨none,0,rfl,bq _,fun h=>absurd rfl h⟩
 ·refine⟨some ⟨g,0,none⟩,cap,rfl,?_,fun _=>by simp[eO]⟩
  obtain⟨q,_⟩:=hv
  rcases q.2 with⟨h1,_⟩|⟨b,c,D,h1,_,_,h2,_⟩
  ·cases h1
  ·cases h1;exact h2
theorem kU (hk:L[k]?=some (vec enc e size vv xs)) (h:Vw vv xs size 0 vv xs→TO F P w0 K N dfs ops Q rest σ L):TO F P w0 K N dfs ops Q rest σ L:=fun a w ha l=>h (An l hk) a w ha l
theorem Ao (hk:L[k]?=some (vec enc e size vv xs)) (h:Vw vv xs size 0 vv xs→TC F P w0 K N dfs Q c σ L):TC F P w0 K N dfs Q c σ L:=fun a w ha l=>h (An l hk) a w ha l
theorem zbT [bu F] {l te:TypeId} {Ls:List α} {j:Nat} (hV:Vw vv Ls size j v xs) (hg:gd ops σ g=some true) (hd:d<N) (hx:ev σ x=some v) (ht:P.underlying l=some (.slice te))
  (h:TO F P w0 K N dfs ops Q rest ((d,.int .i64 (xs.length:Int))::σ) L):TO F P w0 K N dfs ops Q (⟨some d,.call { callee:=.builtin .len,args:=#[x],argTypes:=#[l] },ty,pos,aft,g⟩::rest) σ L :=
 jz hg hd (by simp) (fun a w ha E=>by
  obtain⟨_,_,q,c,D,_⟩:=hV
  have:=ha.ev hx
  simp[execOp,resolve,invoke,builtin,this,D,jw,run_underlying ht,ap,goInt]) h
theorem fy [bu F] {Ls:List α} {j off:Nat} {i:Int} {q:α} (hV:Vw vv Ls size j v xs) (G:zca xs i=some q) (ht:P.underlying t=some (.slice e)) (J:bC P e size) (hg:gd ops σ g=some true) (hd:d<N) (hx:ev σ x=some v) (hy:ev σ y=some (.int .i64 i))
  (H:(j+i.toNat)*size=off)
  (h:TO F P w0 K N dfs ops Q rest ((d,.pointer (some ⟨eO vv,off,none⟩))::σ) L):TO F P w0 K N dfs ops Q (⟨some d,.indexAddr t x y,ty,pos,aft,g⟩::rest) σ L:=by
 obtain⟨M,hu,E⟩:=J.some
 subst H;subst E
 obtain⟨h0,I⟩:=xL G
 obtain⟨n,rfl⟩:∃n:Nat,i=n:=⟨i.toNat,by omega⟩
 refine jz hg hd (by simp) (fun a w ha O=>?_) h
 obtain⟨_,_,q',c,l,_,hp⟩:=hV
 have hp:=hp (by intro h;simp[h] at I;omega)
 subst hp;subst l
 have h1:=ha.ev hx;have h2:=ha.ev hy
 have D:n<xs.length:=by omega
 simp[execOp,Instr.indexAt,h1,h2,asIntOf,run_underlying ht,ap,D,sizeOf,typeInfo,hu,iN,c8]
theorem eJ [bu F] {off:Nat} {i:Int} {q:α} (l:zca xs i=some q) (ht:P.underlying t=some (.slice e)) (E:bC P e size) (hg:gd ops σ g=some true) (hd:d<N) (hx:ev σ x=some vv) (hy:ev σ y=some (.int .i64 i)) (hk:L[k]?=some (vec enc e size vv xs))
  (D:i.toNat*size=off)
  (h:TO F P w0 K N dfs ops Q rest ((d,.pointer (some ⟨eO vv,off,none⟩))::σ) L):TO F P w0 K N dfs ops Q (⟨some d,.indexAddr t x y,ty,pos,aft,g⟩::rest) σ L :=
 kU hk fun hV=>fy hV l ht E hg hd hx hy (by rw[cf];exact D) h
theorem MM {l:List α} {i j:Int} (h:0≤i∧i≤j∧j≤(l.length:Int)):((dK l i j).length:Int)=j-i:=by
 unfold dK;rw[bD,aS];omega
theorem oI {lo hi:Option Value} {Ls:List α} {m:Nat} {i j:Int} (hV:Vw vv Ls size m v xs) (ht:P.underlying t=some (.slice e)) (Y:bC P e size)
  (G:lo=none∧i=0∨lo=some (.int .i64 i)) (H:hi=none∧j=(xs.length:Int)∨hi=some (.int .i64 j)) (h:0≤i∧i≤j∧j≤(xs.length:Int)) :
  ∃I,Vw vv Ls size (m+i.toNat) I (dK xs i j)∧∀w:World,(gH t v lo hi none).run P w=.ok I w:=by
 obtain⟨J,hu,U⟩:=Y.some
 subst U
 obtain⟨hk,hL,q,c,V,hc,hp⟩:=hV
 subst V
 obtain⟨h1,h2,h3⟩:=h
 have hl:=MM (l:=xs) ⟨h1,h2,h3⟩
 obtain⟨a,rfl⟩:∃a:Nat,i=a:=⟨i.toNat,by omega⟩
 obtain⟨b,rfl⟩:∃b:Nat,j=b:=⟨j.toNat,by omega⟩
 have D:(dK xs (a:Int) (b:Int)).length=b-a:=by omega
 refine⟨.slice (if c=a then q else q.map (·.add (a*J.size))) (b-a) (c-a),⟨by rw[D];simp only[bz];omega,?_,(if c=a then q else q.map (·.add (a*J.size))),c-a,by rw[D],by rw[D];omega,fun h=>?_⟩,fun w=>?_⟩
 ·rw[D]
  unfold dK
  simp only[bz]
  rw[show Ls.drop (m+a)=(Ls.drop m).drop a by rw[ff]]
  conv=>rhs;rw[←hL]
  rw[List.drop_take,List.take_take,Nat.min_eq_left (by omega)]
 ·have W:a<b:=by
   have:0<(dK xs (a:Int) (b:Int)).length:=cV.2 h
   omega
  have Z:=hp (by intro h;simp[h] at h3;omega)
  subst Z
  rw[aj (by omega)]
  simp[iN,c8]
 ·have e1:∀w:World,(jB true xs.length c lo hi none).run P w=.ok (a,b,c) w:=by
   intro w
   have T:b≤c:=by omega
   have O:a≤b:=by omega
   have M:¬c<b:=by omega
   have E:¬b<a:=by omega
   unfold jB
   rcases G with⟨rfl,h⟩|rfl<;>rcases H with⟨rfl,h'⟩|rfl
   ·have e1:a=0:=by omega
    have e2:b=xs.length:=by omega
    rw[e1,e2];simp[ap]
   ·have e1:a=0:=by omega
    rw[e1];simp[ap,jv,asIntOf,T,M]
   ·have e2:b=xs.length:=by omega
    rw[←e2];simp[ap,jv,asIntOf,O,E]
   ·simp[ap,jv,asIntOf,T,O,M,E]
  simp only[gH,Instr.slice,ap,run_underlying ht,cj,e1]
  simp[sizeOf,typeInfo,hu,ap]
end
def kV (k:IntKind) (x:Int):List Value:=[.int k x]
def vK (x:Bool):List Value:=[.bool x]
def hO (x:ad):List Value:=[.string x]
theorem jE {k:IntKind} (x:Int):(kV k x).length=1:=rfl
theorem vL (x:Bool):(vK x).length=1:=rfl
theorem gK (x:ad):(hO x).length=1:=rfl
theorem tH {k:IntKind} (x:Int):∀u∈kV k x,u.oneCell'=true:=by
 intro u hu
 simp only[kV,bo,dm,or_false] at hu
 rcases hu with rfl;rfl
theorem o6 (x:ad):∀u∈hO x,u.oneCell'=true:=by
 intro u hu
 simp only[hO,bo,dm,or_false] at hu
 rcases hu with rfl;rfl
theorem MN {L As:List Asn}:∀ (ks:List Nat),oZ L ks=some As→sy ks=true→∀ {C1 C2:Nat→Prop} {w:World},aO As C1 w→aO (xF L ks) C2 w→(∀k,C1 k→¬C2 k)→aO L (fun k=>C1 k∨C2 k) w:=by
 intro ks
 induction ks generalizing L As with
 |nil=>
  intro h _ C1 C2 w h1 h2 h3
  simp only[oZ,fQ] at h;subst h
  exact h2.congr (fun k=>⟨fun h=>h.resolve_left (h1 k),.inr⟩)
 |cons k ks E=>
  intro h hd C1 C2 w h1 h2 h3
  simp only[sy,aQ,cK] at hd
  simp only[oZ] at h
  split at h
  ·rename_i A D g1 g2
   cases h
   obtain⟨I,H,e1,e2,G,q⟩:=h1
   have hk:k<L.length:=(au.1 g1).1
   have:=E (L:=L.set k cE) (As:=D) (by rw[Cy hd.1];exact g2) hd.2 e2 (show aO (xF (L.set k cE) ks) C2 w from h2) (fun j hj=>h3 j ((q j).2 (.inr hj)))
   have h5:=aO.put (C:=fun j=>C1 j∨C2 j) hk e1 this (fun j hj l=>by
    rcases l with h|h
    ·exact G j hj h
    ·exact h3 j ((q j).2 (.inl hj)) h) (fun j=>by rw[q,or_assoc])
   rwa [Ge g1] at h5
  ·cases h
section
variable {F:Fence} {P:Program} {w0:World} {K:Nat→Prop} {N:Nat} {dfs:List Deferred} {ops:Array Oper} {Q:Exit→Act→World→Prop} {rest:List Oper} {σ σ':List (Nat×Value)} {L L' R As Bs:List Asn} {o:Oper} {v:Value}
 {d:Nat} {t:TypeId} {op:Op} {ty:TypeId} {pos:String} {aft:Array Edge} {g:Option (Nat×Bool)} {x y z:Operand} {c c1 c2 c3:Code} {k:Nat} {A B:Asn} {RO:List (Nat×Obj)}
 {α:Type} {enc:α→List Value} {e:TypeId} {size:Nat} {xs:List α} {vv:Value} {s:ad} {ex:Exit}
theorem oJ [bu F] {xs:List Operand} {E:Array TypeId} {f:FuncId} {first cap:Array Value} {vs D:List Value}
  (hg:gd ops σ g=some true) (hd:d<N) (hx:ev σ x=some (.func (.func f) first cap)) (I:evL σ xs=some vs) (hv:first.toList++vs++cap.toList=D)
  (H:∀args w,(callFunc f args).run P w=.ok (.enter f args) w) (T:Fn P f D As (fun _:Unit=>v) (fun _=>As)) (ks:List Nat) (J:oZ L ks=some As) (hk:sy ks=true)
  (h:TO F P w0 K N dfs ops Q rest ((d,v)::σ) L) :
  TO F P w0 K N dfs ops Q (⟨some d,.call { callee:=.value x,args:=xs.toArray,argTypes:=E },ty,pos,aft,g⟩::rest) σ L:=by
 intro a w ha O
 simp only[wpListIn,uv (o:=⟨some d,.call { callee:=.value x,args:=xs.toArray,argTypes:=E },ty,pos,aft,g⟩) ha hg,if_true]
 refine⟨fun f _=>bu.fn f,?_⟩
 have h1:(execOp a.eval ⟨some d,.call { callee:=.value x,args:=xs.toArray,argTypes:=E },ty,pos,aft,g⟩).run P w=.ok (.enter f D.toArray) w:=by
  have e:first++vs.toArray++cap=D.toArray:=by rw[←hv];simp
  simp only[execOp,resolve,eS,ha.evL I,ha.ev hx,lG,ap,iR,cj,invoke,e,H]
 rw[ig F _ _ (by simp),h1]
 refine⟨(fun h=>by rw[bu.depth (F:=F)] at h;cases h),?_⟩
 obtain⟨C,hL,q⟩:=O
 obtain⟨C1,C2,g1,g2,M,g4⟩:=bW ks J hk C w hL
 refine bu.calls ((T w C1 g1).mono ?_)
 rintro e w' ⟨b,rfl,C',hB,l⟩
 refine h _ w' (ha.put hd _) ⟨fun j=>C' j∨C2 j,MN ks J hk hB (g2.loc l.1.size (fun k hk=>l.1.keep k (g2.lt k hk) (fun h=>M k h hk))) (fun j hj G=>?_),?_,?_⟩
 ·rcases l.2 j hj with h|h
  ·exact M j h G
  ·have:=g2.lt j G;omega
 ·exact q.1.trans' l.1 (fun i hi hc=>by
   rcases q.2 i ((g4 i).2 (.inl hc)) with h|h
   ·exact h
   ·omega)
 ·intro j hj
  have:=q.1.size
  have U:=l.1.size
  rcases hj with hj|hj
  ·rcases l.2 j hj with h|h
   ·rcases q.2 j ((g4 j).2 (.inl h)) with h|h
    ·exact .inl h
    ·exact .inr ⟨h.1,by omega⟩
   ·exact .inr ⟨by omega,h.2⟩
  ·rcases q.2 j ((g4 j).2 (.inr hj)) with h|h
   ·exact .inl h
   ·exact .inr ⟨h.1,by omega⟩
theorem Aq (h:TX w0 K N dfs Q ex σ (L++[vec enc e size (.slice none 0 0) ([]:List α)])):TX w0 K N dfs Q ex σ L:=fun a w ha l=>
 h a w ha (l.grow (C':=fun _=>False) (cJ.refl _ _) (aO.one (A:=vec enc e size (.slice none 0 0) ([]:List α)) il.nil))
theorem MO {m n:Bool} (ht:P.underlying t=some .bool) (w:World):(do eqGuard .neq t x y (.bool m) (.bool n);binOp .neq t (.bool m) (.bool n):Sem Value).run P w=.ok (.bool (m != n)) w:=by
 simp[eqGuard,binOp,ap,run_equal_bool w t m n ht,bne]
theorem GB {l:TypeId} {a:Addr} {w:World} (ht:P.underlying t=some (.pointer l)):(Op.equal t (.pointer (some a)) (.pointer none)).run P w=.ok false w:=by
 have h:∀d,(fm (d+1) t (.pointer (some a)) (.pointer none)).run P w=.ok false w:=fun d=>by simp[fm,run_underlying ht]
 exact h 9999
theorem zjU {l:TypeId} {a:Addr} (ht:P.underlying t=some (.pointer l)) (w:World):(do eqGuard .eql t x y (.pointer (some a)) (.pointer none);binOp .eql t (.pointer (some a)) (.pointer none):Sem Value).run P w=.ok (.bool false) w:=by
 simp[eqGuard,binOp,ap,GB ht]
theorem MP {l:TypeId} {a:Addr} (ht:P.underlying t=some (.pointer l)) (w:World):(do eqGuard .neq t x y (.pointer (some a)) (.pointer none);binOp .neq t (.pointer (some a)) (.pointer none):Sem Value).run P w=.ok (.bool true) w:=by
 simp[eqGuard,binOp,ap,GB ht]
theorem MQ {b:BinOp} {p:Bool} {xs ys:Array Value} (hb:b=.eql∨b=.neq) (hm:P.eqGuardType P.depth t=false) (h:∀w,(fm 10000 t (.agg xs) (.agg ys)).run P w=.ok p w) (w:World) :
  (do eqGuard b t x y (.agg xs) (.agg ys);binOp b t (.agg xs) (.agg ys):Sem Value).run P w=.ok (.bool (if b=.eql then p else !p)) w:=by
 rcases hb with rfl|rfl
 ·simp only[ap,run_eqGuard_agg w _ _ _ _ _ _ hm,cj,run_eql_struct,h];rfl
 ·simp only[ap,run_eqGuard_agg w _ _ _ _ _ _ hm,cj,run_neq_struct,h];rfl
theorem GC {dd i off : Nat} {xs ys : Array Value} {t' ft : TypeId} {a b : Value} {p q : Bool} (hf : ((P.fieldsOf t').toList[i]?).map (fun f => (f.name != "_", f.type, f.offset)) = some (true, ft, off))
  (ha:∀w:World,(part ft xs off).run P w=.ok a w) (hb:∀w:World,(part ft ys off).run P w=.ok b w) (he:∀w,(fm dd ft a b).run P w=.ok p w)
  (hr:∀w,(kY dd xs ys ((P.fieldsOf t').toList.drop (i+1))).run P w=.ok q w) (w:World):(kY dd xs ys ((P.fieldsOf t').toList.drop i)).run P w=.ok (p&&q) w:=by
 simp only[cS] at hf
 obtain⟨f,hf,he'⟩:=hf
 simp only[Prod.mk.injEq] at he'
 obtain⟨h1,rfl,rfl⟩:=he'
 have hl:=(au.1 hf).1
 have hd:(P.fieldsOf t').toList.drop i=f::(P.fieldsOf t').toList.drop (i+1):=by
  rw[aR hl];congr 1;exact (au.1 hf).2
 rw[hd,kY,am (by simpa using h1)]
 simp only[ap,ha,hb,he,cj]
 cases p
 ·simp
 ·simp[hr]
theorem MR {dd n:Nat} {xs ys:Array Value} {t':TypeId} (h:(P.fieldsOf t').toList.length=n) (w:World):(kY dd xs ys ((P.fieldsOf t').toList.drop n)).run P w=.ok true w:=by
 rw[←h,List.drop_length];rfl
theorem GD {dd:Nat} {k l:IntKind} {a b:Int} (h:P.underlying t=some (.int l)) (w:World):(fm (dd+1) t (.int k a) (.int k b)).run P w=.ok (a==b) w:=run_equalIn_int w dd t k l a b h
theorem MS {dd:Nat} {xs ys:Array Value} {p:Bool} (ht:P.underlying t=some (.struct (P.fieldsOf t))) (hp:P.stoodInHeld t=false) (h:∀w,(kY dd xs ys ((P.fieldsOf t).toList.drop 0)).run P w=.ok p w) (w:World) :
  (fm (dd+1) t (.agg xs) (.agg ys)).run P w=.ok p w:=by
 rw[run_equalIn_agg w dd t xs ys ht hp];simpa using h w
theorem MT {p q:Bool} {xs ys:Array Value} (hm:P.eqGuardType P.depth t=false) (l:p=q) (h:∀w,(fm 10000 t (.agg xs) (.agg ys)).run P w=.ok p w) (w:World) :
  (do eqGuard .eql t x y (.agg xs) (.agg ys);binOp .eql t (.agg xs) (.agg ys):Sem Value).run P w=.ok (.bool q) w:=by
 subst l;exact MQ (.inl rfl) hm h w
def lM (b:ad):List Int:=b.data.toList.map (fun c=>(c.toNat:Int))
def gj (l:List Int):ad:=⟨(l.map (fun x=>bB x.toNat)).toArray⟩
theorem vM (b:ad):(lM b).length=b.size:=by simp[lM]
theorem CM (l:List Int):(gj l).size=l.length:=by
 show ((l.map (fun x=>bB x.toNat)).toArray).size=_;simp
theorem CN {l:List Int} (h:∀x∈l,U8 x):lM (gj l)=l:=by
 simp only[lM,gj,List.map_map]
 conv=>rhs;rw[←List.map_id l]
 refine List.map_congr_left fun x hx=>?_
 have:=h x hx
 simp only[Function.comp,id,UInt8.toNat_ofNat']
 omega
theorem CO {v:Value} {b:ad}:byt e v b=vec (kV .u8) e 1 v (lM b):=by
 have h1:strCells b=(lM b).flatMap (kV .u8):=by
  simp only[strCells,lM,kV,List.flatMap_map]
  generalize b.data.toList=l
  induction l with
  |nil=>rfl
  |cons c l q=>rw[av,q,aG];rfl
 have:∀C w,jC e v b C w↔il (kV .u8) e 1 v (lM b) C w:=fun C w=>by
  unfold jC il Rw;rw[vM,h1]
 unfold byt vec
 congr 1
 funext C w
 exact propext (this C w)
theorem uz {v:Value} {l:List Int} (h:∀x∈l,U8 x):vec (kV .u8) e 1 v l=byt e v (gj l):=by rw[CO,CN h]
theorem MU {l:Value} {enc:α→List Value} {z:α} (hz:l.cells.toList=enc z) (h0:l.cells.size=size) (hp:0<size):∀n:Nat,(madeCells l.cells (n*size)).toList=(bE n z).flatMap enc:=by
 have E:(enc z).length=size:=by rw[←hz];simpa using h0
 intro n
 apply mc
 intro i
 have D:∀m,((bE m z).flatMap enc).length=m*size:=fun m=>by
  induction m with
  |zero=>simp
  |succ m q=>rw[rn,aG,aa,q,E,c8,jO,ke]
 by_cases hi:i<n*size
 ·have e1:((bE n z).flatMap enc)[i]?=(enc z)[i % size]?:=by
   clear h0
   induction n generalizing i with
   |zero=>simp at hi
   |succ n q=>
    rw[rn,aG]
    by_cases h:i<size
    ·rw[eK (by omega),Nat.mod_eq_of_lt h]
    ·rw[fX (by omega),E,q (i-size) (by rw[c8] at hi;omega),←Nat.mod_eq_sub_mod (by omega)]
  rw[e1,←hz]
  have hm:i % size<l.cells.size:=by rw[h0];exact nV _ hp
  simp[madeCells,hi,h0,ep hm]
  rw[getElem!_pos _ _ (by rw[←h0] at hm ⊢;exact hm)]
 ·rw[ib (by simp[size_madeCells];omega),ib (by rw[D];omega)]
theorem GE [bu F] {sl:Operand} {J:TypeId} {z:α} {n:Int} (ht:P.underlying J=some (.slice e)) (Z:dP P e size) (Y:cm P e (enc z)) (E:∀x,(enc x).length=size) (hg:gd ops σ g=some true) (hd:d<N) (W:ev σ sl=some (.int .i64 n))
  (T:0≤n∧n≤2147483648)
  (h:∀U,TO F P w0 K N dfs ops Q rest ((d,U)::σ) (L++[vec enc e size U (bE n.toNat z)])) :
  TO F P w0 K N dfs ops Q (⟨some d,.makeSlice J sl sl,ty,pos,aft,g⟩::rest) σ L:=by
 obtain⟨i,I,hi,q,l,M,hsz,H⟩:=Z
 obtain⟨i',z',G,D,O⟩:=Y.some
 rw[hi] at G;cases G
 rw[q] at D;cases D
 refine oi hg (by simp) fun a w ha V=>?_
 have hb:(i.bytes:Int)*n≤281474976710656:=by
  have h1:(i.bytes:Int)≤65536:=by omega
  calc (i.bytes:Int)*n≤65536*2147483648:=Int.mul_le_mul h1 T.2 T.1 (by omega)
   _≤_:=by omega
 have hr:=run_make (P:=P) w J e i I ht hi q .i64 .i64 n n T.1 (Int.le_refl _) hb (by omega)
 refine⟨_,_,by simp only[execOp,ha.ev W,ap,hr];rfl,h _ _ _ (ha.put hd _) ?_⟩
 have h2:=V.alloc (.cells (madeCells I.cells (n.toNat*i.size)) e (0,0))
 have h3:(Go.Proofs.YtifpjbgnikjglaaGreatDoor.obj w.heap.size (.cells (madeCells I.cells (n.toNat*i.size)) e (0,0)))=cells w.heap.size ((bE n.toNat z).flatMap enc) e:=by
  unfold cells
  rw[←MU O M hsz,l]
 rw[h3] at h2
 have h4:=h2.toVec (k:=L.length) (size:=size) (bE n.toNat z) (b:=w.heap.size) (e:=e) (by simp) E rfl (by simp[maxLen];omega)
 simpa using h4
theorem Au [bu F] {l:Array TypeId} {kk:IntKind} {m n:Int} (hg:gd ops σ g=some true) (hd:d<N) (hx:ev σ x=some (.int kk m)) (hy:ev σ y=some (.int kk n))
  (h:TO F P w0 K N dfs ops Q rest ((d,.int kk (min m n))::σ) L):TO F P w0 K N dfs ops Q (⟨some d,.call { callee:=.builtin .min,args:=#[x,y],argTypes:=l },ty,pos,aft,g⟩::rest) σ L :=
 jz hg hd (by simp) (fun a w ha q=>by
  have h1:=ha.ev hx;have h2:=ha.ev hy
  have e:(if n<m then n else m)=min m n:=by rw[Int.min_def];split<;>split<;>omega
  simp[execOp,resolve,invoke,builtin,h1,h2,Builtin.min_,Builtin.min2,ap,e]) h
theorem CP {j:Nat} {X:List Asn} (hk:L[k]?=some A) (hj:L[j]?=some (ziH X)) (l:k≠j) (h:TC F P w0 K N dfs Q c σ ((L.set k cE).set j (ziH (A::X)))):TC F P w0 K N dfs Q c σ L:=fun a w ha q=>h a w ha (q.starCons hk hj l)
theorem tI {b:Bool} (ht:b=true→TO F P w0 K N dfs ops Q rest σ L) (hf:b=false→TO F P w0 K N dfs ops Q rest σ L):TO F P w0 K N dfs ops Q rest σ L:=by
 cases b with
 |true=>exact ht rfl
 |false=>exact hf rfl
theorem l0 {xs pre post l:List α} {x:α} (h:xs=pre++x::post) (h2:xs=pre++[x]++l):post=l:=by
 rw[h,aA] at h2
 have:=List.append_cancel_left h2
 simpa using this
end
def xM {β:Type} (f:β→Asn):Asn:=⟨fun C w=>∃b,(f b).P C w,fun⟨b,h⟩=>(f b).lt h,fun⟨b,h⟩ l hk=>⟨b,(f b).loc h l hk⟩⟩
section
variable {F:Fence} {P:Program} {w0:World} {K:Nat→Prop} {N:Nat} {dfs:List Deferred} {ops:Array Oper} {Q:Exit→Act→World→Prop} {rest:List Oper} {c:Code} {ex:Exit} {σ:List (Nat×Value)} {L As R:List Asn} {β:Type}
def mS {β:Type} (As:List Asn) (Bs:β→List Asn) (I:β→Prop):Prop:=∀C w,aO As C w→∃b,I b∧aO (Bs b) C w
theorem Holds.entl {I:β→Prop} {Bs:β→List Asn} {w:World} (h:Holds w0 K L w) (l:aq L As R) (D:mS As Bs I):∃b,I b∧Holds w0 K (R++Bs b) w:=by
 obtain⟨C1,h1,h2⟩:=h.split l
 obtain⟨b,q,hb⟩:=D C1 w h1
 exact⟨b,q,h2 _ C1 w (cJ.refl _ _) hb⟩
theorem sC {I:β→Prop} {Bs:β→List Asn} (q:aq L As R) (E:mS As Bs I) (h:∀b,I b→TO F P w0 K N dfs ops Q rest σ (R++Bs b)):TO F P w0 K N dfs ops Q rest σ L:=fun a w ha l=>by
 obtain⟨b,D,hb⟩:=l.entl q E;exact h b D a w ha hb
theorem GF {I:β→Prop} {Bs:β→List Asn} (q:aq L As R) (E:mS As Bs I) (h:∀b,I b→TX w0 K N dfs Q ex σ (R++Bs b)):TX w0 K N dfs Q ex σ L:=fun a w ha l=>by
 obtain⟨b,D,hb⟩:=l.entl q E;exact h b D a w ha hb
end
structure Hd where
 p:Option Addr
 n:Nat
 c:Nat
def Hd.v (h:Hd):Value:=.slice h.p h.n h.c
def Hd.nil:Hd:=⟨none,0,0⟩
section
variable {α η:Type} {enc:α×η→List Value} {nest:α×η→List Asn} {e:TypeId} {size:Nat} {v:Value} {xs:List α} {i:Nat} {x:α}
def nm (enc:α×η→List Value) (nest:α×η→List Asn) (e:TypeId) (size:Nat) (v:Value) (xs:List α):Asn :=
 xM fun zs:{zs:List (α×η) // zs.map bw=xs}=>ziH [vec enc e size v zs.1,ziH (zs.1.flatMap nest)]
theorem GG {A B:Asn} {C:Nat→Prop} {w:World} (h:aO [A,B] C w):∃C1 C2,A.P C1 w∧B.P C2 w∧(∀k,C1 k→¬C2 k)∧∀k,C k↔C1 k∨C2 k:=by
 obtain⟨C1,C2,h1,⟨l,E,g1,g2,D,g4⟩,h3,q⟩:=h
 have e:∀k,C2 k↔l k:=fun k=>by rw[g4];exact⟨fun h=>h.resolve_right (g2 k),.inl⟩
 exact⟨C1,l,h1,g1,fun k h h'=>h3 k h ((e k).2 h'),fun k=>by rw[q,e]⟩
theorem CQ {A B:Asn} {C C1 C2:Nat→Prop} {w:World} (h1:A.P C1 w) (h2:B.P C2 w) (h3:∀k,C1 k→¬C2 k) (l:∀k,C k↔C1 k∨C2 k):aO [A,B] C w :=
 ⟨C1,C2,h1,⟨C2,fun _=>False,h2,fun _ h=>h,fun _ _ h=>h,fun k=>by simp⟩,h3,l⟩
theorem aO.one1 {A:Asn} {C:Nat→Prop} {w:World}:aO [A] C w↔A.P C w:=by
 constructor
 ·rintro⟨C1,C2,h1,h2,_,l⟩
  have:C1=C:=funext fun k=>propext ⟨fun h=>(l k).2 (.inl h),fun h=>((l k).1 h).resolve_right (h2 k)⟩
  rw[←this];exact h1
 ·exact fun h=>⟨C,fun _=>False,h,fun _ h=>h,fun _ _ h=>h,fun k=>by simp⟩
theorem Av {A B:List Asn} {C:Nat→Prop} {w:World} (h:aO (A++B) C w):∃C1 C2,aO A C1 w∧aO B C2 w∧(∀k,C1 k→¬C2 k)∧∀k,C k↔C1 k∨C2 k:=by
 induction A generalizing C with
 |nil=>exact⟨fun _=>False,C,fun _ h=>h,h,fun _ h=>h.elim,fun k=>by simp⟩
 |cons A L q=>
  obtain⟨C1,C2,h1,h2,h3,D⟩:=h
  obtain⟨l,G,g1,g2,E,g4⟩:=q h2
  refine⟨fun k=>C1 k∨l k,G,⟨C1,l,h1,g1,fun k h h'=>h3 k h ((g4 k).2 (.inl h')),fun k=>_root_.Iff.rfl⟩,g2,fun k h h'=>?_,fun k=>?_⟩
  ·rcases h with h|h
   ·exact h3 k h ((g4 k).2 (.inr h'))
   ·exact E k h h'
  ·rw[D,g4,or_assoc]
theorem uA {A B:List Asn} {C C1 C2:Nat→Prop} {w:World} (h1:aO A C1 w) (h2:aO B C2 w) (h3:∀k,C1 k→¬C2 k) (l:∀k,C k↔C1 k∨C2 k):aO (A++B) C w:=(h1.append h2 h3).congr l
theorem GH {zs:List (α×η)} {z:α×η} (hz:zs[i]?=some z) {C:Nat→Prop} {w:World}:aO (zs.flatMap nest) C w↔∃C1 C2,aO (nest z) C1 w∧aO ((zs.eraseIdx i).flatMap nest) C2 w∧(∀k,C1 k→¬C2 k)∧∀k,C k↔C1 k∨C2 k:=by
 induction zs generalizing i C with
 |nil=>simp at hz
 |cons y zs H=>
  rw[aG]
  rcases i with _|i
  ·simp at hz;subst hz
   constructor
   ·exact fun h=>Av h
   ·rintro⟨C1,C2,h1,h2,h3,l⟩;exact uA h1 h2 h3 l
  ·have q:zs[i]?=some z:=by simpa using hz
   have e:(y::zs).eraseIdx (i+1)=y::zs.eraseIdx i:=rfl
   rw[e,aG]
   constructor
   ·intro h
    obtain⟨C1,C2,h1,h2,h3,l⟩:=Av h
    obtain⟨G,E,g1,g2,D,g4⟩:=(H q).1 h2
    refine⟨G,fun k=>C1 k∨E k,g1,uA h1 g2 (fun k h h'=>h3 k h ((g4 k).2 (.inr h'))) (fun k=>_root_.Iff.rfl),fun k h h'=>?_,fun k=>?_⟩
    ·rcases h' with h'|h'
     ·exact h3 k h' ((g4 k).2 (.inl h))
     ·exact D k h h'
    ·rw[l,g4];exact or_left_comm
   ·rintro⟨G,J,g1,I,D,g4⟩
    obtain⟨C1,E,h1,g2,h3,l⟩:=Av I
    refine uA (C1:=C1) (C2:=fun k=>G k∨E k) h1 ((H q).2 ⟨G,E,g1,g2,fun k h h'=>D k h ((l k).2 (.inr h')),fun k=>_root_.Iff.rfl⟩) (fun k h h'=>?_) (fun k=>?_)
    ·rcases h' with h'|h'
     ·exact D k h' ((l k).2 (.inl h))
     ·exact h3 k h h'
    ·rw[g4,l];exact or_left_comm
theorem MV:mS ([]:List Asn) (fun _:Unit=>[nm enc nest e size (.slice none 0 0) ([]:List α)]) (fun _=>True):=by
 intro C w h
 refine⟨(),trivial,aO.one1.2 ⟨⟨[],rfl⟩,CQ (C1:=fun _=>False) (C2:=C) il.nil h (fun _ h=>h.elim) (fun k=>by simp)⟩⟩
theorem GI {C:Nat→Prop} {w:World} (h:(nm enc nest e size v xs).P C w):∃a c,v=.slice a xs.length c:=by
 obtain⟨⟨zs,hz⟩,h⟩:=h
 obtain⟨C1,C2,h1,_⟩:=GG h
 have:=il.len h1
 rw[←hz,az];exact this
end
section
variable {F:Fence} {P:Program} {w0:World} {K:Nat→Prop} {N:Nat} {dfs:List Deferred} {ops:Array Oper} {Q:Exit→Act→World→Prop} {rest:List Oper} {σ:List (Nat×Value)} {L:List Asn}
 {d:Nat} {ty:TypeId} {pos:String} {aft:Array Edge} {g:Option (Nat×Bool)} {x:Operand} {k:Nat} {α η:Type} {enc:α×η→List Value} {nest:α×η→List Asn} {e:TypeId} {size:Nat} {vv:Value} {xs:List α}
theorem MW [bu F] {l te:TypeId} (hg:gd ops σ g=some true) (hd:d<N) (hx:ev σ x=some vv) (hk:L[k]?=some (nm enc nest e size vv xs)) (ht:P.underlying l=some (.slice te))
  (h:TO F P w0 K N dfs ops Q rest ((d,.int .i64 xs.length)::σ) L):TO F P w0 K N dfs ops Q (⟨some d,.call { callee:=.builtin .len,args:=#[x],argTypes:=#[l] },ty,pos,aft,g⟩::rest) σ L :=
 jz hg hd (by simp) (fun a w ha D=>by
  obtain⟨C,hv,_⟩:=D.focus hk
  obtain⟨q,G,E⟩:=GI hv
  have:=ha.ev hx
  simp[execOp,resolve,invoke,builtin,this,E,jw,run_underlying ht,ap,goInt]) h
theorem iB {ε:Type} {_k:ε→List Value} {ys:List ε} (hk:L[k]?=some (vec _k e size vv ys)) (h:∀hd:Hd,vv=hd.v→TO F P w0 K N dfs ops Q rest σ L):TO F P w0 K N dfs ops Q rest σ L:=fun a w ha l=>by
 obtain⟨C,hv,_⟩:=l.focus hk
 obtain⟨q,D,he⟩:=il.len hv
 exact h ⟨q,ys.length,D⟩ he a w ha l
theorem CR (hk:L[k]?=some (nm enc nest e size vv xs)) (h:∀hd:Hd,vv=hd.v→TO F P w0 K N dfs ops Q rest σ L):TO F P w0 K N dfs ops Q rest σ L:=fun a w ha l=>by
 obtain⟨C,hv,_⟩:=l.focus hk
 obtain⟨q,D,he⟩:=GI hv
 exact h ⟨q,xs.length,D⟩ he a w ha l
theorem MX {b:Nat} {ε:Type} {_k:ε→List Value} {y:ε} (D:∀x,(_k x).length=size):mS [vec _k e size (.slice (some ⟨b,0,none⟩) 1 1) [y]] (fun _:Unit=>[cells b (_k y) e]) (fun _=>True):=by
 intro C w h
 obtain⟨h1,rfl⟩:=aO.one1.1 h
 refine⟨(),trivial,aO.one1.2 ⟨fun k=>by simp[bT,eq_comm],?_⟩⟩
 obtain⟨h2,h3⟩:=h1
 rcases h3 with⟨h3,_⟩|⟨g,cap,l,he,_,h5,J,I,H,E⟩
 ·cases h3
 ·cases he
  have e1:[y].flatMap _k=_k y:=by simp
  rw[e1] at E h2
  have G:l.toList.length=size:=by simpa using H
  have:l.toList=_k y:=by
   rw[←E,ee]
   simp[G]
  have q:l=(_k y).toArray:=by rw[←this]
  rw[h5,q]
end
section
variable {F:Fence} {P:Program} {w0:World} {K:Nat→Prop} {N:Nat} {dfs:List Deferred} {ops:Array Oper} {Q:Exit→Act→World→Prop} {rest:List Oper} {σ:List (Nat×Value)} {L:List Asn}
 {d:Nat} {ty:TypeId} {pos:String} {aft:Array Edge} {g:Option (Nat×Bool)} {x y:Operand} {t e:TypeId} {size:Nat}
theorem o7 [bu F] {n b o off:Nat} {i:Int} (h0:0≤i∧i<n) (ht:P.underlying t=some (.array n e)) (E:bC P e size) (hg:gd ops σ g=some true) (hd:d<N) (hx:ev σ x=some (.pointer (some ⟨b,o,none⟩))) (hy:ev σ y=some (.int .i64 i))
  (D:o+i.toNat*size=off)
  (h:TO F P w0 K N dfs ops Q rest ((d,.pointer (some ⟨b,off,none⟩))::σ) L):TO F P w0 K N dfs ops Q (⟨some d,.indexAddr t x y,ty,pos,aft,g⟩::rest) σ L:=by
 obtain⟨G,hu,q⟩:=E.some
 subst D;subst q
 obtain⟨m,rfl⟩:∃m:Nat,i=m:=⟨i.toNat,by omega⟩
 refine jz hg hd (by simp) (fun a w ha H=>?_) h
 have h1:=ha.ev hx;have h2:=ha.ev hy
 have l:m<n:=by omega
 simp[execOp,Instr.indexAt,h1,h2,asIntOf,run_underlying ht,ap,l,sizeOf,typeInfo,hu,iN,er]
end
theorem CS {b n:Nat} {ε:Type} {_k:ε→List Value} {size:Nat} {e:TypeId} {ys:List ε} (D:ys.length=n):pF (vec _k e size (.slice (some ⟨b,0,none⟩) n n) ys) (cells b (ys.flatMap _k) e):=by
 intro C w h
 subst D
 obtain⟨h1,rfl⟩:=h
 refine⟨fun k=>by simp[bT,eq_comm],?_⟩
 obtain⟨h2,h3⟩:=h1
 rcases h3 with⟨h3,_⟩|⟨g,cap,l,he,_,h5,J,I,G,E⟩
 ·cases h3
 ·cases he
  have H:l.toList.length=ys.length*size:=by simpa using G
  have:l.toList=ys.flatMap _k:=by
   rw[←E,ee]
   omega
  have q:l=(ys.flatMap _k).toArray:=by rw[←this]
  rw[h5,q]
theorem MY {P:Program} {t e:TypeId} {α:Type} {enc:α→List Value} {size n:Nat} {xs:List α} {i:Int} {q:α} {v:Value} (ht:P.underlying t=some (.array n e)) (G:bC P e size) (I:xs.length=n) (l:∀x,(enc x).length=size) (E:zca xs i=some q)
  (hv:∀w:World,(part e (xs.flatMap enc).toArray (i.toNat*size)).run P w=.ok v w) (w:World):(jd t (.agg (xs.flatMap enc).toArray) (.int .i64 i)).run P w=.ok v w:=by
 obtain⟨H,hu,D⟩:=G.some
 subst D
 obtain⟨h0,h1⟩:=xL E
 have h2:¬i<0:=by omega
 have h3:i<(n:Int):=by omega
 have:=hv w
 simp[jd,asIntOf,run_underlying ht,ap,sizeOf,typeInfo,hu,h0,h3,this]
theorem GJ {α:Type} {enc:α→List Value} {size:Nat} (l:∀x,(enc x).length=size):∀ (xs:List α) (i:Nat) (q:α),xs[i]?=some q→((xs.flatMap enc).drop (i*size)).take size=enc q
 |[],i,q,h=>by simp at h
 |y::xs,0,q,h=>by
  simp at h;subst h
  rw[aG,oz,el,List.take_left' (l y)]
 |y::xs,i+1,q,h=>by
  have D:=GJ l xs i q (by simpa using h)
  rw[aG,show (i+1)*size=(enc y).length+i*size by rw[l,c8,jO,ke],←ff,ic]
  exact D
theorem MZ {P:Program} {e:TypeId} {α:Type} {enc:α→List Value} {xs:List α} {i size:Nat} {q:α} {w:World} (G:o0 P e size) (l:∀x,(enc x).length=size) (E:xs[i]?=some q) :
  (part e (xs.flatMap enc).toArray (i*size)).run P w=.ok (.agg (enc q).toArray) w:=by
 obtain⟨dd,hu,hr,D⟩:=G
 obtain⟨I,hi,hsz⟩:=cS.1 D
 have h1:=GJ l xs i q E
 have h2:(xs.flatMap enc).toArray.extract (i*size) (i*size+size)=(enc q).toArray:=by
  apply fA.1
  rw[Array.toList_extract,List.extract_eq_take_drop]
  simpa using h1
 have h3:(isAgg e).run P w=.ok true w:=by
  cases dd<;>simp_all [isAgg,run_underlying hu,ap,TypeDesc.isRow]
 have H:(sizeOf e).run P w=.ok size w:=by simp[sizeOf,typeInfo,hi,hsz,ap]
 unfold part
 simp only[ap,h3,jn,if_true,H]
 rw[h2];rfl
section
variable {F:Fence} {P:Program} {w0:World} {K:Nat→Prop} {N:Nat} {dfs:List Deferred} {Q:Exit→Act→World→Prop} {σ:List (Nat×Value)} {L:List Asn}
theorem M0 {id:Nat} {l:List Oper} (n:Nat) (Inv:(Nat→Prop)→Act→World→Prop) (hm:P.follows .mixedOrders=true)
  (ag:(l.zipIdx.all fun (o,i)=>(jD o).all fun j=>decide (j<i))=true) (hT:vF l n=true) (a3:n≤l.length)
  (h0:∀a w,At N dfs σ a→Holds w0 K L w→Inv (fun _=>False) a w)
  (U:∀i o,i<n→l[i]?=some o→∀D a w,¬D i→(∀j∈jD o,D j)→Clo l.toArray D→Inv D a w→wpListIn F 0 P l.toArray (_root_.Go.Exit.then (Inv (fun j=>D j∨j=i)) Q) [o] a w)
  (G:∀D a w,(∀j,j<n→D j)→Inv D a w→wpListIn F 0 P l.toArray Q (l.drop n) a w):TC F P w0 K N dfs Q (.region id l.toArray true) σ L:=by
 intro a w ha hw
 have W:=Gs hT
 obtain⟨J,hJ⟩:∃J:(Nat→Prop)→Act→World→Prop,J=(fun D a w=>Clo l.toArray D∧((∃k,n<k∧(∀j,D j↔j<k)∧wpListIn F 0 P l.toArray Q (l.drop k) a w) ∨
  ((∀j,D j→j<n)∧Inv D a w))):=⟨_,rfl⟩
 refine Cx hm (by simpa using ag) J (by subst hJ;exact⟨fun i o _ h=>h.elim,.inr ⟨fun _ h=>h.elim,h0 _ _ ha hw.drew⟩⟩) ?_ ?_
 ·have all:∀ (m:List Oper) (k:Nat),(∀i o,m[i]?=some o→l[k+i]?=some o)→gi F 0 P l.toArray Q J m k:=by
   intro m
   induction m with
   |nil=>intro k _;trivial
   |cons q m ih=>
    intro k hl
    refine⟨?_,ih (k+1) (fun i o' Y=>by have:=hl (i+1) o' (by simpa using Y);rwa [show k+1+i=k+(i+1) by omega])⟩
    have V:l[k]?=some q:=hl 0 q rfl
    subst hJ
    rintro D a w hn hd ⟨M,T⟩
    have I:Clo l.toArray (fun j=>D j∨j=k):=M.add (by simpa using V) hd
    have a4:k<l.length:=(au.1 V).1
    have H:l.drop k=q::l.drop (k+1):=by
     obtain⟨h1,h2⟩:=au.1 V
     rw[←h2];exact aR h1
    rcases T with⟨m,Z,O,E⟩|⟨O,T⟩
    ·have ao:k=m:=by
      have h1:¬k<m:=fun h=>hn ((O k).2 h)
      have h2:=W D M k q (by omega) V hd
      by_cases h3:m<k
      ·have:=(O _).1 (h2 _ h3);omega
      ·omega
     subst ao
     rw[H] at E
     refine qN (fun a' w' h=>⟨I,.inl ⟨k+1,by omega,fun j=>?_,h⟩⟩) (Ai E)
     show D j∨j=k↔_
     rw[O];omega
    ·by_cases hk:k<n
     ·refine qN (fun a' w' h=>⟨I,.inr ⟨fun j hj=>?_,h⟩⟩) (U k q hk V D a w hn hd M T)
      rcases hj with hj|rfl
      ·exact O j hj
      ·exact hk
     ·have hall:=W D M k q (by omega) V hd
      have aw:k=n:=by
       by_cases h:n<k
       ·have:=O _ (hall _ h);omega
       ·omega
      subst aw
      have E:=G D a w hall T
      rw[H] at E
      refine qN (fun a' w' h=>⟨I,.inl ⟨k+1,by omega,fun j=>?_,h⟩⟩) (Ai E)
      refine⟨fun hj=>?_,fun hj=>?_⟩
      ·rcases hj with hj|rfl
       ·have:=O j hj;omega
       ·omega
      ·by_cases h:j=k
       ·exact .inr h
       ·exact .inl (hall j (by omega))
  exact all _ 0 (fun i o ho=>by simpa using ho)
 ·subst hJ
  rintro D a w O ⟨M,T⟩
  have hsz:l.toArray.size=l.length:=by simp
  rcases T with⟨m,Z,a1,E⟩|⟨a0,T⟩
  ·have:l.length≤m:=by
    by_cases h:m<l.length
    ·have:=(a1 m).1 (O _ (by rw[hsz];omega));omega
    ·omega
   rw[bJ this] at E
   exact E
  ·have a2:l.length≤n:=by
    by_cases h:n<l.length
    ·have:=a0 n (O _ (by rw[hsz];omega));omega
    ·omega
   have:=G D a w (fun j hj=>O j (by rw[hsz];omega)) T
   rw[bJ (by omega)] at this
   exact this
open Classical in
noncomputable def eD (D:Nat→Prop) (base:Asn):List (Nat×Asn)→Asn
 |[]=>base
 |(i,A)::r=>if D i then A else eD D base r
theorem iC {D:Nat→Prop} {base A B:Asn} {i:Nat} {r:List (Nat×Asn)} (h:D i) (hA:A=B):eD D base ((i,A)::r)=B:=by unfold eD;rw[am h,hA]
theorem dL {D:Nat→Prop} {base A B:Asn} {i:Nat} {r:List (Nat×Asn)} (h:¬D i) (hr:eD D base r=B):eD D base ((i,A)::r)=B:=by rw[eD,aj h];exact hr
theorem fp {D:Nat→Prop} {base:Asn}:eD D base []=base:=rfl
theorem iG {D:Nat→Prop} {i:Nat} {base:Asn}:∀ {r:List (Nat×Asn)},(r.map bw).contains i=false→eD (fun j=>D j∨j=i) base r=eD D base r
 |[],_=>rfl
 |(k,A)::r,h=>by
  simp only[av,gC,bL] at h
  have l:¬k=i:=by have:=h.1;simp at this;exact fun e=>this e.symm
  rw[eD,eD,iG h.2]
  by_cases hd:D k
  ·rw[am (.inl hd),am hd]
  ·rw[aj hd,aj (by rintro (h | h);exact hd h;exact l h)]
theorem o8 {base:Asn}:∀ {r:List (Nat×Asn)},eD (fun _=>False) base r=base
 |[]=>rfl
 |(k,A)::r=>by rw[eD,aj (fun h=>h),o8]
theorem ca {α:Type} {a q:α} {l l':List α} (h:a=q) (D:l=l'):a::l=q::l':=by rw[h,D]
theorem dV {D:Nat→Prop} {i t:Nat} {v l:Value} {r q:List (Nat×Nat×Value)} (h:D i→v=l) (hr:dl D r=dl D q):dl D ((i,t,v)::r)=dl D ((i,t,l)::q):=by
 simp only[dl,hr]
 by_cases hd:D i
 ·rw[am hd,am hd,h hd]
 ·rw[aj hd,aj hd]
def fr {β:Type} (F:Fence) (P:Program) (w0:World) (K:Nat→Prop) (N:Nat) (dfs:List Deferred) (Q:Exit→Act→World→Prop) (ops:Array Oper) (σ:List (Nat×Value)) (l:β→List (Nat×Nat×Value)) (q:(Nat→Prop)→β→List Asn):List Oper→Nat→Prop
 |[],_=>True
 |o::rest,i=>(∀ (D:Nat→Prop) (b:β),¬D i→(∀j∈jD o,D j)→Clo ops D →
   TO F P w0 K N dfs ops (_root_.Go.Exit.then (fun a w=>∃b,At N dfs (dl (fun j=>D j∨j=i) (l b)++σ) a∧Holds w0 K (q (fun j=>D j∨j=i) b) w) Q) [o] (dl D (l b)++σ) (q D b))∧fr F P w0 K N dfs Q ops σ l q rest (i+1)
theorem fr.nil {β:Type} {ops:Array Oper} {l:β→List (Nat×Nat×Value)} {q:(Nat→Prop)→β→List Asn} {i:Nat}:fr F P w0 K N dfs Q ops σ l q [] i:=trivial
theorem lN {β:Type} {ops:Array Oper} {l:β→List (Nat×Nat×Value)} {q:(Nat→Prop)→β→List Asn} {o:Oper} {rest:List Oper} {i:Nat} (h:∀ (D:Nat→Prop) (b:β),¬D i→(∀j∈jD o,D j)→Clo ops D →
   TO F P w0 K N dfs ops (_root_.Go.Exit.then (fun a w=>∃b,At N dfs (dl (fun j=>D j∨j=i) (l b)++σ) a∧Holds w0 K (q (fun j=>D j∨j=i) b) w) Q) [o] (dl D (l b)++σ) (q D b)) (E:fr F P w0 K N dfs Q ops σ l q rest (i+1)) :
  fr F P w0 K N dfs Q ops σ l q (o::rest) i:=⟨h,E⟩
theorem fr.get {β:Type} {ops:Array Oper} {q:β→List (Nat×Nat×Value)} {E:(Nat→Prop)→β→List Asn}:∀ {l:List Oper} {k:Nat},fr F P w0 K N dfs Q ops σ q E l k→∀i o,l[i]?=some o→∀ (D:Nat→Prop) (b:β),¬D (k+i)→(∀j∈jD o,D j)→Clo ops D →
   TO F P w0 K N dfs ops (_root_.Go.Exit.then (fun a w=>∃b,At N dfs (dl (fun j=>D j∨j=k+i) (q b)++σ) a∧Holds w0 K (E (fun j=>D j∨j=k+i) b) w) Q) [o] (dl D (q b)++σ) (E D b)
 |[],k,_,i,o,h=>by simp at h
 |x::l,k,h,0,o,ho=>by simp at ho;subst ho;exact h.1
 |x::l,k,h,i+1,o,ho=>by
  have:=fr.get h.2 i o (by simpa using ho)
  rwa [show k+1+i=k+(i+1) by omega] at this
theorem vN {id:Nat} {l:List Oper} {β:Type} (n:Nat) (b0:β) (q:β→List (Nat×Nat×Value)) (I:(Nat→Prop)→β→List Asn) (hm:P.follows .mixedOrders=true)
  (M:(l.zipIdx.all fun (o,i)=>(jD o).all fun j=>decide (j<i))=true) (V:vF l n=true) (J:n≤l.length)
  (hval:∀b,(q b).all (fun p=>decide (p.1<n))=true) (h0:I (fun _=>False) b0=L)
  (H:fr F P w0 K N dfs Q l.toArray σ q I (l.take n) 0)
  (E:∀ (D:Nat→Prop) b,(∀j,j<n→D j)→TO F P w0 K N dfs l.toArray Q (l.drop n) ((q b).map (fun p=>p.2)++σ) (I D b)):TC F P w0 K N dfs Q (.region id l.toArray true) σ L:=by
 refine M0 n (fun D a w=>∃b,At N dfs (dl D (q b)++σ) a∧Holds w0 K (I D b) w) hm M V J (fun a w ha G=>⟨b0,by rw[Ag];exact ha,by rw[h0];exact G⟩) ?_ ?_
 ·rintro i o hi U D a w W hd O ⟨b,ha,G⟩
  have:=H.get i o (by rw[oU hi];exact U) D b (by rwa [cf]) hd O a w ha G
  rwa [cf] at this
 ·rintro D a w T ⟨b,ha,G⟩
  refine E D b T a w ?_ G
  rw[vD (fun p hp=>T _ (by have:=bd.1 (hval b) p hp;simpa using this))] at ha
  exact ha
theorem l6 {β:Type} {ops:Array Oper} {l:β→List (Nat×Nat×Value)} {E:(Nat→Prop)→β→List Asn} {D:Nat→Prop} {b:β} (q:β) (m:Nat) {i t:Nat} {v:Value} {L':List Asn} (hu:jf ((l q).map (fun p=>p.2.1))=true) (hi:jf ((l q).map (fun p=>p.1))=true)
  (hm:(l q)[m]?=some (i,t,v)) (hc:dl D (l b)=dl D (l q)) (hL:E (fun j=>D j∨j=i) q=L') :
  TO F P w0 K N dfs ops (_root_.Go.Exit.then (fun a w=>∃b,At N dfs (dl (fun j=>D j∨j=i) (l b)++σ) a∧Holds w0 K (E (fun j=>D j∨j=i) b) w) Q) [] ((t,v)::(dl D (l b)++σ)) L':=fun a w ha G=>⟨q,by rw[hc] at ha;exact Gk (vC hu) (vC hi) hm _ _ _ ha,by rw[hL];exact G⟩
end
section
variable {F:Fence} {P:Program} {w0:World} {K:Nat→Prop} {N:Nat} {dfs:List Deferred} {ops:Array Oper} {Q:Exit→Act→World→Prop} {rest:List Oper} {σ:List (Nat×Value)} {L L':List Asn}
theorem kB (h:L=L') (l:TO F P w0 K N dfs ops Q rest σ L'):TO F P w0 K N dfs ops Q rest σ L:=by rw[h];exact l
theorem CT {w:World}:∀n:Nat,aO (bE n cE) (fun _=>False) w
 |0=>fun _ h=>h
 |n+1=>⟨fun _=>False,fun _=>False,fun _ h=>h,CT n,fun _ h=>h.elim,fun k=>by simp⟩
theorem vO {c:Code} (n:Nat) (q:TC F P w0 K N dfs Q c σ (L++bE n cE)):TC F P w0 K N dfs Q c σ L:=fun a w ha l=>by
 refine q a w ha ?_
 obtain⟨C,hL,hx⟩:=l
 exact⟨C,uA hL (CT n) (fun _ _ h=>h) (fun k=>by simp),hx⟩
theorem pG {A:Asn} (p:Nat) (hA:L.getLast?=some A) (hp:L.dropLast[p]?=some cE) (G:TO F P w0 K N dfs ops Q rest σ (L.dropLast.set p A)):TO F P w0 K N dfs ops Q rest σ L:=fun a w ha E=>by
 refine G a w ha ?_
 obtain⟨C,hL,hx⟩:=E
 refine⟨C,?_,hx⟩
 have e:L=L.dropLast++[A]:=by
  rcases List.eq_nil_or_concat L with rfl|⟨M,B,rfl⟩
  ·simp at hA
  ·simp at hA;subst hA;simp
 rw[e] at hL
 obtain⟨C1,C2,h1,h2,h3,H⟩:=Av hL
 have D:=aO.one1.1 h2
 have q:p<L.dropLast.length:=(au.1 hp).1
 have l:L.dropLast.set p cE=L.dropLast:=by
  obtain⟨_,he⟩:=au.1 hp
  rw[←he];exact qe q
 exact aO.put q D (by rw[l];exact h1) (fun k a b=>h3 k b a) (fun k=>by rw[H];exact Or.comm)
end
theorem M1 (s:ad) (a:Nat):(s.extract a s.size).data.toList=s.data.toList.drop a:=by
 rw[extract_data];rw[ee];simp
theorem nF (r:Int):(ae r).data.toList=encodeRune r:=by
 unfold ae encodeRune
 rw[validRune_eq]
 by_cases hv:validRune r=true
 ·have q:(0≤r∧r<55296)∨(57343<r∧r≤1114111):=by simpa [validRune] using hv
  rw[hv]
  simp only[if_true]
  obtain⟨n,rfl⟩:∃n:Nat,r=n:=⟨r.toNat,by omega⟩
  simp only[bz]
  by_cases h1:n<128
  ·rw[encodeRuneZ_one (by omega) (by omega),am h1];rfl
  ·by_cases h2:n<2048
   ·rw[encodeRuneZ_two (by omega) (by omega),aj h1,am h2]
    simp only[av,ed]
    rw[show ((192:Int)+n / 64).toNat=192+n / 64 from by omega,show ((128:Int)+n % 64).toNat=128+n % 64 from by omega]
   ·by_cases h3:n<65536
    ·rw[encodeRuneZ_three (by omega),aj h1,aj h2,am h3]
     simp only[av,ed]
     rw[show ((224:Int)+n / 4096).toNat=224+n / 4096 from by omega,show ((128:Int)+n / 64 % 64).toNat=128+n / 64 % 64 from by omega,show ((128:Int)+n % 64).toNat=128+n % 64 from by omega]
    ·rw[encodeRuneZ_four (by omega) (by omega),aj h1,aj h2,aj h3]
     simp only[av,ed]
     rw[show ((240:Int)+n / 262144).toNat=240+n / 262144 from by omega,show ((128:Int)+n / 4096 % 64).toNat=128+n / 4096 % 64 from by omega,show ((128:Int)+n / 64 % 64).toNat=128+n / 64 % 64 from by omega,show ((128:Int)+n % 64).toNat=128+n % 64 from by omega]
 ·have q:¬((0≤r∧r<55296)∨(57343<r∧r≤1114111)):=by simpa [validRune] using hv
  have l:validRune r=false:=by simpa using hv
  rw[l,encodeRuneZ_bad (by omega)]
  simp[Utf8.runeError]
theorem xN (r:Int):(ae r).size=(encodeRune r).length:=by
 rw[←nF];simp
theorem xO (r:Int):1≤(encodeRune r).length∧(encodeRune r).length≤4:=by
 have:=encodeRuneZ_length r;simpa [encodeRune] using this
structure Pc where
 i:Nat
 w:Nat
 r:Nat
 deriving DecidableEq
def Pc.broken (p:Pc):Bool:=p.r==65533&&p.w==1
def rF:Nat→Nat→List UInt8→List Pc
 |0,_,_=>[]
 |f+1,i,l=>if l=[] then [] else ⟨i,(decodeL l).2,(decodeL l).1⟩::rF f (i+(decodeL l).2) (l.drop (decodeL l).2)
def nn (i:Nat) (l:List UInt8):List Pc:=rF l.length i l
def eQ (l:List UInt8):List Pc:=nn 0 l
theorem sD (l:List UInt8):1≤(decodeL l).2:=decodeL_width l
theorem xP (l:List UInt8) (h:l≠[]):(decodeL l).2≤l.length:=decodeL_le l h
theorem M2:∀ (f g i:Nat) (l:List UInt8),l.length≤f→l.length≤g→rF f i l=rF g i l:=by
 intro f
 induction f with
 |zero=>
  intro g i l h1 h2
  have:l=[]:=ck (by omega)
  subst this
  cases g<;>simp[rF]
 |succ f E=>
  intro g i l h1 h2
  cases g with
  |zero=>
   have:l=[]:=ck (by omega)
   subst this
   simp[rF]
  |succ g=>
   by_cases q:l=[]
   ·simp[rF,q]
   ·simp only[rF,q,if_false]
    have:=sD l
    have D:0<l.length:=cV.2 q
    rw[E g _ _ (by simp;omega) (by simp;omega)]
theorem sE (i:Nat):nn i []=[]:=by simp[nn,rF]
theorem sF (i:Nat) (l:List UInt8) (h:l≠[]) :
  nn i l=⟨i,(decodeL l).2,(decodeL l).1⟩::nn (i+(decodeL l).2) (l.drop (decodeL l).2):=by
 have q:0<l.length:=cV.2 h
 unfold nn
 obtain⟨n,D⟩:∃n,l.length=n+1:=⟨l.length-1,by omega⟩
 rw[D]
 simp only[rF,h,if_false]
 have:=sD l
 rw[M2 n (l.drop (decodeL l).2).length _ _ (by simp;omega) (bq _)]
theorem GK (l:List UInt8) (h:l≠[]) (hb:¬((decodeL l).1=65533∧(decodeL l).2=1)):(encodeRune ((decodeL l).1:Nat)).length=(decodeL l).2:=by
 rw[encode_decode l h hb]
 have:=xP l h
 simp;omega
theorem CU:encodeRune ((65533:Nat):Int)=[239,191,189]:=by decide
theorem M3 (l:List UInt8) (h:l≠[]) (hr:(decodeL l).1=65533) (q:(decodeL l).2≠1):l.take 3=[239,191,189]∧(decodeL l).2=3:=by
 have h1:=encode_decode l h (fun h=>q h.2)
 have h2:=GK l h (fun h=>q h.2)
 rw[hr,CU] at h1 h2
 simp at h2
 rw[←h2] at h1
 exact⟨h1.symm,h2.symm⟩
theorem M4 (l:List UInt8) (hr:(decodeL l).1=65533) (q:(decodeL l).2=1):l.take 3≠[239,191,189]:=by
 intro h3
 obtain⟨t,rfl⟩:∃t,l=239::191::189::t:=by
  rcases l with _|⟨a,_|⟨b,_|⟨c,t⟩⟩⟩<;>simp at h3
  exact⟨t,by simp[h3]⟩
 rw[decodeL_N] at q
 simp[decodeN] at q
theorem GL (l:List UInt8):(decodeL l).1<55296∨(57343<(decodeL l).1∧(decodeL l).1≤1114111):=by
 rw[decodeL_N];exact decodeN_valid _ _ _ _ _ (UInt8.toNat_lt _)
structure xQ (l:List UInt8) (r wd:Nat):Prop where
 eq:decodeL l=(r,wd)
 pos:1≤wd
 le:wd≤l.length
 valid:r<55296∨(57343<r∧r≤1114111)
 width:¬(r=65533∧wd=1)→(encodeRune ((r:Nat):Int)).length=wd
 bytes:¬(r=65533∧wd=1)→encodeRune ((r:Nat):Int)=l.take wd
 lost_ok:r=65533→wd≠1→l.take 3=[239,191,189]∧wd=3
 lost_bad:r=65533→wd=1→l.take 3≠[239,191,189]
theorem xR (l:List UInt8) (h:l≠[]):xQ l (decodeL l).1 (decodeL l).2 :=
 ⟨rfl,sD l,xP l h,GL l,GK l h,encode_decode l h,M3 l h,M4 l⟩
theorem M5 (P:Program) (wr:World) (l:Nat) (s:ad) (pos:Nat) (hit:wr.heap[l]?=some (.stringIter s pos)) (G:pos<s.size) :
  ∃ (r wd:Nat) (E:World),(∀ty,(Instr.next (.pointer (some ⟨l,0,none⟩)) true ty).run P wr=.ok (.tuple #[.bool true,.int .i64 pos,.int .i32 r]) E) ∧
   Fr (fun k=>k=l) wr E∧E.heap[l]?=some (.stringIter s (pos+wd))∧E.heap.size=wr.heap.size ∧
   xQ (s.data.toList.drop pos) r wd∧nn pos (s.data.toList.drop pos)=⟨pos,wd,r⟩::nn (pos+wd) (s.data.toList.drop (pos+wd))∧pos+wd≤s.size∧1≤wd:=by
 have D:s.data.toList.drop pos≠[]:=by
  intro e;have:=aM gq e;simp at this;omega
 have hd:=decodeL_drop s pos
 have q:=xR _ D
 refine⟨(decodeL (s.data.toList.drop pos)).1,(decodeL (s.data.toList.drop pos)).2,wr.iterAt l s (pos+(decodeL (s.data.toList.drop pos)).2),?_,Fr.iterAt (Fr.refl (fun k=>k=l) wr) (.inl rfl) s _,iterAt_heap wr l s pos _ hit,iterAt_size ..,q,?_,?_,sD _⟩
 ·intro ty
  rw[hd]
  exact run_next_any_at wr l s pos ty hit G
 ·rw[sF pos _ D,ff]
 ·have:=q.le;simp at this;omega
theorem M6 (P:Program) (wr:World) (l:Nat) (s:ad) (pos:Nat) (hit:wr.heap[l]?=some (.stringIter s pos)) (q:¬pos<s.size) :
  (∀ty,(Instr.next (.pointer (some ⟨l,0,none⟩)) true ty).run P wr=.ok (.tuple #[.bool false]) wr)∧nn pos (s.data.toList.drop pos)=[] :=
 ⟨fun ty=>run_next_end_at wr l s pos ty hit q,by rw[bJ (by simp;omega),sE]⟩
def eH (s:ad):List Int:=(eQ s.data.toList).map fun p=>(p.r:Int)
theorem GM (s:ad):∀ (n i:Nat) (acc:Array Value),s.size-i≤n→fF s n i acc=acc++((nn i (s.data.toList.drop i)).map fun p=>aB .i32 (p.r:Int)).toArray
 |0,i,acc,h=>by
  rw[bJ (by simp;omega),sE];simp[fF]
 |n+1,i,acc,h=>by
  unfold fF
  by_cases hi:i<s.size
  ·have l:s.data.toList.drop i≠[]:=by
    intro e;have:=aM gq e;simp at this;omega
   have hd:=decodeL_drop s i
   have h1:=sD (s.data.toList.drop i)
   rw[am hi]
   simp only
   rw[←hd,GM s n _ _ (by omega),sF _ _ l,ff]
   simp
  ·rw[aj hi,bJ (by simp;omega),sE];simp
theorem xS (s:ad):fF s s.size 0 #[]=((eH s).map (aB .i32)).toArray:=by
 rw[GM s s.size 0 #[] (by omega)]
 simp[eH,eQ,Function.comp_def]
section
variable {F:Fence} {P:Program} {w0:World} {K:Nat→Prop} {N:Nat} {dfs:List Deferred} {ops:Array Oper} {Q:Exit→Act→World→Prop} {rest:List Oper} {σ:List (Nat×Value)} {L:List Asn}
 {d:Nat} {ty:TypeId} {pos:String} {aft:Array Edge} {g:Option (Nat×Bool)} {x:Operand} {t e:TypeId} {k:Nat} {vv:Value}
theorem M7 {ε:Type} {_k:ε→List Value} {size b cap:Nat} {l:Array Value} {ys:List ε} (q:∀x,(_k x).length=size) (ht:l.toList.take (ys.length*size)=ys.flatMap _k) (D:l.size=cap*size) (hc:ys.length≤cap) (hm:cap≤maxLen):pF (obj b (.cells l e (0,0))) (vec _k e size (.slice (some ⟨b,0,none⟩) ys.length cap) ys):=by
 rintro C w ⟨h1,h2⟩
 have E:(ys.flatMap _k).length=ys.length*size:=qM q ys
 refine⟨⟨E,.inr ⟨b,cap,l,rfl,bG _,h2,hc,hm,D,ht⟩⟩,?_⟩
 funext j;simp[bT,h1,eq_comm]
theorem vP (s:ad):(eH s).length≤s.size:=by
 have h:=size_runesFrom s s.size 0 #[]
 rw[xS] at h
 simpa using h
theorem vQ [bu F] {src:TypeId} {s:ad} (M:s.size≤1073741824) (hg:gd ops σ g=some true) (hd:d<N) (hx:ev σ x=some (.string s)) (J:P.underlying src=some .string) (ht:P.underlying t=some (.slice e)) (he:P.underlying e=some (.int .i32))
  (h:∀G,TO F P w0 K N dfs ops Q rest ((d,G)::σ) (L++[vec (kV .i32) e 1 G (eH s)])) :
  TO F P w0 K N dfs ops Q (⟨some d,.convert src t x,ty,pos,aft,g⟩::rest) σ L:=by
 refine oi hg (by simp) fun a w ha I=>?_
 have O:=vP s
 have hr:=run_runes_of_string (P:=P) w src t e s J ht he (by rw[xS];simp;omega)
 refine⟨_,_,by simp only[execOp,ha.ev hx,ap,hr];rfl,h _ _ _ (ha.put hd _) ?_⟩
 have hz:(fF s s.size 0 #[]).size=(eH s).length:=by rw[xS];simp
 rw[hz]
 have D:=grownCap_ge w (eH s).length 0 e
 have q:=grownCap_le_maxLen w (eH s).length 0 e (by simp only[maxLen];omega)
 generalize grownCap w (eH s).length 0 e=cap at D q
 have h2:=I.drew.alloc (.cells (fF s s.size 0 #[]++fj (cap-(eH s).length) (.int .i32 0)) e (0,0))
 have E:(eH s).flatMap (kV .i32)=(eH s).map (aB .i32):=by
  generalize eH s=l
  induction l with
  |nil=>rfl
  |cons x l H=>rw[aG,H];rfl
 have h3:=h2.ent (k:=L.length) (A:=obj w.drew.heap.size (.cells (fF s s.size 0 #[]++fj (cap-(eH s).length) (.int .i32 0)) e (0,0))) (by simp) (M7 (size:=1) (cap:=cap) (ys:=eH s) (jE (k:=.i32)) (by
  rw[xS,E];simp) (by rw[xS];simp;omega) D q)
 simpa using h3
def jg (l:List Int):ad:=runesBytes l
theorem CV [bu F] {src:TypeId} {xs:List Int} (hg:gd ops σ g=some true) (hd:d<N) (hx:ev σ x=some vv) (hk:L[k]?=some (vec (kV .i32) e 1 vv xs)) (D:P.underlying src=some (.slice e)) (he:P.underlying e=some (.int .i32)) (ht:P.underlying t=some .string)
  (h:TO F P w0 K N dfs ops Q rest ((d,.string (jg xs))::σ) L):TO F P w0 K N dfs ops Q (⟨some d,.convert src t x,ty,pos,aft,g⟩::rest) σ L :=
 jz hg hd (by simp) (fun a w ha E=>by
  obtain⟨C,hV⟩:=E.vec hk
  have hc:(convert src t vv).run P w=.ok (.string (jg xs)) w:=by
   rcases hV.shape with⟨rfl,rfl,_⟩|⟨q,cap,rfl,_⟩
   ·rw[run_convert_runes_string w src t e none 0 0 D he ht];simp[Conv.runesToString,jg,runesBytes]
   ·rw[run_convert_runes_string w src t e _ _ _ D he ht]
    refine run_runesToString w _ _ _ xs ?_
    have:=run_loadCells_list (P:=P) (w:=w) ⟨q,0,none⟩ (xs.map (aB .i32)) (by
     intro j v hj
     rw[bU,cS] at hj
     obtain⟨n,G,rfl⟩:=hj
     have l:(⟨q,0,none⟩:Addr).add j=⟨q,j,none⟩:=by unfold qa;split<;>simp_all
     rw[l]
     have:=hV.cell (i:=j) (j:=0) (x:=n) (u:=.int .i32 n) (jE (k:=.i32)) rfl G (by omega) rfl
     simpa using this)
    simpa using this
  simp only[execOp,ha.ev hx,ap,hc];rfl) h
end
theorem GN {α:Type} {enc:α→List Value} {size:Nat} {P:Program} (w:World) (t ty e:TypeId) (i:TypeInfo) (z:Value) (bytes:Nat) (ht:P.underlying t=some (.slice e)) (hi:P.info? e=some i) (hz:i.zero=some z)
  (q:i.size=size) (I:i.bytes=bytes) (O:z.cells.size=size) (hsz:0<size) (H:∀x,(enc x).length=size) (h1:∀x,∀u∈enc x,u.oneCell'=true)
  (v:Value) (L:List α) (C:Nat→Prop) (l:il enc e size v L C w) (ys:List α) (a:Addr) (c:Nat)
  (D:∀j u,(ys.flatMap enc)[j]?=some u→w.cell? (a.add j)=some u) (W:L.length+ys.length≤2147483648) (E:bytes≤65536) :
  ∃G w',(cR #[t,t] ty #[v,.slice (some a) ys.length c]).run P w=.ok G w'∧∃C',il enc e size G (L++ys) C' w'∧cJ C C' w w':=by
 obtain⟨l,rfl⟩:=l
 have U:(ys.flatMap enc).length=ys.length*size:=qM H ys
 have M:∀u∈ys.flatMap enc,u.oneCell'=true:=by
  intro u hu
  obtain⟨x,hx,hu⟩:=iI.1 hu
  exact h1 x u hu
 have J:(L.length+ys.length)*bytes≤140737488355328:=by
  have:(L.length+ys.length)*bytes≤2147483648*65536:=Nat.mul_le_mul (by omega) E
  omega
 obtain⟨G,w',hr,r1,r2,_⟩:=run_append_own (P:=P) w 0 t ty e i z size bytes ht hi hz q I O hsz v L.length (L.flatMap enc) l a ys.length c (ys.flatMap enc) U D M (by simp[maxLen];omega) J (bG _)
 have T:=Cw (P:=P) w 0 t ty e i z size bytes ht hi hz q I v L.length (L.flatMap enc) l a ys.length c (ys.flatMap enc) U D M (by simp[maxLen];omega) J hr
 have V:Rw enc w' 0 e size G (L++ys):=by
  unfold Rw;rw[aa,dX];exact r1
 exact⟨G,w',hr,_,⟨V,rfl⟩,Aa r2 T (fun g hg=>(fl V g hg).2)⟩
theorem M8 {P:Program} (w:World) (t ty e:TypeId) (i:TypeInfo) (ht:P.underlying t=some (.slice e)) (hi:P.info? e=some i) (b:Option Addr) (n cap c:Nat) (h:n≤cap) :
  (cR #[t,t] ty #[.slice b n cap,.slice none 0 c]).run P w=.ok (.slice b n cap) w:=by
 cases b<;>simp[cR,run_underlying ht,sizeOf,typeInfo,hi,iZ,h,kQ,storeCells,ap]
section
variable {F:Fence} {P:Program} {w0:World} {K:Nat→Prop} {N:Nat} {dfs:List Deferred} {ops:Array Oper} {Q:Exit→Act→World→Prop} {rest:List Oper} {σ:List (Nat×Value)} {L:List Asn}
 {d:Nat} {ty:TypeId} {pos:String} {aft:Array Edge} {g:Option (Nat×Bool)} {s x:Operand} {t e e2:TypeId} {k k2 j size:Nat} {vv v2 v:Value} {α:Type} {enc:α→List Value} {xs ys Ls:List α}
theorem Vw.cells {C:Nat→Prop} {w:World} (l:∀x,(enc x).length=size) (M:0<size) (h:il enc e2 size v2 Ls C w) (hV:Vw v2 Ls size j v ys) (H:ys≠[]):∃c,v=.slice (some ⟨eO v2,j*size,none⟩) ys.length c∧∀n u,(ys.flatMap enc)[n]?=some u→w.cell? ((⟨eO v2,j*size,none⟩:Addr).add n)=some u:=by
 have I:=fun (i:Nat) (q:α) (O:ys[i]?=some q)=>hV.get (i:=(i:Int)) (gM O)
 obtain⟨_,_,q',c,E,_,hp⟩:=hV
 have hp:=hp H
 subst hp
 refine⟨c,E,fun n u hu=>?_⟩
 have D:(⟨eO v2,j*size,none⟩:Addr).add n=⟨eO v2,j*size+n,none⟩:=by unfold qa;split<;>simp_all
 rw[D]
 have G:n<ys.length*size:=by
  have:=(au.1 hu).1;rwa [qM l ys] at this
 have hi:n / size<ys.length:=Nat.div_lt_of_lt_mul (by rwa [Nat.mul_comm] at G)
 have hr:n % size<size:=nV _ M
 have J:n / size*size+n % size=n:=Nat.div_add_mod' n size
 have hy:ys[n / size]?=some ys[n / size]:=aJ hi
 have h2:=Cv l ys (n / size) (n % size) _ hy hr
 rw[J,hu] at h2
 have h3:=h.cellAt l (I _ _ hy) hr h2.symm
 have e1:(j+((n / size:Nat):Int).toNat)*size+n % size=j*size+n:=by
  rw[bz,c8];omega
 rwa [e1] at h3
theorem CW [bu F] (ht:P.underlying t=some (.slice e)) (hE:dP P e size) (E:∀x,(enc x).length=size) (h1:∀x,∀u∈enc x,u.oneCell'=true) (hV:Vw v2 Ls size j v ys) (hg:gd ops σ g=some true) (hd:d<N) (O:ev σ s=some vv) (hx:ev σ x=some v)
  (hk:L[k]?=some (vec enc e size vv xs)) (V:L[k2]?=some (vec enc e2 size v2 Ls)) (hn:xs.length+ys.length≤2147483648)
  (h:∀H,TO F P w0 K N dfs ops Q rest ((d,H)::σ) (L.set k (vec enc e size H (xs++ys)))) :
  TO F P w0 K N dfs ops Q (⟨some d,.call { callee:=.builtin .append,args:=#[s,x],argTypes:=#[t,t] },ty,pos,aft,g⟩::rest) σ L:=by
 obtain⟨i,Z,hi,hz,D,I,hsz,q⟩:=hE
 refine oi hg (by simp) fun a w ha hw=>?_
 obtain⟨C2,W⟩:=hw.vec V
 obtain⟨C,G,l⟩:=hw.focus hk
 by_cases J:ys=[]
 ·subst J
  obtain⟨_,_,q',c,U,_,_⟩:=hV
  subst U
  rw[aH] at h
  rcases q' with _|q'
  ·obtain⟨b,cap,hb⟩:=il.len G
   have M:xs.length≤cap:=by
    rcases G.shape with⟨h3,Y,_⟩|⟨gb,ag,h3,_,Y,_⟩
    ·rw[Y];exact bG _
    ·rw[hb] at h3;cases h3;exact Y
   have hr:=M8 (P:=P) w t ty e i ht hi b xs.length cap c M
   refine⟨vv,w,?_,h vv _ _ (ha.put hd _) (l _ C w (cJ.refl _ _) G)⟩
   subst hb
   simp[execOp,resolve,invoke,builtin,ha.ev O,ha.ev hx,hr,ap]
  ·obtain⟨H,w',hr,C',h2,h3⟩:=GN (P:=P) w t ty e i Z i.bytes ht hi hz D rfl I hsz E h1 vv xs C G [] q' c (by simp) (by simpa using hn) q
   rw[aH] at h2
   refine⟨H,w',?_,h H _ _ (ha.put hd _) (l _ C' w' h3 h2)⟩
   have T:(cR #[t,t] ty #[vv,.slice (some q') 0 c]).run P w=.ok H w':=hr
   simp[execOp,resolve,invoke,builtin,ha.ev O,ha.ev hx,T,ap]
 ·obtain⟨c,rfl,hc⟩:=Vw.cells E hsz W hV J
  obtain⟨H,w',hr,C',h2,h3⟩:=GN (P:=P) w t ty e i Z i.bytes ht hi hz D rfl I hsz E h1 vv xs C G ys _ c hc hn q
  refine⟨H,w',?_,h H _ _ (ha.put hd _) (l _ C' w' h3 h2)⟩
  simp[execOp,resolve,invoke,builtin,ha.ev O,ha.ev hx,hr,ap]
end
theorem CX {α:Type} {enc:α→List Value} {size:Nat} (l:∀x,(enc x).length=size):∀ (xs:List α) (i:Nat),(xs.flatMap enc).take (i*size)=(xs.take i).flatMap enc
 |[],i=>by simp
 |y::xs,0=>by simp
 |y::xs,i+1=>by
  rw[aG,show (i+1)*size=(enc y).length+i*size by rw[l,c8,jO,ke],List.take_length_add_append,CX l xs i,List.take_succ_cons,aG]
theorem GO {α:Type} {enc:α→List Value} {size:Nat} (l:∀x,(enc x).length=size):∀ (xs:List α) (i:Nat),(xs.flatMap enc).drop (i*size)=(xs.drop i).flatMap enc
 |[],i=>by simp
 |y::xs,0=>by simp
 |y::xs,i+1=>by
  rw[aG,show (i+1)*size=(enc y).length+i*size by rw[l,c8,jO,ke],←ff,ic,GO l xs i,List.drop_succ_cons]
theorem M9 {P:Program} (w:World) (M O ty e:TypeId) (i:TypeInfo) (ht:P.underlying M=some (.slice e)) (hi:P.info? e=some i) (g o q J:Nat) (a:Addr) (l E:Nat) (D:Array Value) (t:TypeId)
  (hg:w.heap[g]?=some (.cells D t (0,0))) (cs:List Value) (T:cs.length=uo l q*i.size) (H:∀j v,cs[j]?=some v→w.cell? (a.add j)=some v) (I:o+cs.length≤D.size) (h1:∀v∈cs,v.oneCell'=true) :
  (kK #[M,O] ty #[.slice (some ⟨g,o,none⟩) q J,.slice (some a) l E]).run P w=.ok (goInt (uo l q)) (w.setRow g (D.toList.take o++cs++D.toList.drop (o+cs.length)).toArray):=by
 have hf:=run_firstCells_some (P:=P) w i.size (uo l q) a l E cs T H
 have G:=run_storeCells_at P g o t cs 0 D w hg (by simpa using I) h1
 simp only[Nat.add_zero] at G
 unfold kK
 simp only[List.getElem?_toArray,ap,ep,run_underlying ht]
 simp[run_underlying ht,iZ,sizeOf,typeInfo,hi,hf,G,ap]
theorem cJ.setRow {w:World} {g:Nat} (cs:Array Value):cJ (fun k=>k=g) (fun k=>k=g) w (w.setRow g cs) :=
 ⟨⟨by simp,by simp[World.setRow],by simp[World.setRow],by simp,fun k hk l=>setRow_other w g k cs l⟩,fun k hk=>.inl hk⟩
theorem il.over {α:Type} {enc:α→List Value} {size g cap:Nat} {e:TypeId} {w:World} {xs ys:List α} {C:Nat→Prop} (q:∀x,(enc x).length=size) (h:il enc e size (.slice (some ⟨g,0,none⟩) xs.length cap) xs C w) (j:Nat) (hj:j+ys.length≤xs.length) :
  ∃l:Array Value,w.heap[g]?=some (.cells l e (0,0))∧j*size+(ys.flatMap enc).length≤l.size∧C=(fun k=>k=g) ∧
   il enc e size (.slice (some ⟨g,0,none⟩) xs.length cap) (xs.take j++ys++xs.drop (j+ys.length)) C (w.setRow g (l.toList.take (j*size)++ys.flatMap enc++l.toList.drop (j*size+(ys.flatMap enc).length)).toArray):=by
 obtain⟨⟨h1,h2⟩,rfl⟩:=h
 rcases h2 with⟨h2,_⟩|⟨U,M,l,he,_,h5,J,T,H,O⟩
 ·cases h2
 ·cases he
  have hy:(ys.flatMap enc).length=ys.length*size:=qM q ys
  have hm:(j+ys.length)*size≤xs.length*size:=iz _ hj
  have hm2:xs.length*size≤cap*size:=iz _ J
  have G:(j+ys.length)*size=j*size+ys.length*size:=c8 _ _ _
  have D:j*size+(ys.flatMap enc).length≤l.size:=by rw[hy,H];omega
  refine⟨l,h5,D,by funext k;simp[bT,eq_comm],?_⟩
  have E:(xs.take j++ys++xs.drop (j+ys.length)).length=xs.length:=by simp;omega
  refine⟨?_,by funext k;simp[bT]⟩
  unfold Rw
  rw[E]
  refine⟨by rw[qM q,E],.inr ⟨g,cap,_,rfl,bG _,setRow_heap w g l _ e (0,0) h5,J,T,?_,?_⟩⟩
  ·rw[List.size_toArray,aa,aa,bD,aS,hy,cU,H]
   rw[hy,H] at D
   omega
  ·have e1:l.toList.take (xs.length*size)=xs.flatMap enc:=O
   have I:(xs.flatMap enc).length=xs.length*size:=qM q xs
   have hc:l.toList=xs.flatMap enc++l.toList.drop (xs.length*size):=by rw[←e1,bZ]
   have t1:l.toList.take (j*size)=(xs.take j).flatMap enc:=by
    rw[hc,List.take_append_of_le_length (by rw[I];omega),CX q]
   have t2:l.toList.drop (j*size+(ys.flatMap enc).length)=(xs.drop (j+ys.length)).flatMap enc++l.toList.drop (xs.length*size):=by
    conv=>lhs;rw[hc]
    rw[hy,←G,List.drop_append_of_le_length (by rw[I];exact hm),GO q]
   rw[t1,t2,dX,dX,←aA]
   rw[show (pA enc (List.take j xs)++pA enc ys++pA enc (List.drop (j+ys.length) xs)++List.drop (xs.length*size) l.toList).toArray.toList=_ from rfl]
   rw[List.take_left']
   have:=qM q (xs.take j++ys++xs.drop (j+ys.length))
   rw[E,dX,dX] at this
   exact this
def tJ {α:Type} (xs:List α) (j:Nat) (ys:List α):List α:=xs.take j++ys++xs.drop (j+ys.length)
theorem Na {α:Type} (xs:List α) (j:Nat):tJ xs j []=xs:=by simp[tJ]
theorem Nb {P:Program} (w:World) (l D ty e:TypeId) (i:TypeInfo) (ht:P.underlying l=some (.slice e)) (hi:P.info? e=some i) (b s:Option Addr) (dl dc sl q:Nat) (h0:uo sl dl=0) :
  (kK #[l,D] ty #[.slice b dl dc,.slice s sl q]).run P w=.ok (goInt 0) w:=by
 cases b<;>cases s<;>simp[kK,run_underlying ht,sizeOf,typeInfo,hi,iZ,h0,kQ,storeCells,loadCells,loadCellsFrom,ap]
section
variable {F:Fence} {P:Program} {w0:World} {K:Nat→Prop} {N:Nat} {dfs:List Deferred} {ops:Array Oper} {Q:Exit→Act→World→Prop} {rest:List Oper} {σ:List (Nat×Value)} {L:List Asn}
 {d:Nat} {ty:TypeId} {pos:String} {aft:Array Edge} {g:Option (Nat×Bool)} {s x:Operand} {t t2 e e2:TypeId} {k k2 j j2 size:Nat} {vv v2 v u:Value} {α:Type} {enc:α→List Value} {xs ds ys Ls:List α}
theorem Nc [bu F] (ht:P.underlying t=some (.slice e)) (hE:dP P e size) (l:∀x,(enc x).length=size) (h1:∀x,∀u∈enc x,u.oneCell'=true) (hV:Vw vv xs size j v ds) (hS:Vw v2 Ls size j2 u ys) (hg:gd ops σ g=some true) (hd:d<N) (hs:ev σ s=some v) (hx:ev σ x=some u)
  (hk:L[k]?=some (vec enc e size vv xs)) (Y:L[k2]?=some (vec enc e2 size v2 Ls))
  (h:TO F P w0 K N dfs ops Q rest ((d,.int .i64 ((min ys.length ds.length:Nat):Int))::σ) (L.set k (vec enc e size vv (tJ xs j (ys.take ds.length))))) :
  TO F P w0 K N dfs ops Q (⟨some d,.call { callee:=.builtin .copy,args:=#[s,x],argTypes:=#[t,t2] },ty,pos,aft,g⟩::rest) σ L:=by
 obtain⟨i,zv,hi,hz,G,ao,hsz,T⟩:=hE
 refine oi hg (by simp) fun a w ha hw=>?_
 obtain⟨C2,Z⟩:=hw.vec Y
 obtain⟨C,I,D⟩:=hw.focus hk
 by_cases h0:min ys.length ds.length=0
 ·have hy:ys.take ds.length=[]:=by
   rcases Nat.min_eq_zero_iff.1 h0 with h|h
   ·rw[List.length_eq_zero_iff.1 h];simp
   ·rw[h];simp
  obtain⟨_,_,q,c,hq,_,_⟩:=hV
  obtain⟨_,_,q2,c2,W,_,_⟩:=hS
  subst hq;subst W
  have hr:=Nb (P:=P) w t t2 ty e i ht hi q q2 ds.length c ys.length c2 h0
  rw[hy,Na,h0] at h
  refine⟨.int .i64 0,w,?_,h _ _ (ha.put hd _) (D _ C w (cJ.refl _ _) I)⟩
  simp[execOp,resolve,invoke,builtin,ha.ev hs,ha.ev hx,hr,ap,goInt]
 ·have hds:ds≠[]:=by intro h;simp[h] at h0
  have U:ys≠[]:=by intro h;simp[h] at h0
  obtain⟨c2,rfl,hc⟩:=Vw.cells l hsz Z hS U
  obtain⟨hj,aw,q,c,rfl,_,hp⟩:=hV
  have hp:=hp hds
  subst hp
  have V:xs≠[]:=by
   intro h;subst h
   have:0<ds.length:=cV.2 hds
   rw[List.length_nil] at hj;omega
  obtain⟨cap,E⟩:=I.ptr V
  generalize eO vv=b at E
  subst E
  have J:(ys.take ds.length).length=min ys.length ds.length:=by rw[bD,Nat.min_comm]
  obtain⟨ag,O,M,hC,H⟩:=I.over l (ys:=ys.take ds.length) j (by rw[J];omega)
  have hr:=M9 (P:=P) w t t2 ty e i ht hi b (j*size) ds.length c ⟨eO v2,j2*size,none⟩ ys.length c2 ag e O ((ys.take ds.length).flatMap enc) (by rw[qM l,J,G])
   (fun n u hu=>hc n u (by
    rw[←CX l,iV] at hu
    split at hu
    ·exact hu
    ·cases hu)) M (fun u hu=>by
    obtain⟨y,_,hy⟩:=iI.1 hu
    exact h1 y u hy)
  subst hC
  refine⟨_,_,by simp only[execOp,resolve,invoke,builtin,eS,av,ed,ha.ev hs,ha.ev hx,ap,iR,jn,eO];simp only[eO] at hr;rw[hr];rfl,h _ _ (ha.put hd _) (D _ _ _ (cJ.setRow _) H)⟩
end
theorem GP {α:Type} (ys:List α) (i:Nat) (q:α):ys.set i q=ys.zipIdx.map (fun p=>if i=p.2 then q else p.1):=by
 apply mc
 intro n
 rw[tk,bU,kI]
 by_cases h:i=n
 ·subst h
  by_cases l:i<ys.length
  ·simp[l]
  ·simp[l,ib (Nat.le_of_not_lt l)]
 ·cases ys[n]?<;>simp[h]
def uB {α:Type} (x:α) (o:Option (List α)):Option (List α):=o.map (x :: ·)
theorem vR {α:Type} {x:α} {o:Option (List α)} {r:List α} (h:uB x o=some r):∃l,r=x::l∧o=some l:=by
 obtain⟨l,h1,h2⟩:=cS.1 h
 exact⟨l,h2.symm,h1⟩
theorem vS {l:List Int} (h:∀x∈l,U8 x):l.map (fun x=>aB .u8 x)=strCells (gj l):=by
 have e:=CN h
 conv=>lhs;rw[←e]
 simp[lM,strCells]
section
variable {F:Fence} {P:Program} {w0:World} {K:Nat→Prop} {N:Nat} {dfs:List Deferred} {ops:Array Oper} {Q:Exit→Act→World→Prop} {rest:List Oper} {c:Code} {ex:Exit} {σ:List (Nat×Value)} {L L' As R:List Asn} {A B:Asn} {k:Nat} {β:Type}
theorem mn (q:aq L L' R) (h:TO F P w0 K N dfs ops Q rest σ L'):TO F P w0 K N dfs ops Q rest σ L:=fun a w ha l=>h a w ha (l.weaken q)
theorem GQ (hk:L[k]?=some A) (he:pF A B) (h:TX w0 K N dfs Q ex σ (L.set k B)):TX w0 K N dfs Q ex σ L:=fun a w ha l=>h a w ha (l.ent hk he)
def TR (F:Fence) (P:Program) (w0:World) (K:Nat→Prop) (N:Nat) (dfs:List Deferred) (Q:Exit→Act→World→Prop) (c:Code) (m:Nat) (σ:List (Nat×Value)) (L:List Asn):Prop :=
 ∀a w,At N dfs σ a→Holds w0 K L w→oW F 0 P c Q m a w
theorem GR (m:Nat) (h:TR F P w0 K N dfs Q c m σ L):TC F P w0 K N dfs Q (.loop c) σ L:=fun a w ha l=>wpIn_loop_rounds m (h a w ha l)
theorem uC {m:Nat} (h:TC F P w0 K N dfs (_root_.Go.Exit.then (oW F 0 P c Q m) Q) c σ L):TR F P w0 K N dfs Q c (m+1) σ L:=fun a w ha l=>h a w ha l
theorem xT {m:Nat} (h:TR F P w0 K N dfs Q c m σ L):TX w0 K N dfs (_root_.Go.Exit.then (oW F 0 P c Q m) Q) .normal σ L:=fun a w ha l=>h a w ha l
theorem Holds.fold1 {w:World} (h:Holds w0 K L w) (hk:L[k]?=some A) (E:aq (L.set k cE) As R) (q:R[k]?=some cE) (H:∀C w,aO (A::As) C w→B.P C w):Holds w0 K (R.set k B) w:=by
 obtain⟨C,hL,hx⟩:=h
 obtain⟨C1,C2,h1,h2,h3,I⟩:=aO.take hk hL
 obtain⟨D,M,g1,g2,J,g4⟩:=E C2 w h2
 have l:R.set k cE=R:=by
  obtain⟨G,he⟩:=au.1 q
  rw[←he];exact qe G
 refine⟨C,aO.put (C1:=fun i=>C1 i∨D i) (C2:=M) (au.1 q).1 (H _ _ ⟨C1,D,h1,g1,fun i a b=>h3 i a ((g4 i).2 (.inl b)),fun i=>_root_.Iff.rfl⟩) (by rw[l];exact g2) (fun i a b=>?_) (fun i=>?_),hx⟩
 ·rcases a with a|a
  ·exact h3 i a ((g4 i).2 (.inr b))
  ·exact J i a b
 ·rw[I,g4,or_assoc]
theorem Holds.unfold1 {w:World} {I:β→Prop} {q:β→Asn} {Bs:β→List Asn} (h:Holds w0 K L w) (hk:L[k]?=some A) (E:∀C w,A.P C w→∃b,I b∧aO (q b::Bs b) C w):∃b,I b∧Holds w0 K (L.set k (q b)++Bs b) w:=by
 obtain⟨C,hL,hx⟩:=h
 obtain⟨C1,C2,h1,h2,h3,G⟩:=aO.take hk hL
 obtain⟨b,D,l,J,g1,g2,H,g4⟩:=E _ _ h1
 refine⟨b,D,C,uA (C1:=fun i=>l i∨C2 i) (C2:=J) (aO.put (C1:=l) (C2:=C2) (au.1 hk).1 g1 h2 (fun i a b=>h3 i ((g4 i).2 (.inl a)) b) (fun i=>_root_.Iff.rfl)) g2 (fun i a b=>?_) (fun i=>?_),hx⟩
 ·rcases a with a|a
  ·exact H i a b
  ·exact h3 i ((g4 i).2 (.inr b)) a
 ·rw[G,g4]
  constructor
  ·rintro ((a | a) | a)
   ·exact .inl (.inl a)
   ·exact .inr a
   ·exact .inl (.inr a)
  ·rintro ((a | a) | a)
   ·exact .inl (.inl a)
   ·exact .inr a
   ·exact .inl (.inr a)
theorem xU (hk:L[k]?=some A) (q:aq (L.set k cE) As R) (D:R[k]?=some cE) (E:∀C w,aO (A::As) C w→B.P C w) (h:TO F P w0 K N dfs ops Q rest σ (R.set k B)):TO F P w0 K N dfs ops Q rest σ L:=fun a w ha l=>h a w ha (l.fold1 hk q D E)
theorem Nd (hk:L[k]?=some A) (q:aq (L.set k cE) As R) (D:R[k]?=some cE) (E:∀C w,aO (A::As) C w→B.P C w) (h:TC F P w0 K N dfs Q c σ (R.set k B)):TC F P w0 K N dfs Q c σ L:=fun a w ha l=>h a w ha (l.fold1 hk q D E)
theorem tK (hk:L[k]?=some A) (q:aq (L.set k cE) As R) (D:R[k]?=some cE) (E:∀C w,aO (A::As) C w→B.P C w) (h:TX w0 K N dfs Q ex σ (R.set k B)):TX w0 K N dfs Q ex σ L:=fun a w ha l=>h a w ha (l.fold1 hk q D E)
theorem qR {I:β→Prop} {l:β→Asn} {Bs:β→List Asn} (hk:L[k]?=some A) (E:∀C w,A.P C w→∃b,I b∧aO (l b::Bs b) C w) (h:∀b,I b→TO F P w0 K N dfs ops Q rest σ (L.set k (l b)++Bs b)):TO F P w0 K N dfs ops Q rest σ L:=fun a w ha q=>by
 obtain⟨b,D,hb⟩:=q.unfold1 hk E;exact h b D a w ha hb
end
section
variable {F:Fence} {P:Program} {w0:World} {K:Nat→Prop} {N:Nat} {dfs:List Deferred} {ops:Array Oper} {Q:Exit→Act→World→Prop} {rest:List Oper} {c:Code} {ex:Exit} {σ:List (Nat×Value)} {L As R:List Asn} {k:Nat}
 {α η:Type} {enc:α×η→List Value} {nest:α×η→List Asn} {e:TypeId} {size:Nat} {v:Value} {xs:List α} {zs zs':List (α×η)} {z z':α×η} {i:Nat} {x x':α} {h h':η}
def own (nest:α×η→List Asn) (zs:List (α×η)):Asn:=ziH (zs.flatMap nest)
theorem vT (C:Nat→Prop) (w:World) (h:(nm enc nest e size v xs).P C w):∃zs:List (α×η),zs.map bw=xs∧aO (vec enc e size v zs::[own nest zs]) C w:=by
 obtain⟨⟨zs,hz⟩,h⟩:=h;exact⟨zs,hz,h⟩
theorem xV (hz:zs.map bw=xs) (C:Nat→Prop) (w:World) (h:aO (vec enc e size v zs::[own nest zs]) C w):(nm enc nest e size v xs).P C w:=⟨⟨zs,hz⟩,h⟩
theorem xW (hz:zs[i]?=some z) (C:Nat→Prop) (w:World) (h:(own nest zs).P C w):∃_u:Unit,True∧aO (own nest (zs.eraseIdx i)::nest z) C w:=by
 obtain⟨C1,C2,h1,h2,h3,l⟩:=(GH hz).1 h
 exact⟨(),trivial,C2,C1,h2,h1,fun k a b=>h3 k b a,fun k=>by rw[l];exact Or.comm⟩
theorem uD (hz:zs'[i]?=some z) (he:zs'.eraseIdx i=zs.eraseIdx i) (C:Nat→Prop) (w:World) (h:aO (own nest (zs.eraseIdx i)::nest z) C w):(own nest zs').P C w:=by
 obtain⟨C1,C2,h1,h2,h3,l⟩:=h
 exact (GH hz).2 ⟨C2,C1,h2,by rw[he];exact h1,fun k a b=>h3 k b a,fun k=>by rw[l];exact Or.comm⟩
theorem GS (C:Nat→Prop) (w:World) (h:aO (own nest zs::nest z) C w):(own nest (zs++[z])).P C w:=by
 obtain⟨C1,C2,h1,h2,h3,l⟩:=h
 show aO ((zs++[z]).flatMap nest) C w
 rw[dX,aG,List.flatMap_nil,aH]
 exact uA h1 h2 h3 l
theorem xX {i:Int} (hz:zs.map bw=xs) (l:zca xs i=some x):∃h,zca zs i=some (x,h):=by
 subst hz
 unfold zca at l ⊢
 split at l
 ·rename_i h0
  rw[am h0]
  rw[bU] at l
  obtain⟨z,h1,h2⟩:=cS.1 l
  exact⟨z.2,by rw[h1,←h2]⟩
 ·cases l
theorem CY (hz:zs.map bw=xs):zs.length=xs.length:=by rw[←hz,az]
theorem Nf (hz:zs.map bw=xs):(zs.set i (x',h)).map bw=xs.set i x':=by rw[List.map_set,hz]
theorem GT (hz:zs.map bw=xs):(zs++[(x,h)]).map bw=xs++[x]:=by rw[List.map_append,hz];rfl
theorem Ng (hz:zs[i]?=some z):(zs.set i z')[i]?=some z':=by
 have:=(au.1 hz).1;simp[this]
theorem Nh:(zs.set i z').eraseIdx i=zs.eraseIdx i:=List.eraseIdx_set_eq
variable {d:Nat} {ty:TypeId} {pos:String} {aft:Array Edge} {g:Option (Nat×Bool)} {o:Operand}
theorem CZ [bu F] {l te:TypeId} {Ls:List (α×η)} {vv:Value} {j:Nat} (hz:zs.map bw=xs) (hV:Vw vv Ls size j v zs) (hg:gd ops σ g=some true) (hd:d<N) (hx:ev σ o=some v) (ht:P.underlying l=some (.slice te))
  (h:TO F P w0 K N dfs ops Q rest ((d,.int .i64 (xs.length:Int))::σ) L):TO F P w0 K N dfs ops Q (⟨some d,.call { callee:=.builtin .len,args:=#[o],argTypes:=#[l] },ty,pos,aft,g⟩::rest) σ L :=
 zbT hV hg hd hx ht (by rw[CY hz];exact h)
theorem Ni [bu F] {b:ad} {l:TypeId} {te:TypeId} (hg:gd ops σ g=some true) (hd:d<N) (hx:ev σ o=some v) (hk:L[k]?=some (byt e v b)) (ht:P.underlying l=some (.slice te))
  (h:TO F P w0 K N dfs ops Q rest ((d,.int .i64 b.size)::σ) L):TO F P w0 K N dfs ops Q (⟨some d,.call { callee:=.builtin .len,args:=#[o],argTypes:=#[l] },ty,pos,aft,g⟩::rest) σ L :=
 jz hg hd (by simp) (fun a w ha D=>by
  obtain⟨C,hv,_⟩:=D.focus hk
  have G:∃q c,v=.slice q b.size c:=by
   rcases jC.shape hv with⟨rfl,rfl,_⟩|⟨q,cap,H,rfl,_⟩
   ·exact⟨none,0,rfl⟩
   ·exact⟨_,_,rfl⟩
  obtain⟨q,I,E⟩:=G
  have:=ha.ev hx
  simp[execOp,resolve,invoke,builtin,this,E,jw,run_underlying ht,ap,goInt]) h
theorem xY (h:TC F P w0 K N dfs Q c σ (L++[byt e (.slice none 0 0) ⟨#[]⟩])):TC F P w0 K N dfs Q c σ L:=fun a w ha l=>
 h a w ha (l.grow (C':=fun _=>False) (cJ.refl _ _) (aO.one (A:=byt e (.slice none 0 0) ⟨#[]⟩) jC.nil))
theorem Nj (q:TC F P w0 K N dfs Q c σ (L++[nm enc nest e size (.slice none 0 0) ([]:List α)])):TC F P w0 K N dfs Q c σ L:=fun a w ha l=>
 q a w ha (l.grow (C':=fun _=>False) (cJ.refl _ _) (by obtain⟨_,_,h⟩:=MV (enc:=enc) (nest:=nest) (e:=e) (size:=size) (fun _=>False) w (fun _ h=>h);exact h))
theorem GU (h:TO F P w0 K N dfs ops Q rest σ (L++[cE])):TO F P w0 K N dfs ops Q rest σ L:=fun a w ha l=>by
 refine h a w ha ?_
 obtain⟨C,hL,hx⟩:=l
 exact⟨C,uA hL (CT 1) (fun _ _ h=>h) (fun k=>by simp),hx⟩
theorem GV {ε:Type} {_k:ε→List Value} {q1 q2:ε} (he:_k q1=_k q2):∀ (ys:List ε) (i:Nat),(ys.set i q1).flatMap _k=(ys.set i q2).flatMap _k
 |[],i=>rfl
 |y::ys,0=>by simp[he]
 |y::ys,i+1=>by simp[GV he ys i]
theorem GW {ε:Type} {_k:ε→List Value} {ys zs:List ε} {q1 q2:ε} (hz:zs=ys.set i q1) (l:∀x,(_k x).length=size) (he:_k q1=_k q2):pF (vec _k e size v zs) (vec _k e size v (ys.set i q2)):=by
 subst hz
 rintro C w ⟨h1,h3⟩
 refine⟨?_,h3⟩
 have hf:=GV he ys i
 have q:(ys.set i q1).length=(ys.set i q2).length:=by simp
 unfold Rw at h1 ⊢
 rw[←hf,←q];exact h1
theorem Nk {b:Nat} {ε:Type} {_k:ε→List Value} {y:ε} (l:∀x,(_k x).length=size):pF (vec _k e size (.slice (some ⟨b,0,none⟩) 1 1) [y]) (cells b (_k y) e):=by
 intro C w h
 obtain⟨_,_,h'⟩:=MX (_k:=_k) (e:=e) (size:=size) (b:=b) (y:=y) l C w (aO.one1.2 h)
 exact aO.one1.1 h'
end
end Go.Proofs.YtifpjbgnikjglaaGreatDoor
