/-
  Texts laid together: Fr, Iter, Iter2, Row, Sep, Sl, Rl, Tl, Ul, Dl, Vl, Gl, Wl, Yl, Ll, Ml, Nl, Mm, Dg, Utf, Rn, Ap, Cp, Zn. Nothing is assumed.
-/
import Derived.RangeFuncNested
import Derived.RangeFuncBound
import Derived.RangeFuncCalls
import Derived.RangeFuncLeaves
import Derived.Shelf.Abstract
import Derived.Shelf.RegionOpen
import Derived.WalkKit
import Derived.WalkSpells
import Derived.WalkLawsBesides
import Derived.OwnWalkIn
import Derived.TacticsInMore
import Derived.LoopNIn
import Derived.LoopIn
import Derived.Lib.OthersKept
import Derived.Lib.MapLaws
import Derived.Lib.ValidLaws
import Derived.Lib.TrimUEq
import Derived.Lib.RuneCountTail
import Derived.Lib.Hide
import Derived.Lib.Bytealg
import Derived.Deep.Light
import Derived.Deep.QuietTactic
import Derived.BigQuiet
import Derived.Deep.LoopGhost
import Derived.Lib.QuoteLoop
import Derived.Lib.AppendStr
import Derived.Laws.IdiomStrings
import Derived.Lib.BufferRead
import Derived.OrdersIn
import Derived.Deep.MidRow
import Derived.IntWalk
import Derived.Laws.MakeOwn
import Derived.Laws.StructEq
import Derived.Laws.Cover4
import Derived.Laws.CopyRow
import Derived.Laws.Tables
import Derived.Test.YtifpjbgnikjglaaGreatDoorProg
set_option maxRecDepth 100000
set_option maxHeartbeats 4000000
namespace Go.Proofs.YtifpjbgnikjglaaGreatDoor
open Go.RowKit Go.Lib
open Tryz
set_option linter.unusedVariables false
set_option linter.unusedSimpArgs false
open _root_.Array renaming getElem?_eq_some_iff→c7,replicate→fb,eq_empty_of_size_eq_zero→l9,length_toList→dJ,getD→eZ,getElem?_eq_getElem→el,getD_eq_getD_getElem?→nf,toList_inj→fv
open _root_.BitVec renaming ofInt→fM
open _root_.Bool renaming or_eq_false_iff→bI,and_eq_true→aN,not_eq_true'→cM
open _root_.ByteArray renaming size_append→aJ
open _root_.Go.Addr renaming add→pH,add_mid→iz
open _root_.Go.Builtin renaming append_→cR,lenOf→iQ,firstCells→kI,len_→jk,copy_→ky
open _root_.Go.ByteArray renaming toList_eq→mq
open _root_.Go.CallsIn renaming mono→k9
open _root_.Go.Code renaming roundsIn→oA
open _root_.Go.Conv renaming runesFrom→fA
open _root_.Go.Deferred renaming ofValue→ls
open _root_.Go.Exit renaming inBlock→jE
open _root_.Go.Fence renaming wide→bt
open _root_.Go.Instr renaming sureAddr→eo,index→iT,sliceAt→gq,loadAt→kf,sliceBounds→jn,sliceBound→jj
open _root_.Go.Op renaming intArith→rL,intCmp→lf,stringOp→rM,equalIn→fe,eqFields→kP
open _root_.Go.Oper renaming wpIn→oW,uponIn→gp,semAt_plain→gX
open _root_.Go.Region renaming wanted→kJ
open _root_.Go.Result renaming andThen_ok→ci,andThen→kK
open _root_.Go.RoundIn renaming mono→lc
open _root_.Go.RowKit.Below renaming heap_alloc→fS
open _root_.Go.RowsIn renaming mono→mb
open _root_.Go.Sem renaming run_bind→an,run_pure→iF
open _root_.Go.StepsIn renaming trans→nz
open _root_.Go.Utf8 renaming encode→ac
open _root_.Go.Value renaming ownBlock→bR,cells→pJ,oneCell'→ny,int→aC
open _root_.Go.World renaming setCell→lQ,putObj_heap_other→dC,putObj_heap_same→gQ,alloc_heap_new→eU,frozen?→lR,ownsRow_nil→rK
open _root_.Go.World.ownsRow renaming lt→fc
open _root_.Int renaming toNat_natCast→bN
open _root_.List renaming nodup_cons→iP,flatMap_cons→aK,getElem?_append_left→fK,getElem?_append_right→fT,eq_nil_of_length_eq_zero→ck,getElem?_eq_some_iff→az,mem_flatMap→gD,length_append→aa,flatMap_append→dZ,getElem?_map→bT,getElem?_eq_getElem→aO,map_toArray→eR,map_cons→av,map_nil→dW,all_eq_true→bd,mem_map→aS,mem_filter→co,append_nil→aE,contains_cons→gl,getElem?_set_ne→qf,lookup→dP,getElem?_take→iI,getElem?_drop→gm,ext_getElem?→lS,getElem?_set→sV,mem_of_getElem?→aL,mem_cons→aY,mem_cons_of_mem→ak,mem_cons_self→aq,mem_append→bH,cons_append→bq,mem_iff_getElem?→gR,getElem?_inj→sW,append_assoc→aB,getD_eq_getElem?_getD→cB,getElem?_eq_none→gU,getElem?_zipIdx→kw,drop_eq_getElem_cons→bB,drop_zero→jY,drop_eq_nil_of_le→de,getElem?_take_of_lt→oy,take_append_drop→bO,length_take→bw,length_drop→aR,drop_drop→fa,length_pos_iff→cU,not_mem_nil→cX,replicate→bF,replicate_succ→qO,length_map→ar,take_of_length_le→dX,drop_left→gV,set_getElem_self→pM,length→fu,flatMap→ph
open _root_.Nat renaming le_refl→bi,le_trans→pF,lt_of_lt_of_le→eF,add_mul→c6,zero_mul→od,zero_add→bL,mul_le_mul_right→ik,zero_le→cm,one_mul→jx,add_comm→jN,min→tR
open _root_.Option renaming map_eq_some_iff→cS
open _root_.Option.some renaming injEq→fL,inj→mo
open _root_.Prod renaming fst→bv
open _root_.UInt8 renaming ofNat→sX
theorem aj {p:Prop} [Decidable p] (h:¬p):decide p=false:=decide_eq_false h
theorem ap.{u} {c:Prop} {_:Decidable c} (h:¬c) {α:Sort u} {t e:α}:(ite c t e)=e:=if_neg h
theorem au {p:Prop} [Decidable p] (h:p):decide p=true:=decide_eq_true h
theorem ax.{u} {c:Prop} {_:Decidable c} (h:c) {α:Sort u} {t e:α}:(ite c t e)=t:=if_pos h
theorem aA.{u} {α:Type u} [BEq α] [LawfulBEq α] {a b:α}:(a==b)=false↔a≠b:=beq_eq_false_iff_ne
theorem aH.{u,v} {α:Sort u} {β:Sort v} {a b:α} (f:α→β) (h:a=b):f a=f b:=congrArg f h
theorem du.{u} {α:Type u} [BEq α] [LawfulBEq α] {a b:α}:a != b↔a≠b:=bne_iff_ne
abbrev ae:=ByteArray
theorem dc {p:Prop} [Decidable p] (h:decide p=true:=by rfl):p:=of_decide_eq_true h
theorem kr {α:Sort _} {a b:α} (h:a=b:=by as_aux_lemma=>kernel_rfl):a=b:=h
structure Fr (C:Nat→Prop) (w w':World):Prop where
 os:w'.os=w.os
 tape:w'.tape=w.tape
 output:w'.output=w.output
 size:w.heap.size≤w'.heap.size
 keep:∀k,k<w.heap.size→¬C k→w'.heap[k]?=w.heap[k]?
theorem Fr.refl (C:Nat→Prop) (w:World):Fr C w w:=⟨rfl,rfl,rfl,bi _,fun _ _ _=>rfl⟩
theorem Fr.trans' {C C':Nat→Prop} {a b c:World} (h:Fr C a b) (k:Fr C' b c) (hc:∀i,i<a.heap.size→C' i→C i):Fr C a c :=
 ⟨k.os.trans h.os,k.tape.trans h.tape,k.output.trans h.output,pF h.size k.size,
  fun i hi l=>(k.keep i (eF hi h.size) (fun h'=>l (hc i hi h'))).trans (h.keep i hi l)⟩
theorem Fr.trans {C:Nat→Prop} {a b c:World} (h:Fr C a b) (k:Fr C b c):Fr C a c:=h.trans' k (fun _ _ h=>h)
theorem Fr.weaken {C C':Nat→Prop} {a b:World} (h:Fr C a b) (hc:∀i,i<a.heap.size→C i→C' i):Fr C' a b :=
 ⟨h.os,h.tape,h.output,h.size,fun i hi l=>h.keep i hi (fun h'=>l (hc i hi h'))⟩
theorem Fr.alloc {C:Nat→Prop} {a w:World} (h:Fr C a w) (o:Obj):Fr C a (w.alloc o) :=
 ⟨h.os,h.tape,h.output,by have:=h.size;simp;omega,fun i hi l=>(fS w o i (eF hi h.size)).trans (h.keep i hi l)⟩
theorem Fr.drew {C:Nat→Prop} {a w:World} (h:Fr C a w):Fr C a w.drew:=⟨h.os,h.tape,h.output,h.size,h.keep⟩
theorem Fr.setCell {C:Nat→Prop} {a w:World} (h:Fr C a w) {p:Addr} (hp:C p.block∨a.heap.size≤p.block) (u:Value):Fr C a (w.setCell p u) :=
 ⟨h.os,h.tape,h.output,by simpa [lQ] using h.size,fun i hi l=>
  (Below.heap_setCell w p u i (by rintro rfl;rcases hp with hp | hp;exact l hp;omega)).trans (h.keep i hi l)⟩
theorem Fr.putObj {C:Nat→Prop} {a w:World} (h:Fr C a w) {r:Nat} (hp:C r∨a.heap.size≤r) (o:Obj):Fr C a (w.putObj r o) :=
 ⟨h.os,h.tape,h.output,by simpa using h.size,fun i hi l=>
  (dC (by rintro rfl;rcases hp with hp | hp;exact l hp;omega)).trans (h.keep i hi l)⟩
theorem Fr.iterAt {C:Nat→Prop} {a w:World} (h:Fr C a w) {k:Nat} (hp:C k∨a.heap.size≤k) (s:ae) (pos:Nat):Fr C a (w.iterAt k s pos) :=
 ⟨h.os,h.tape,h.output,by rw[iterAt_size];exact h.size,fun i hi l=>
  (iterAt_other w k i s pos (by rintro rfl;rcases hp with hp | hp;exact l hp;omega)).trans (h.keep i hi l)⟩
theorem Fr.grown {C:Nat→Prop} {a w w':World} {row:Option Nat} (h:Fr C a w) (hg:w.grownBy w' row) (hr:∀r,row=some r→C r∨a.heap.size≤r):Fr C a w' :=
 ⟨hg.os.trans h.os,hg.tape.trans h.tape,hg.output.trans h.output,pF h.size hg.size,fun i hi l=>
  (hg.block i (eF hi h.size) (fun e=>by rcases hr i e.symm with h' | h';exact l h';omega)).trans (h.keep i hi l)⟩
theorem Fr.below {C:Nat→Prop} {a w w':World} (h:Fr C a w) (hb:Below w.heap.size w w'):Fr C a w' :=
 ⟨hb.os.trans h.os,hb.tape.trans h.tape,hb.output.trans h.output,pF h.size hb.size,fun i hi l=>
  (hb.block i (eF hi h.size)).trans (h.keep i hi l)⟩
theorem Fr.toBelow {C:Nat→Prop} {B:Nat} {w w':World} (h:Fr C w w') (hB:B≤w.heap.size) (l:∀k,k<B→¬C k):Below B w w' :=
 ⟨h.os,h.tape,h.output,h.size,fun k hk=>h.keep k (by omega) (l k hk)⟩
theorem Fr.at {C:Nat→Prop} {w w':World} (h:Fr C w w') {k:Nat} {o:Obj} (hk:w.heap[k]?=some o) (l:¬C k):w'.heap[k]?=some o :=
 (h.keep k (c7.1 hk).1 l).trans hk
theorem kW {w:World} {k:Nat} {o:Obj} (hk:w.heap[k]?=some o):k<w.heap.size:=(c7.1 hk).1
def cz (C C':Nat→Prop) (W W':World):Prop:=Fr C W W'∧∀k,C' k→C k∨(W.heap.size≤k∧k<W'.heap.size)
theorem cz.refl (C:Nat→Prop) (W:World):cz C C W W:=⟨Fr.refl _ _,fun _ h=>.inl h⟩
theorem cz.trans {C C1 C2:Nat→Prop} {W q l:World} (h:cz C C1 W q) (k:cz C1 C2 q l):cz C C2 W l:=by
 refine⟨h.1.trans' k.1 (fun i hi hc=>(h.2 i hc).resolve_right (by omega)),fun i hi=>?_⟩
 have h1:=h.1.size;have h2:=k.1.size
 rcases k.2 i hi with h'|h'
 ·rcases h.2 i h' with h''|h''
  ·exact .inl h''
  ·exact .inr (by omega)
 ·exact .inr (by omega)
theorem Li {C:Nat→Prop} {W W':World} (h:Fr C W W'):cz C C W W':=⟨h,fun _ h=>.inl h⟩
theorem cz.not {C C':Nat→Prop} {W W':World} (h:cz C C' W W') {k:Nat} (hk:k<W.heap.size) (l:¬C k):¬C' k:=fun h'=>by
 rcases h.2 k h' with h''|h''
 ·exact l h''
 ·omega
def oi {β:Type} (I:β→(Nat→Prop)→World→Prop):Prop :=
 ∀s C W W',I s C W→W.heap.size≤W'.heap.size→(∀k,C k→W'.heap[k]?=W.heap[k]?)→I s C W'
def BS (P:Program) (l:Nat) (args:Array Value) (W:World) (R:Bool→World→Prop):Prop :=
 ∃fn tmps assign body,(Instr.yield l args).run P W=.ok (.round l fn tmps assign body) W ∧
  RoundIn bt 0 P l fn tmps assign body W fun e W'=>∃b,e=.returned (.bool b)∧R b W'
def zB {α:Type} (P:Program) (g:FuncId) (lb:Array Value) (enc:α→Array Value) (xs:List α) (D:Nat→Prop) (H:World):Prop :=
 ∀ (l:Nat) (I X:List α→(Nat→Prop)→World→Prop) (E:Nat→Prop) (W:World),
  (∀k,D k→k<H.heap.size∧W.heap[k]?=H.heap[k]?)→H.heap.size≤W.heap.size→(∀k,E k→k<W.heap.size∧¬D k) →
  oi I→oi X →
  (∀pre x post C q,xs=pre++x::post→cz E C W q→I pre C q →
   BS P l (enc x) q fun b G=>∃C',cz C C' q G∧((b=true∧I (pre++[x]) C' G)∨(b=false∧X (pre++[x]) C' G))) →
  I [] E W →
  Calls P g (#[.func (.yield l) #[] #[]]++lb) W fun e W'=>(∃v,e=.returned v) ∧
   ∃C',cz E C' W W'∧(I xs C' W'∨∃pre x post,xs=pre++x::post∧X (pre++[x]) C' W')
def zC {α:Type} (I:List α→(Nat→Prop)→World→Prop) (X:Code→List α→(Nat→Prop)→World→Prop) (xs:List α) (C:Nat→Prop) (W:World):Exit→Act→World→Prop
 |.normal,_,W'=>∃C',cz C C' W W'∧I xs C' W'
 |.ret,_,W'=>∃C',cz C C' W W'∧X .ret xs C' W'
 |.exit id,_,W'=>∃C',cz C C' W W'∧X (.exit id) xs C' W'
 |.goto t,_,W'=>∃C',cz C C' W W'∧X (.goto t) xs C' W'
 |.panic _,_,_=>False
 |.outgrown,_,_=>False
theorem Fh (f:FuncId):Fence.wide.fn f=True:=rfl
theorem Fi (l:Nat) (f:FuncId):(Fence.wide.inRound l).fn f=True:=rfl
theorem Fj:Fence.wide.depth=none:=rfl
section
variable {P:Program}
theorem Lj {α:Type} {gf:FuncId} {lb:Array Value} {enc:α→Array Value} {xs:List α} {D:Nat→Prop} {W0:World} (hY:zB P gf lb enc xs D W0)
  {fn:FuncId} {tmps:Array Value} {ps:Array Tmp} {assign body:Code} {q:Nat} (bk:∀x,(enc x).size=ps.size)
  (I:List α→(Nat→Prop)→World→Prop) (X:Code→List α→(Nat→Prop)→World→Prop) (J:List α→α→Act→(Nat→Prop)→World→Prop)
  (hI:oi I) (hX:∀c,oi (X c)) (hJ:∀pre x a,oi (fun (_:Unit)=>J pre x a)) (C0:Nat→Prop) (W:World) (l:Nat)
  (hl:W.heap[l]?=some (.loop { state:=.ready,pending:=none,fn,tmps,params:=ps,assign,body,defers:=q })) (b2:¬C0 l) (b1:¬D l)
  (hD:∀k,D k→k<W0.heap.size∧W.heap[k]?=W0.heap[k]?) (hs:W0.heap.size≤W.heap.size) (b4:∀k,C0 k→k<W.heap.size∧¬D k) (h0:I [] C0 W)
  (ag:∀pre x post C M,xs=pre++x::post→cz (fun k=>C0 k∨k=l) (fun k=>C k∨k=l) W M→I pre C M→¬C l→(∃r,M.heap[l]?=some (.loop r)∧r.defers=q) →
   assign.wpIn (Fence.wide.inRound l) 0 P (_root_.Go.Exit.then (fun a1 Y=>∃C1,cz C C1 M Y∧J pre x a1 C1 Y) (fun _ _ _=>False))
    { tmps:=(ps.zip (enc x)).foldl (fun t (p,v)=>t.setIfInBounds p v) tmps,defers:=[] } M)
  (a5:∀pre x post C M a1,xs=pre++x::post→cz (fun k=>C0 k∨k=l) (fun k=>C k∨k=l) W M→J pre x a1 C M→¬C l→(∃r,M.heap[l]?=some (.loop r)∧r.defers=q) →
   body.wpIn (Fence.wide.inRound l) 0 P (zC I X (pre++[x]) C M) a1 M) :
  Calls P gf (#[.func (.yield l) #[] #[]]++lb) W fun e W'=>(∃v,e=.returned v) ∧
   ∃C' st pe,cz (fun k=>C0 k∨k=l) (fun k=>C' k∨k=l) W W'∧¬C' l∧W'.heap[l]?=some (.loop { state:=st,pending:=pe,fn,tmps,params:=ps,assign,body,defers:=q })∧st≠.busy ∧
    ((pe=none∧I xs C' W')∨∃c pre x post,pe=some c∧xs=pre++x::post∧X c (pre++[x]) C' W'):=by
 have b0:l<W.heap.size:=kW hl
 refine (hY l
  (fun pre Cc M=>∃C,Cc=(fun k=>C k∨k=l)∧¬C l∧I pre C M∧M.heap[l]?=some (.loop { state:=.ready,pending:=none,fn,tmps,params:=ps,assign,body,defers:=q }))
  (fun pre Cc M=>∃C c,Cc=(fun k=>C k∨k=l)∧¬C l∧X c pre C M∧M.heap[l]?=some (.loop { state:=.done,pending:=some c,fn,tmps,params:=ps,assign,body,defers:=q }))
  (fun k=>C0 k∨k=l) W hD hs ?_ ?_ ?_ ?_ ?_).mono ?_
 ·rintro k (h | rfl)
  ·exact b4 k h
  ·exact⟨b0,b1⟩
 ·rintro pre Cc M Y ⟨C,rfl,Z,hi,hr⟩ hsz hk
  exact⟨C,rfl,Z,hI _ _ _ _ hi hsz (fun k h=>hk k (.inl h)),(hk l (.inr rfl)).trans hr⟩
 ·rintro pre Cc M Y ⟨C,c,rfl,Z,hi,hr⟩ hsz hk
  exact⟨C,c,rfl,Z,hX c _ _ _ _ hi hsz (fun k h=>hk k (.inl h)),(hk l (.inr rfl)).trans hr⟩
 ·rintro pre x post Cc M ao O ⟨C,rfl,Z,hi,hr⟩
  have bb:l<M.heap.size:=kW hr
  have hy:=run_yield (P:=P) (args:=enc x) hr (bk x)
  refine⟨fn,_,assign,body,hy,roundIn_of_wpIn (F:=bt) trivial (wpIn_mono (ag pre x post C M ao O hi Z ⟨_,hr,rfl⟩) ?_)⟩
  clear hy
  rintro e a1 Y hp
  cases e with
  |normal=>
   obtain⟨C1,aw,hj⟩:=hp
   have a0:¬C1 l:=aw.not bb Z
   have a8:Y.heap[l]?=_:=aw.1.at hr Z
   have a4:l<Y.heap.size:=kW a8
   refine⟨_,run_beginRound a8 rfl,?_⟩
   have a7:=gQ (w:=Y) (o:=.loop { state:=.busy,pending:=none,fn,tmps,params:=ps,assign,body,defers:=q }) a4
   have G:∀ (Cz:Nat→Prop) (Wz:World) (o:Obj),¬Cz l→∀k,Cz k→(Wz.putObj l o).heap[k]?=Wz.heap[k]?:=fun Cz Wz o hz k hk=>dC (by rintro rfl;exact hz hk)
   have b3:=hJ pre x a1 () C1 Y (Y.putObj l (.loop { state:=.busy,pending:=none,fn,tmps,params:=ps,assign,body,defers:=q })) hj (by simp) (G C1 Y _ a0)
   have bh:cz (fun k=>C k∨k=l) (fun k=>C1 k∨k=l) M (Y.putObj l (.loop { state:=.busy,pending:=none,fn,tmps,params:=ps,assign,body,defers:=q })) :=
    ⟨(aw.1.weaken (fun _ _ h=>.inl h)).putObj (.inl (.inr rfl)) _,fun k hk=>by
     rcases hk with hk|rfl
     ·rcases aw.2 k hk with h'|h'
      ·exact .inl (.inl h')
      ·exact .inr (by simpa using h')
     ·exact .inl (.inr rfl)⟩
   refine wpIn_mono (a5 pre x post C1 _ a1 ao (O.trans bh) b3 a0 ⟨_,a7,rfl⟩) ?_
   have a2:∀ (E:Option Code) (C':Nat→Prop) (T:World),cz C1 C' (Y.putObj l (.loop { state:=.busy,pending:=none,fn,tmps,params:=ps,assign,body,defers:=q })) T →
     ¬C' l∧(Instr.endRound l E).run P T=.ok (.bool E.isNone) (T.putObj l (.loop { state:=if E.isNone then .ready else .done,pending:=E,fn,tmps,params:=ps,assign,body,defers:=q })) ∧
     (T.putObj l (.loop { state:=if E.isNone then .ready else .done,pending:=E,fn,tmps,params:=ps,assign,body,defers:=q })).heap[l]?=some (.loop { state:=if E.isNone then .ready else .done,pending:=E,fn,tmps,params:=ps,assign,body,defers:=q }) ∧
     cz (fun k=>C k∨k=l) (fun k=>C' k∨k=l) M (T.putObj l (.loop { state:=if E.isNone then .ready else .done,pending:=E,fn,tmps,params:=ps,assign,body,defers:=q })):=by
    intro E C' T H
    have bs:¬C' l:=H.not (by simpa using a4) a0
    have a6:=H.1.at a7 a0
    have a9:l<T.heap.size:=kW a6
    refine⟨bs,run_endRound (P:=P) E a6,gQ a9,bh.trans ⟨(H.1.weaken (fun _ _ h=>.inl h)).putObj (.inl (.inr rfl)) _,?_⟩⟩
    rintro k (hk|rfl)
    ·rcases H.2 k hk with h'|h'
     ·exact .inl (.inl h')
     ·exact .inr (by simpa using h')
    ·exact .inl (.inr rfl)
   rintro e a3 T V
   cases e with
   |normal=>
    obtain⟨C',H,U⟩:=V
    obtain⟨q1,q2,q3,q4⟩:=a2 none C' T H
    exact⟨_,_,q2,true,rfl,_,q4,.inl ⟨rfl,C',rfl,q1,hI _ _ _ _ U (by simp) (G C' T _ q1),q3⟩⟩
   |ret=>
    obtain⟨C',H,U⟩:=V
    obtain⟨q1,q2,q3,q4⟩:=a2 (some .ret) C' T H
    exact⟨_,_,q2,false,rfl,_,q4,.inr ⟨rfl,C',_,rfl,q1,hX _ _ _ _ _ U (by simp) (G C' T _ q1),q3⟩⟩
   |exit id=>
    obtain⟨C',H,U⟩:=V
    obtain⟨q1,q2,q3,q4⟩:=a2 (some (.exit id)) C' T H
    exact⟨_,_,q2,false,rfl,_,q4,.inr ⟨rfl,C',_,rfl,q1,hX _ _ _ _ _ U (by simp) (G C' T _ q1),q3⟩⟩
   |goto t=>
    obtain⟨C',H,U⟩:=V
    obtain⟨q1,q2,q3,q4⟩:=a2 (some (.goto t)) C' T H
    exact⟨_,_,q2,false,rfl,_,q4,.inr ⟨rfl,C',_,rfl,q1,hX _ _ _ _ _ U (by simp) (G C' T _ q1),q3⟩⟩
   |panic ch=>exact V.elim
   |outgrown=>exact V.elim
  |ret=>exact hp.elim
  |exit id=>exact hp.elim
  |goto t=>exact hp.elim
  |panic ch=>exact hp.elim
  |outgrown=>exact hp.elim
 ·exact⟨C0,rfl,b2,h0,hl⟩
 ·rintro e W' ⟨hv,C',O,⟨C,rfl,Z,hi,hr⟩ | ⟨pre,x,post,ao,C,c,rfl,Z,hi,hr⟩⟩
  ·exact⟨hv,C,_,_,O,Z,hr,by simp,.inl ⟨rfl,hi⟩⟩
  ·exact⟨hv,C,_,_,O,Z,hr,by simp,.inr ⟨c,pre,x,post,rfl,ao,hi⟩⟩
theorem Fk {α:Type} {g:Operand} {ps:Array Tmp} {assign body:Code} {Q:Exit→Act→World→Prop} {a:Act} {w:World}
  {gf:FuncId} {lb:Array Value} (hg:a.eval g=.func (.func gf) #[] lb) (eg:∀args w,(callFunc gf args).run P w=.ok (.enter gf args) w)
  {enc:α→Array Value} {xs:List α} {D:Nat→Prop} {W0:World} (hY:zB P gf lb enc xs D W0)
  (hD:∀k,D k→k<W0.heap.size∧w.heap[k]?=W0.heap[k]?) (hs:W0.heap.size≤w.heap.size) (a5:∀x,(enc x).size=ps.size)
  (I:List α→(Nat→Prop)→World→Prop) (X:Code→List α→(Nat→Prop)→World→Prop) (J:List α→α→Act→(Nat→Prop)→World→Prop)
  (hI:oi I) (hX:∀c,oi (X c)) (hJ:∀pre x a,oi (fun (_:Unit)=>J pre x a)) (T:Nat→Prop)
  (O:∀k,T k→k<w.heap.size∧¬D k) (h0:I [] T w)
  (V:∀l pre x post C q,xs=pre++x::post→cz T C w q→I pre C q→¬C l→w.heap.size≤l→(∃r,q.heap[l]?=some (.loop r)) →
   assign.wpIn (Fence.wide.inRound l) 0 P (_root_.Go.Exit.then (fun a1 G=>∃C1,cz C C1 q G∧J pre x a1 C1 G) (fun _ _ _=>False))
    { tmps:=(ps.zip (enc x)).foldl (fun t (p,v)=>t.setIfInBounds p v) a.tmps,defers:=[] } q)
  (aw:∀l pre x post C q a1,xs=pre++x::post→cz T C w q→J pre x a1 C q→¬C l→w.heap.size≤l→(∃r,q.heap[l]?=some (.loop r)) →
   body.wpIn (Fence.wide.inRound l) 0 P (zC I X (pre++[x]) C q) a1 q)
  (ao:∀ (d:Nat) (C:Nat→Prop) (W:World),cz T C w W→I xs C W→w.heap.size≤d→¬C d→W.heap[d]?=some (.deferred (some []))→Q .normal { a with defers:={ target:=.collected d,args:=#[] }::a.defers } W)
  (ag:∀ (d:Nat) (c:Code) (pre:List α) (x:α) (post:List α) (C:Nat→Prop) (W:World),xs=pre++x::post→cz T C w W→X c (pre++[x]) C W→w.heap.size≤d→¬C d→W.heap[d]?=some (.deferred (some [])) →
   c.wpIn bt 0 P Q { a with defers:={ target:=.collected d,args:=#[] }::a.defers } W) :
  (Code.rangeFunc g ps assign body).wpIn bt 0 P Q a w:=by
 refine wpIn_rangeFunc ?_
 intro fn hfn
 obtain⟨q,M⟩:∃q,(w.alloc (.deferred (some []))).alloc (.loop { state:=.ready,pending:=none,fn,tmps:=a.tmps,params:=ps,assign,body,defers:=w.heap.size })=q:=⟨_,rfl⟩
 have a6:q.heap[w.heap.size+1]?=some (.loop { state:=.ready,pending:=none,fn,tmps:=a.tmps,params:=ps,assign,body,defers:=w.heap.size }):=by
  rw[←M];have:=eU (w.alloc (.deferred (some []))) (.loop { state:=.ready,pending:=none,fn,tmps:=a.tmps,params:=ps,assign,body,defers:=w.heap.size });rwa [World.size_alloc] at this
 have a7:q.heap[w.heap.size]?=some (.deferred (some [])):=by
  rw[←M];exact (fS _ _ _ (by simp)).trans (eU w _)
 have a4:Fr T w q:=by rw[←M];exact ((Fr.refl T w).alloc _).alloc _
 have hsz:q.heap.size=w.heap.size+2:=by rw[←M];simp
 have Z:∀k,k<w.heap.size→q.heap[k]?=w.heap[k]?:=fun k hk=>by rw[←M];exact (fS _ _ _ (by simp;omega)).trans (fS _ _ _ hk)
 have a8:I [] T q:=hI _ _ _ _ h0 a4.size (fun k hk=>Z k (O k hk).1)
 have H:∀ {C:Nat→Prop} {G:World},cz (fun k=>T k∨k=w.heap.size+1) (fun k=>C k∨k=w.heap.size+1) q G→¬C (w.heap.size+1)→cz T C w G∧¬C w.heap.size∧G.heap[w.heap.size]?=some (.deferred (some [])):=by
  intro C G h Y
  have hnd:¬C w.heap.size:=fun hc=>by
   rcases h.2 _ (.inl hc) with (h'|h')|h'
   ·have:=(O _ h').1;omega
   ·omega
   ·omega
  refine⟨⟨a4.trans' h.1 (fun i hi hc=>hc.resolve_right (by omega)),fun k hk=>?_⟩,hnd,h.1.at a7 (fun hc=>?_)⟩
  ·have h2:=h.1.size
   rcases h.2 k (.inl hk) with (h'|h')|h'
   ·exact .inl h'
   ·exact absurd (h'▸hk) Y
   ·exact .inr (by omega)
  ·rcases hc with hc|hc
   ·have:=(O _ hc).1;omega
   ·omega
 refine⟨w.heap.size+1,[{ target:=.collected w.heap.size,args:=#[] }],q,{ target:=.fn (.func gf) lb,args:=#[.func (.yield (w.heap.size+1)) #[] #[]] },q,gf,
  #[.func (.yield (w.heap.size+1)) #[] #[]]++lb,q,?_,?_,?_,?_,fun h=>by simp[bt] at h,callsIn_wide.2 ?_⟩
 ·rw[←M];exact run_enterLoop_outer _ _ _ _ _
 ·simp only[resolve,hg]
  simp[go_sem]
 ·intro f' bb;trivial
 ·simp[invoke,go_sem,eg]
 ·refine (Lj hY a5 I X J hI hX hJ T q (w.heap.size+1) a6 (fun h=>by have:=(O _ h).1;omega) (fun h=>by have:=(hD _ h).1;omega)
   (fun k hk=>⟨(hD k hk).1,(Z k (by have:=(hD k hk).1;omega)).trans (hD k hk).2⟩) (by omega) (fun k hk=>⟨by have:=(O k hk).1;omega,(O k hk).2⟩) a8 ?_ ?_).mono ?_
  ·rintro pre x post C G U E hi Y ⟨r,hr,_⟩
   exact V _ pre x post C G U (H E Y).1 hi Y (by omega) ⟨r,hr⟩
  ·rintro pre x post C G a1 U E hj Y ⟨r,hr,_⟩
   exact aw _ pre x post C G a1 U (H E Y).1 hj Y (by omega) ⟨r,hr⟩
  ·rintro e G ⟨⟨v,rfl⟩,C',st,pe,E,Y,hr,a0,h⟩
   obtain⟨q1,q2,q3⟩:=H E Y
   have a9:w.heap.size+1<G.heap.size:=kW hr
   have e1:∀o,cz T C' w (G.putObj (w.heap.size+1) o):=fun o=>⟨q1.1.putObj (.inr (by omega)) _,fun k hk=>by have:=q1.2 k hk;simpa using this⟩
   have a2:∀o,∀k,C' k→(G.putObj (w.heap.size+1) o).heap[k]?=G.heap[k]?:=fun o k hk=>dC (by rintro rfl;exact Y hk)
   have a3:∀o,(G.putObj (w.heap.size+1) o).heap[w.heap.size]?=some (.deferred (some [])):=fun o=>(dC (by omega)).trans q3
   rcases h with⟨rfl,hi⟩|⟨c,pre,x,post,rfl,U,hx⟩
   ·exact⟨none,_,run_endLoop (P:=P) hr a0,ao _ C' _ (e1 _) (hI _ _ _ _ hi (by simp) (a2 _)) (bi _) q2 (a3 _)⟩
   ·exact⟨some c,_,run_endLoop (P:=P) hr a0,ag _ c pre x post C' _ U (e1 _) (hX _ _ _ _ _ hx (by simp) (a2 _)) (bi _) q2 (a3 _)⟩
def oj (l:List Nat):List Deferred:=l.map fun d=>{ target:=.collected d,args:=#[] }
theorem Fl {fn:Func} {tmps:Array Value} {R:Ending→World→Prop}:∀ (l:List Nat) (w:World),l.Nodup→(∀d∈l,w.heap[d]?=some (.deferred (some []))) →
  (∀w',Fr (fun k=>k∈l) w w'→w'.heap.size=w.heap.size→∃v,(results fn tmps).run P w'=.ok v w'∧R (.returned v) w') →
  LeavesInM bt 0 P fn tmps R (oj l) .returning w
 |[],w,_,_,h=>by
  obtain⟨v,h1,h2⟩:=h w (Fr.refl _ _) rfl
  exact⟨v,h1,h2⟩
 |d::l,w,hn,hd,h=>by
  have hnd:=iP.1 hn
  refine⟨by simp,.inl ⟨d,_,rfl,run_takeDeferred (hd d (by simp)),?_⟩⟩
  refine Fl l _ hnd.2 (fun e he=>(dC (by rintro rfl;exact hnd.1 he)).trans (hd e (by simp[he]))) (fun w' q D=>?_)
  refine h w' ?_ (by rw[D];simp)
  exact ((Fr.refl _ _).putObj (.inl (by simp)) _).trans' q (fun i _ hi=>by simp[hi])
theorem uX {f:FuncId} {fn:Func} {c:Code} {args:Array Value} {w:World} {R:Ending→World→Prop}
  (hf:P.funcs[f]?=some fn) (hb:fn.body=some c)
  (h:c.wpIn bt 0 P (bodyPostM bt 0 P fn R) { tmps:=args++fb (fn.ntmps-args.size) undef,defers:=[] } w):Calls P f args w R :=
 (callsIn_wide (n:=0)).1 (callsIn_of_wp_marks hf hb trivial h)
end
theorem cz.sub {C C1 C2:Nat→Prop} {W W':World} (h:cz C C1 W W') (l:∀k,C2 k→C1 k):cz C C2 W W':=⟨h.1,fun k hk=>h.2 k (l k hk)⟩
theorem cz.below {C:Nat→Prop} {W W':World} (h:Below W.heap.size W W'):cz C C W W':=Li ((Fr.refl _ _).below h)
theorem oD {w:World} {b j:Nat} {cs:Array Value} {t:TypeId} {l:Nat×Nat} {v:Value} (h:w.heap[b]?=some (.cells cs t l)) (hv:cs[j]?=some v):w.cell? ⟨b,j,none⟩=some v:=by
 simp[World.cell?,h,hv]
theorem Fm {w:World} {b:Nat} {cs:Array Value} {t:TypeId} (h:w.heap[b]?=some (.cells cs t (0,0))) (j:Nat):w.frozen? ⟨b,j,none⟩=false:=by
 simp[lR,h]
section
variable {α:Type} {enc:α→List Value} {size:Nat}
theorem ql (hz:∀x,(enc x).length=size) (L:List α):(L.flatMap enc).length=L.length*size:=by
 induction L with
 |nil=>simp
 |cons x L l=>simp[l,hz,c6];omega
theorem BT (hz:∀x,(enc x).length=size):∀ (L:List α) (n j:Nat) (x:α),L[n]?=some x→j<size→(L.flatMap enc)[n*size+j]?=(enc x)[j]?
 |[],n,j,x,h,hj=>by simp at h
 |y::L,0,j,x,h,hj=>by
  simp at h;subst h
  simp only[aK,od,bL]
  rw[fK (by rw[hz];exact hj)]
 |y::L,n+1,j,x,h,hj=>by
  simp at h
  simp only[aK]
  rw[fT (by rw[hz,c6];omega),hz]
  have:(n+1)*size+j-size=n*size+j:=by rw[c6];omega
  rw[this]
  exact BT hz L n j x h hj
theorem Fo (hz:∀x,(enc x).length=size):∀ (L:List α) (n j:Nat) (x y:α) (u:Value),L[n]?=some x→j<size→enc y=(enc x).set j u →
  (L.flatMap enc).set (n*size+j) u=(L.set n y).flatMap enc
 |[],n,j,x,y,u,h,hj,he=>by simp at h
 |z::L,0,j,x,y,u,h,hj,he=>by
  simp at h;subst h
  simp only[aK,od,bL,List.set_cons_zero]
  rw[List.set_append_left _ _ (by rw[hz];exact hj),he]
 |z::L,n+1,j,x,y,u,h,hj,he=>by
  simp at h
  simp only[aK,List.set_cons_succ]
  rw[List.set_append_right _ _ (by rw[hz,c6];omega),hz]
  have:(n+1)*size+j-size=n*size+j:=by rw[c6];omega
  rw[this,Fo hz L n j x y u h hj he]
def Rw (enc:α→List Value) (w:World) (base:Nat) (e:TypeId) (size:Nat) (v:Value) (L:List α):Prop:=w.ownsRow base e size v L.length (L.flatMap enc)
theorem Rw.nil (w:World) (base:Nat) (e:TypeId):Rw enc w base e size (.slice none 0 0) ([]:List α):=rK w base e size
theorem Rw.shape {w:World} {base:Nat} {e:TypeId} {v:Value} {L:List α} (h:Rw enc w base e size v L) :
  (v=.slice none 0 0∧L=[])∨∃g cap,v=.slice (some ⟨g,0,none⟩) L.length cap∧base≤g∧g<w.heap.size∧L.length≤cap∧cap≤maxLen:=by
 rcases h.2 with⟨h1,h2⟩|⟨g,cap,q,h1,h2,h3,l,h5,_⟩
 ·exact .inl ⟨h1,ck h2⟩
 ·exact .inr ⟨g,cap,h1,h2,(c7.1 h3).1,l,h5⟩
theorem Rw.cell {w:World} {base:Nat} {e:TypeId} {g cap:Nat} {L:List α} (hz:∀x,(enc x).length=size) (h:Rw enc w base e size (.slice (some ⟨g,0,none⟩) L.length cap) L)
  {n:Nat} {x:α} (hx:L[n]?=some x) {j:Nat} {u:Value} (hj:j<size) (hu:(enc x)[j]?=some u):w.cell? ⟨g,n*size+j,none⟩=some u:=by
 have q:n<L.length:=(az.1 hx).1
 have l:n*size+j<L.length*size:=by
  have:(n+1)*size≤L.length*size:=ik _ q
  rw[c6] at this;omega
 rw[World.ownsRow.cellAt h _ l,BT hz L n j x hx hj,hu]
theorem Rw.frozen {w:World} {base:Nat} {e:TypeId} {g n cap:Nat} {L:List α} (h:Rw enc w base e size (.slice (some ⟨g,0,none⟩) n cap) L) (l:n=L.length) (j:Nat):w.frozen? ⟨g,j,none⟩=false:=by
 subst l;exact World.ownsRow.frozenAt h j
theorem Rw.stored {w:World} {base:Nat} {e:TypeId} {g cap:Nat} {L:List α} (hz:∀x,(enc x).length=size) (h:Rw enc w base e size (.slice (some ⟨g,0,none⟩) L.length cap) L)
  {n:Nat} {x:α} (hx:L[n]?=some x) {j:Nat} (hj:j<size) (y:α) {u:Value} (he:enc y=(enc x).set j u) :
  Rw enc (w.setCell ⟨g,n*size+j,none⟩ u) base e size (.slice (some ⟨g,0,none⟩) L.length cap) (L.set n y)∧w.grownBy (w.setCell ⟨g,n*size+j,none⟩ u) (some g):=by
 have:=World.ownsRow.stored h (n*size+j) u
 refine⟨?_,this.2⟩
 have h1:=this.1
 rw[Fo hz L n j x y u hx hj he] at h1
 unfold Rw
 rw[List.length_set]
 exact h1
end
theorem cz.alloc {C C':Nat→Prop} {a w:World} (h:cz C C' a w) (o:Obj):cz C C' a (w.alloc o) :=
 ⟨h.1.alloc o,fun k hk=>(h.2 k hk).imp id (fun q=>⟨q.1,by simp;omega⟩)⟩
theorem cz.drew {C C':Nat→Prop} {a w:World} (h:cz C C' a w):cz C C' a w.drew:=⟨h.1.drew,h.2⟩
theorem cz.setCell {C C':Nat→Prop} {a w:World} (h:cz C C' a w) {p:Addr} (hp:C' p.block) (u:Value):cz C C' a (w.setCell p u):=by
 have l:(w.setCell p u).heap.size=w.heap.size:=by simp[lQ]
 refine⟨h.1.setCell ?_ u,fun k hk=>by rw[l];exact h.2 k hk⟩
 rcases h.2 _ hp with h'|h'
 ·exact .inl h'
 ·exact .inr h'.1
theorem cz.toBelow {C C':Nat→Prop} {B:Nat} {w w':World} (h:cz C C' w w') (hB:B≤w.heap.size) (l:∀k,k<B→¬C k):Below B w w':=h.1.toBelow hB l
theorem Fp {C:Nat→Prop} {w w':World} (h:Below w.heap.size w w'):cz C C w w':=cz.below h
def gZ {α:Type} (enc:α→List Value) (e:TypeId) (size:Nat) (v:Value) (L:List α) (C:Nat→Prop) (w:World):Prop :=
 Rw enc w 0 e size v L∧C=(fun k=>v.ownBlock=some k)
section
variable {α:Type} {enc:α→List Value} {size:Nat} {e:TypeId} {v:Value} {L:List α} {C:Nat→Prop} {w w':World}
theorem gZ.local (h:gZ enc e size v L C w) (hk:∀k,C k→w'.heap[k]?=w.heap[k]?):gZ enc e size v L C w':=by
 obtain⟨h1,rfl⟩:=h
 refine⟨⟨h1.1,?_⟩,rfl⟩
 rcases h1.2 with q|⟨g,cap,l,rfl,h5,D,rest⟩
 ·exact .inl q
 ·exact .inr ⟨g,cap,l,rfl,h5,(hk g rfl).trans D,rest⟩
theorem gZ.lt (h:gZ enc e size v L C w):∀k,C k→k<w.heap.size:=by
 obtain⟨h1,rfl⟩:=h
 exact fun k hk=>(fc h1 k hk).2
theorem gZ.nil:gZ enc e size (.slice none 0 0) ([]:List α) (fun _=>False) w:=⟨Rw.nil _ _ _,by funext k;simp[bR]⟩
theorem gZ.shape (h:gZ enc e size v L C w) :
  (v=.slice none 0 0∧L=[]∧C=fun _=>False)∨∃g cap,v=.slice (some ⟨g,0,none⟩) L.length cap∧g<w.heap.size∧L.length≤cap∧cap≤maxLen∧C=(fun k=>k=g):=by
 obtain⟨h1,rfl⟩:=h
 rcases h1.shape with⟨rfl,h2⟩|⟨g,cap,rfl,_,h3,l,h5⟩
 ·exact .inl ⟨rfl,h2,by funext k;simp[bR]⟩
 ·exact .inr ⟨g,cap,rfl,h3,l,h5,by funext k;simp[bR];exact⟨fun h=>h.symm,fun h=>h.symm⟩⟩
theorem gZ.cell {g cap n:Nat} (hz:∀x,(enc x).length=size) (h:gZ enc e size (.slice (some ⟨g,0,none⟩) n cap) L C w) (l:n=L.length) {i:Nat} {x:α} (hx:L[i]?=some x) {j:Nat} {u:Value} (hj:j<size) (hu:(enc x)[j]?=some u) :
  w.cell? ⟨g,i*size+j,none⟩=some u:=by subst l;exact h.1.cell hz hx hj hu
theorem gZ.frozen {g cap n:Nat} (h:gZ enc e size (.slice (some ⟨g,0,none⟩) n cap) L C w) (l:n=L.length) (j:Nat):w.frozen? ⟨g,j,none⟩=false:=h.1.frozen l j
end
theorem BU {P:Program} (w:World) (base:Nat) (t ty e:TypeId) (i:TypeInfo) (z:Value) (size bytes:Nat) (ht:P.underlying t=some (.slice e)) (hi:P.info? e=some i) (hz:i.zero=some z)
  (I:i.size=size) (Y:i.bytes=bytes)
  (v:Value) (n:Nat) (xs:List Value) (H:w.ownsRow base e size v n xs)
  (a:Addr) (m c:Nat) (l:List Value) (M:l.length=m*size) (D:∀j u,l[j]?=some u→w.cell? (a.add j)=some u) (h1:∀u∈l,u.oneCell'=true)
  (Z:n+m≤maxLen) (E:(n+m)*bytes≤140737488355328) {v':Value} {w':World}
  (q:(cR #[t,t] ty #[v,.slice (some a) m c]).run P w=.ok v' w'):∀g,v'.ownBlock=some g→v.ownBlock=some g∨(w.heap.size≤g):=by
 subst I
 subst Y
 have U:n+m≤9223372036854775807:=by simp only[maxLen] at Z;omega
 rcases H.2 with⟨rfl,rfl⟩|⟨g,cap,T,rfl,aw,hg,ag,ao,W,V⟩
 ·by_cases hm:m=0
  ·subst hm
   have hn:l=[]:=ck (by simpa using M)
   subst hn
   have h:(cR #[t,t] ty #[.slice none 0 0,.slice (some a) 0 c]).run P w=.ok (.slice none 0 0) w:=by
    simp[cR,run_underlying ht,sizeOf,typeInfo,hi,iQ,kI,loadCells,loadCellsFrom]
   rw[h] at q
   cases q
   simp[bR]
  ·have hr:=run_append_nil (P:=P) w t ty e i z ht hi hz a m c l M D (by omega) (by omega) (by have hb:=E;simp only[bL] at hb;omega)
   rw[hr] at q
   cases q
   intro g hg
   simp[bR] at hg
   exact .inr (by omega)
 ·by_cases G:n+m≤cap
  ·have O:n*i.size+l.length≤T.size:=by rw[M,W,←c6];exact ik _ G
   have hr:=run_append_room (P:=P) w t ty e i ht hi g n cap T hg a m c l M D h1 G O
   rw[hr] at q
   cases q
   intro g' J
   exact .inl (by simpa [bR] using J)
  ·have holds:∀j u,xs[j]?=some u→w.cell? ((⟨g,0,none⟩:Addr).add j)=some u:=H.cells (g:=g) rfl
   have hr:=run_append_grow (P:=P) w t ty e i z ht hi hz ⟨g,0,none⟩ n cap xs H.1 holds a m c l M D (by omega) (by omega) (growslice_fits (by omega) E)
   rw[hr] at q
   cases q
   intro g' J
   simp[bR] at J
   exact .inr (by omega)
theorem Lk {P:Program} (w:World) (base:Nat) (t u ty e:TypeId) (i:TypeInfo) (ht:P.underlying t=some (.slice e)) (hu:P.underlying u=some .string) (hi:P.info? e=some i) (hz:i.zero=some (.int .u8 0))
  (q:i.size=1) (H:i.bytes=1)
  (v:Value) (n:Nat) (xs:List Value) (D:w.ownsRow base e 1 v n xs) (s:ae)
  (U:n+s.size≤maxLen) (M:n+s.size≤140737488355328) {V:Value} {w':World}
  (l:(cR #[t,u] ty #[v,.string s]).run P w=.ok V w'):∀g,V.ownBlock=some g→v.ownBlock=some g∨(w.heap.size≤g):=by
 have J:n+s.size≤9223372036854775807:=by simp only[maxLen] at U;omega
 have Y:xs.length=n:=by simpa using D.1
 rcases D.2 with⟨rfl,rfl⟩|⟨g,cap,I,rfl,ao,hg,Z,ag,T,O⟩
 ·by_cases hm:s.size=0
  ·have hf:=run_firstCells_string (P:=P) w 1 s
   rw[hm] at hf
   have hn:strCells s=[]:=ck (by rw[strCells_length];exact hm)
   have h:(cR #[t,u] ty #[.slice none 0 0,.string s]).run P w=.ok (.slice none 0 0) w:=by
    simp[cR,run_underlying ht,run_underlying hu,sizeOf,typeInfo,hi,q,iQ,hm,hf]
   rw[h] at l
   cases l
   simp[bR]
  ·have hr:=run_append_nil_string (P:=P) w t u ty e i (.int .u8 0) ht hu hi hz s (by omega) (by omega) (by rw[H];omega)
   rw[hr] at l
   cases l
   intro g hg
   simp[bR] at hg
   exact .inr (by omega)
 ·by_cases E:n+s.size≤cap
  ·have W:I.size=cap:=by simpa using T
   have hr:=run_append_room_string (P:=P) w t u ty e i ht hu hi q g n cap I hg s E (by omega)
   rw[hr] at l
   cases l
   intro g' G
   exact .inl (by simpa [bR] using G)
  ·have holds:∀j u,xs[j]?=some u→w.cell? ((⟨g,0,none⟩:Addr).add j)=some u:=D.cells (g:=g) rfl
   have hr:=run_append_grow_string (P:=P) w t u ty e i (.int .u8 0) ht hu hi hz ⟨g,0,none⟩ n cap xs (by rw[q];omega) holds s (by omega) (by omega) (growslice_fits (by omega) (by rw[H];omega))
   rw[hr] at l
   cases l
   intro g' G
   simp[bR] at G
   exact .inr (by omega)
theorem zD {w w':World} {v l:Value} (hg:w.grownBy w' v.ownBlock) (hb:∀g,l.ownBlock=some g→v.ownBlock=some g∨w.heap.size≤g) (q:∀g,l.ownBlock=some g→g<w'.heap.size) :
  cz (fun k=>v.ownBlock=some k) (fun k=>l.ownBlock=some k) w w' :=
 ⟨(Fr.refl _ _).grown hg (fun r hr=>.inl hr),fun k hk=>(hb k hk).imp id (fun h=>⟨h,q k hk⟩)⟩
section
variable {F:Fence} {n:Nat} {P:Program}
theorem Lm {α:Type} {enc:α→List Value} {size:Nat} (w:World) (t ty e:TypeId) (i:TypeInfo) (z:Value) (bytes:Nat) (ht:P.underlying t=some (.slice e)) (hi:P.info? e=some i) (hz:i.zero=some z)
  (q:i.size=size) (I:i.bytes=bytes) (T:z.cells.size=size) (hsz:0<size) (H:∀x,(enc x).length=size) (h1:∀x,∀u∈enc x,u.oneCell'=true)
  (v:Value) (L:List α) (C:Nat→Prop) (l:gZ enc e size v L C w) (ys:List α) (b c:Nat)
  (Z:TypeId) (Y:Nat×Nat) (hb:w.heap[b]?=some (.cells (ys.flatMap enc).toArray Z Y)) (hn:L.length+ys.length≤2147483648) (E:bytes≤65536) :
  ∃G w',(cR #[t,t] ty #[v,.slice (some ⟨b,0,none⟩) ys.length c]).run P w=.ok G w'∧∃C',gZ enc e size G (L++ys) C' w'∧cz C C' w w':=by
 obtain⟨l,rfl⟩:=l
 have V:(ys.flatMap enc).length=ys.length*size:=ql H ys
 have D:∀j u,(ys.flatMap enc)[j]?=some u→w.cell? ((⟨b,0,none⟩:Addr).add j)=some u:=by
  intro j u hu
  have M:(⟨b,0,none⟩:Addr).add j=⟨b,j,none⟩:=by unfold pH;split<;>simp_all
  rw[M,oD hb (v:=u) (by simpa using hu)]
 have O:∀u∈ys.flatMap enc,u.oneCell'=true:=by
  intro u hu
  obtain⟨x,hx,hu⟩:=gD.1 hu
  exact h1 x u hu
 have J:(L.length+ys.length)*bytes≤140737488355328:=by
  have:(L.length+ys.length)*bytes≤2147483648*65536:=Nat.mul_le_mul (by omega) E
  omega
 obtain⟨G,w',hr,r1,r2,_⟩:=run_append_own (P:=P) w 0 t ty e i z size bytes ht hi hz q I T hsz v L.length (L.flatMap enc) l ⟨b,0,none⟩ ys.length c (ys.flatMap enc) V D O (by simp[maxLen];omega) J (cm _)
 have U:=BU (P:=P) w 0 t ty e i z size bytes ht hi hz q I v L.length (L.flatMap enc) l ⟨b,0,none⟩ ys.length c (ys.flatMap enc) V D O (by simp[maxLen];omega) J hr
 have W:Rw enc w' 0 e size G (L++ys):=by
  unfold Rw;rw[aa,dZ];exact r1
 exact⟨G,w',hr,_,⟨W,rfl⟩,zD r2 U (fun g hg=>(fc W g hg).2)⟩
end
theorem Fq (a b:ae):strCells (a++b)=strCells a++strCells b:=by
 unfold strCells;rw[ByteArray.data_append];simp
def ki (e:TypeId) (v:Value) (b:ae) (C:Nat→Prop) (w:World):Prop:=w.ownsRow 0 e 1 v b.size (strCells b)∧C=(fun k=>v.ownBlock=some k)
section
variable {e:TypeId} {v:Value} {b:ae} {C:Nat→Prop} {w w':World}
theorem ki.local (h:ki e v b C w) (hk:∀k,C k→w'.heap[k]?=w.heap[k]?):ki e v b C w':=by
 obtain⟨h1,rfl⟩:=h
 refine⟨⟨h1.1,?_⟩,rfl⟩
 rcases h1.2 with q|⟨g,cap,l,rfl,h5,D,rest⟩
 ·exact .inl q
 ·exact .inr ⟨g,cap,l,rfl,h5,(hk g rfl).trans D,rest⟩
theorem ki.lt (h:ki e v b C w):∀k,C k→k<w.heap.size:=by
 obtain⟨h1,rfl⟩:=h
 exact fun k hk=>(fc h1 k hk).2
theorem ki.ext {D l:Nat→Prop} (h:ki e v b C w) (hx:cz D l w w') (hd:∀k,C k→¬D k):ki e v b C w' :=
 h.local (fun k hk=>hx.1.keep k (h.lt k hk) (hd k hk))
theorem ki.nil:ki e (.slice none 0 0) ⟨#[]⟩ (fun _=>False) w:=⟨rK w 0 e 1,by funext k;simp[bR]⟩
theorem ki.shape (h:ki e v b C w) :
  (v=.slice none 0 0∧b=⟨#[]⟩∧C=fun _=>False)∨∃g cap l,v=.slice (some ⟨g,0,none⟩) b.size cap∧g<w.heap.size∧b.size≤cap∧cap≤maxLen∧C=(fun k=>k=g)∧w.heap[g]?=some (.cells l e (0,0)):=by
 obtain⟨h1,rfl⟩:=h
 rcases h1.2 with⟨rfl,h2⟩|⟨g,cap,l,rfl,h2,h3,q,h5,_⟩
 ·exact .inl ⟨rfl,by apply _root_.ByteArray.ext;exact l9 h2,by funext k;simp[bR]⟩
 ·exact .inr ⟨g,cap,l,rfl,(c7.1 h3).1,q,h5,by funext k;simp[bR];exact⟨fun h=>h.symm,fun h=>h.symm⟩,h3⟩
theorem ki.conv {P:Program} (h:ki e v b C w) (src dst:TypeId) (l:P.underlying src=some (.slice e)) (he:P.underlying e=some (.int .u8)) (hd:P.underlying dst=some .string) :
  (convert src dst v).run P w=.ok (.string b) w:=by
 obtain⟨h,-⟩:=h
 rcases h.2 with⟨rfl,h2⟩|⟨g,cap,D,rfl,_,_,_⟩
 ·have hb:b=⟨#[]⟩:=by
   apply _root_.ByteArray.ext;exact l9 h2
  rw[hb];exact run_convert_nil_bytes w src dst e 0 l he hd
 ·have q:b.data.toList.length=b.size:=by rw[dJ];rfl
  have:=run_convert_bytes_back (P:=P) w src dst e ⟨g,0,none⟩ cap b.data.toList l he hd (fun j hj=>by
   refine World.ownsRow.cells h rfl j _ ?_
   unfold strCells;rw[bT,aO hj];rfl)
  rw[q] at this
  rw[this]
end
section
variable {F:Fence} {n:Nat} {P:Program}
theorem Fs (w:World) (t u ty e:TypeId) (i:TypeInfo) (ht:P.underlying t=some (.slice e)) (hu:P.underlying u=some .string) (hi:P.info? e=some i) (hz:i.zero=some (.int .u8 0))
  (q:i.size=1) (E:i.bytes=1) (v:Value) (b:ae) (C:Nat→Prop) (l:ki e v b C w) (s:ae) (H:b.size+s.size≤140737488355328) :
  ∃D w',(cR #[t,u] ty #[v,.string s]).run P w=.ok D w'∧∃C',ki e D (b++s) C' w'∧cz C C' w w':=by
 obtain⟨l,rfl⟩:=l
 obtain⟨D,w',hr,r1,r2,_⟩:=run_append_own_string (P:=P) w 0 t u ty e i ht hu hi hz q E v b.size (strCells b) l s (by simp[maxLen];omega) H (cm _)
 have G:=Lk (P:=P) w 0 t u ty e i ht hu hi hz q E v b.size (strCells b) l s (by simp[maxLen];omega) H hr
 have I:w'.ownsRow 0 e 1 D (b++s).size (strCells (b++s)):=by rw[Fq,aJ];exact r1
 exact⟨D,w',hr,_,⟨I,rfl⟩,zD r2 G (fun g hg=>(fc I g hg).2)⟩
theorem znO (w:World) {ops:Array Oper} {rest:List Oper} {o:Oper} {a:Act} {Q:Exit→Act→World→Prop} (E:o.guard=none) (sl x:Operand) (t u:TypeId)
  (I:o.op=.call { callee:=.builtin .append,args:=#[sl,x],argTypes:=#[t,u] })
  (e:TypeId) (i:TypeInfo) (ht:P.underlying t=some (.slice e)) (hu:P.underlying u=some .string) (hi:P.info? e=some i) (hz:i.zero=some (.int .u8 0))
  (l:i.size=1) (G:i.bytes=1) (v:Value) (b:ae) (C:Nat→Prop) (H:a.eval sl=v) (q:ki e v b C w) (s:ae) (hx:a.eval x=.string s)
  (J:b.size+s.size≤140737488355328)
  (h:∀D w' C',ki e D (b++s) C' w'→cz C C' w w'→wpList P ops Q rest (a.put o.dst D) w'):wpList P ops Q (o::rest) a w:=by
 refine wpList_plain E fun K M=>?_
 obtain⟨D,w',hr,C',h2,h3⟩:=Fs (P:=P) w t u o.type e i ht hu hi hz l G v b C q s J
 unfold Oper.wp execOp
 simp only[I,resolve,invoke,builtin,an,iF,ci,eR,av,dW,H,hx,hr]
 exact M _ _ (h D w' C' h2 h3)
theorem Ln (w:World) (t ty e:TypeId) (i:TypeInfo) (ht:P.underlying t=some (.slice e)) (hi:P.info? e=some i) (hz:i.zero=some (.int .u8 0))
  (D:i.size=1) (H:i.bytes=1) (v:Value) (b:ae) (C:Nat→Prop) (q:ki e v b C w) (ys:ae) (l c:Nat) (U:TypeId) (T:Nat×Nat)
  (hb:w.heap[l]?=some (.cells (strCells ys).toArray U T)) (V:b.size+ys.size≤140737488355328) :
  ∃G w',(cR #[t,t] ty #[v,.slice (some ⟨l,0,none⟩) ys.size c]).run P w=.ok G w'∧∃C',ki e G (b++ys) C' w'∧cz C C' w w':=by
 obtain⟨q,rfl⟩:=q
 have M:(strCells ys).length=ys.size*1:=by rw[strCells_length];omega
 have E:∀j u,(strCells ys)[j]?=some u→w.cell? ((⟨l,0,none⟩:Addr).add j)=some u:=by
  intro j u hu
  have I:(⟨l,0,none⟩:Addr).add j=⟨l,j,none⟩:=by unfold pH;split<;>simp_all
  rw[I,oD hb (v:=u) (by simpa using hu)]
 obtain⟨G,w',hr,r1,r2,_⟩:=run_append_own (P:=P) w 0 t ty e i (.int .u8 0) 1 1 ht hi hz D H rfl (by omega) v b.size (strCells b) q ⟨l,0,none⟩ ys.size c (strCells ys) M E (strCells_oneCell ys) (by simp[maxLen];omega) (by omega) (cm _)
 have J:=BU (P:=P) w 0 t ty e i (.int .u8 0) 1 1 ht hi hz D H v b.size (strCells b) q ⟨l,0,none⟩ ys.size c (strCells ys) M E (strCells_oneCell ys) (by simp[maxLen];omega) (by omega) hr
 have O:w'.ownsRow 0 e 1 G (b++ys).size (strCells (b++ys)):=by rw[Fq,aJ];exact r1
 exact⟨G,w',hr,_,⟨O,rfl⟩,zD r2 J (fun g hg=>(fc O g hg).2)⟩
def jo (o:Oper):List Nat:=(o.after.toList.filter (Region.binds .any)).map (·.on)
def fZ (F:Fence) (n:Nat) (P:Program) (ops:Array Oper) (Q:Exit→Act→World→Prop) (Inv:(Nat→Prop)→Act→World→Prop):List Oper→Nat→Prop
 |[],_=>True
 |o::rest,i=>(∀D a w,¬D i→(∀j∈jo o,D j)→Inv D a w→wpListIn F n P ops (_root_.Go.Exit.then (Inv (fun j=>D j∨j=i)) Q) [o] a w)∧fZ F n P ops Q Inv rest (i+1)
theorem fZ.get {ops:Array Oper} {Q:Exit→Act→World→Prop} {Inv:(Nat→Prop)→Act→World→Prop}:∀ {l:List Oper} {k:Nat},fZ F n P ops Q Inv l k→∀i o,l[i]?=some o →
  (∀D a w,¬D (k+i)→(∀j∈jo o,D j)→Inv D a w→wpListIn F n P ops (_root_.Go.Exit.then (Inv (fun j=>D j∨j=k+i)) Q) [o] a w)
 |[],_,_,i,o,ho=>by simp at ho
 |x::l,k,h,0,o,ho=>by simp at ho;subst ho;exact h.1
 |x::l,k,h,i+1,o,ho=>by
  have:=fZ.get h.2 i o (by simpa using ho)
  rwa [show k+1+i=k+(i+1) by omega] at this
theorem qm {ops:Array Oper} {Q:Exit→Act→World→Prop} {o:Oper} {K E:Act→World→Prop} {a:Act} {w:World} (h:∀a w,K a w→E a w)
  (l:wpListIn F n P ops (_root_.Go.Exit.then K Q) [o] a w):wpListIn F n P ops (_root_.Go.Exit.then E Q) [o] a w:=by
 simp only[wpListIn] at l ⊢
 split
 ·rename_i D
  rw[ax D] at l
  unfold oW at l ⊢
  refine⟨l.1,?_⟩
  have l:=l.2
  generalize (o.semAt F.round a.eval).run P w=r at *
  cases r with
  |ok x w'=>
   cases x<;>simp only[gp] at l ⊢ <;>
    first
     |exact h _ _ l
     |exact⟨l.1,k9 l.2 (fun e q he=>by cases e<;>first | exact h _ _ he | exact he)⟩
     |exact⟨l.1,mb l.2 (fun _ _ he=>h _ _ he)⟩
     |exact⟨l.1,lc l.2 (fun e q he=>by cases e<;>first | exact h _ _ he | exact he)⟩
     |exact l
  |halt x w'=>cases x<;>simp only[gp] at l ⊢<;>exact l
 ·rename_i D
  rw[ap D] at l
  exact⟨l.1,h _ _ l.2⟩
theorem Lo {ops:Array Oper} {Q:Exit→Act→World→Prop} {i:Nat} {o:Oper} {K:Act→World→Prop} {a:Act} {w:World} (E:ops[i]?=some o)
  (h:wpListIn F n P ops (_root_.Go.Exit.then K Q) [o] a w):wpOpIn F n P ops Q i K a w:=by
 unfold wpOpIn
 rw[E]
 simp only[wpListIn] at h
 show (if _ then _ else _)
 split
 ·rename_i D
  rw[ax D] at h
  have l:=h
  unfold oW at l ⊢
  refine⟨l.1,?_⟩
  have l:=l.2
  generalize (o.semAt F.round a.eval).run P w=r at *
  cases r with
  |ok x w'=>
   cases x<;>simp only[gp] at l ⊢ <;>
    first
     |exact l
     |exact⟨l.1,k9 l.2 (fun e q he=>by cases e<;>exact he)⟩
     |exact⟨l.1,mb l.2 (fun _ _ he=>he)⟩
     |exact⟨l.1,lc l.2 (fun e q he=>by cases e<;>exact he)⟩
  |halt x w'=>cases x<;>simp only[gp] at l ⊢<;>exact l
 ·rename_i D
  rw[ap D] at h
  exact h
theorem Lp (m j:Nat):(fb m false).getD j false=false:=by
 simp only[eZ];split<;>simp
theorem Ft:∀ (l:List Bool) (i:Nat),l[i]?=some false→((l.set i true).filter id).length=(l.filter id).length+1
 |[],i,h=>by simp at h
 |x::l,0,h=>by simp at h;subst h;simp
 |x::l,i+1,h=>by
  have:=Ft l i (by simpa using h)
  cases x<;>simp[this]
theorem Lq (A:Array Bool) (i:Nat) (l:i<A.size) (h:A.getInternal i l=false):((A.setIfInBounds i true).toList.filter id).length=(A.toList.filter id).length+1:=by
 rw[Array.toList_setIfInBounds]
 refine Ft _ _ ?_
 have q:A[i]=false:=h
 simp[l,q]
theorem Lu {ops:Array Oper} {Q:Exit→Act→World→Prop} {Inv:(Nat→Prop)→Act→World→Prop}
  (I:(ops.toList.zipIdx.all fun (o,i)=>(jo o).all fun j=>decide (j<i))=true) (Y:fZ F n P ops Q Inv ops.toList 0)
  (G:∀D a w,(∀i<ops.size,D i)→Inv D a w→Q .normal a w):∀ (zbC:Nat) (l:Array Bool) (a:Act) (w:World),
  l.size=ops.size→(ops.size≤zbC+(l.toList.filter id).length)→Inv (fun j=>l.getD j false=true) a w→wpAnyIn F n P .any ops Q zbC l a w:=by
 have T:∀ (l:Array Bool),l.size=ops.size→Region.ready .any ops l=[]→∀i<ops.size,l.getD i false=true:=by
  intro l hsz hr i
  induction i using Nat.strongRecOn with
  |_ i W=>
   intro hi
   rcases hb:l.getD i false with _|_
   ·exfalso
    have a2:l.getD i true=false:=by
     have I:i<l.size:=by omega
     simp only[eZ,I,dif_pos] at hb ⊢
     exact hb
    have:i∈Region.ready .any ops l:=by
     refine mem_ready.2 ⟨a2,ops[i],el hi,fun e he a1=>?_⟩
     have h1:=bd.1 I (ops[i],i) (by
      rw[List.mem_zipIdx_iff_getElem?];simp[el hi])
     have h2:=bd.1 h1 e.on (by
      unfold jo
      exact aS.2 ⟨e,co.2 ⟨by simpa using he,a1⟩,rfl⟩)
     have h3:e.on<i:=by simpa using h2
     exact W e.on h3 (by omega)
    rw[hr] at this
    cases this
   ·rfl
 intro zbC
 induction zbC with
 |zero=>
  intro l a w hsz hf hi
  have ag:(l.toList.filter id).length=l.toList.length:=by
   have:=List.length_filter_le id l.toList
   simp only[dJ] at *
   omega
  have hall:∀b∈l.toList,id b=true:=List.length_filter_eq_length_iff.1 ag
  have q:∀i<ops.size,l.getD i false=true:=by
   intro i hi
   have E:i<l.size:=by omega
   simp only[eZ,E,dif_pos]
   exact hall _ (by simp)
  refine⟨?_,G _ a w q hi⟩
  refine List.eq_nil_iff_forall_not_mem.2 fun i hm=>?_
  have:=(mem_ready.1 hm).1
  have h2:i<ops.size:=by
   obtain⟨o,O,_⟩:=(mem_ready.1 hm).2
   exact (c7.1 O).1
  have h3:=q i h2
  have E:i<l.size:=by omega
  simp only[eZ,E,dif_pos] at this h3
  have h4:l[i]=false:=this
  have h5:l[i]=true:=h3
  rw[h4] at h5;cases h5
 |succ zbC W=>
  intro l a w hsz hf hi
  refine⟨fun hr=>G _ a w (T l hsz hr) hi,fun i hm=>?_⟩
  obtain⟨J,o,O,V⟩:=mem_ready.1 hm
  have a3:i<ops.size:=(c7.1 O).1
  have E:i<l.size:=by omega
  have Z:¬l.getD i false=true:=by
   simp only[eZ,E,dif_pos] at J ⊢
   show ¬l[i]=true
   have h4:l[i]=false:=J
   rw[h4];simp
  have H:=Y.get i o (by simpa using O) (fun j=>l.getD j false=true) a w (by simpa using Z) (fun j hj=>by
   obtain⟨e,he,rfl⟩:=aS.1 (show j∈((o.after.toList.filter (Region.binds .any)).map (·.on)) from hj)
   obtain⟨a0,aw⟩:=co.1 he
   exact V e (by simpa using a0) aw) hi
  refine wpOpIn_mono (fun a' w' U=>?_) (Lo O H)
  refine W _ a' w' (by simp[hsz]) ?_ ?_
  ·have h1:=Lq l i E (by simpa only[eZ,E,dif_pos] using J)
   omega
  ·have he:(fun j=>(l.setIfInBounds i true).getD j false=true)=(fun j=>l.getD j false=true∨j=0+i):=by
    funext j
    apply propext
    by_cases M:j=i
    ·subst M
     simp[eZ,E]
    ·have ao:i≠j:=fun h=>M h.symm
     simp only[bL,M,or_false]
     rw[getD_set_ne false ao]
   rw[he]
   exact U
theorem BV {id:Nat} {ops:Array Oper} {Q:Exit→Act→World→Prop} {a:Act} {w:World} (hm:P.follows .mixedOrders=true)
  (E:(ops.toList.zipIdx.all fun (o,i)=>(jo o).all fun j=>decide (j<i))=true)
  (Inv:(Nat→Prop)→Act→World→Prop) (h0:Inv (fun _=>False) a w.drew) (q:fZ F n P ops Q Inv ops.toList 0)
  (l:∀D a w,(∀i<ops.size,D i)→Inv D a w→Q .normal a w):(Code.region id ops true).wpIn F n P Q a w:=by
 refine wpIn_region_any hm (Lu E q l ops.size _ a _ (by simp) (by omega) ?_)
 have he:(fun j=>(fb ops.size false).getD j false=true)=(fun _=>False):=by
  funext j
  rw[Lp];simp
 rw[he]
 exact h0
def Clo (ops:Array Oper) (D:Nat→Prop):Prop:=∀i o,ops[i]?=some o→D i→∀j∈jo o,D j
theorem Clo.add {ops:Array Oper} {D:Nat→Prop} {i:Nat} {o:Oper} (h:Clo ops D) (E:ops[i]?=some o) (hd:∀j∈jo o,D j):Clo ops (fun j=>D j∨j=i):=by
 intro k q l hk j hj
 rcases hk with hk|rfl
 ·exact .inl (h k q l hk j hj)
 ·rw[E] at l;cases l;exact .inl (hd j hj)
end
structure Asn where
 P:(Nat→Prop)→World→Prop
 lt:∀ {C w},P C w→∀k,C k→k<w.heap.size
 loc:∀ {C w w'},P C w→w.heap.size≤w'.heap.size→(∀k,C k→w'.heap[k]?=w.heap[k]?)→P C w'
def cy:Asn:=⟨fun C _=>∀k,¬C k,fun h k hk=>absurd hk (h k),fun h _ _=>h⟩
def obj (b:Nat) (o:Obj):Asn :=
 ⟨fun C w=>(∀k,C k↔k=b)∧w.heap[b]?=some o,fun h k hk=>(h.1 k).1 hk▸kW h.2,fun h _ hk=>⟨h.1,(hk b ((h.1 b).2 rfl)).trans h.2⟩⟩
def cells (b:Nat) (l:List Value) (t:TypeId):Asn:=obj b (.cells l.toArray t (0,0))
def zDG (p:Prop):Asn:=⟨fun C _=>(∀k,¬C k)∧p,fun h k hk=>absurd hk (h.1 k),fun h _ _=>h⟩
def aP:List Asn→(Nat→Prop)→World→Prop
 |[],C,_=>∀k,¬C k
 |A::L,C,w=>∃C1 C2,A.P C1 w∧aP L C2 w∧(∀k,C1 k→¬C2 k)∧(∀k,C k↔C1 k∨C2 k)
theorem aP.lt:∀ {L:List Asn} {C:Nat→Prop} {w:World},aP L C w→∀k,C k→k<w.heap.size
 |[],C,w,h,k,hk=>absurd hk (h k)
 |A::L,C,w,⟨C1,C2,h1,h2,_,h4⟩,k,hk=>by
  rcases (h4 k).1 hk with h|h
  ·exact A.lt h1 k h
  ·exact aP.lt h2 k h
theorem aP.loc:∀ {L:List Asn} {C:Nat→Prop} {w w':World},aP L C w→w.heap.size≤w'.heap.size→(∀k,C k→w'.heap[k]?=w.heap[k]?)→aP L C w'
 |[],C,w,w',h,_,_=>h
 |A::L,C,w,w',⟨C1,C2,h1,h2,h3,h4⟩,hs,hk=>
  ⟨C1,C2,A.loc h1 hs (fun k h=>hk k ((h4 k).2 (.inl h))),aP.loc h2 hs (fun k h=>hk k ((h4 k).2 (.inr h))),h3,h4⟩
theorem aP.congr {L:List Asn} {C C':Nat→Prop} {w:World} (h:aP L C w) (hc:∀k,C' k↔C k):aP L C' w:=by
 have:C'=C:=funext fun k=>propext (hc k)
 rw[this];exact h
def zhW (L:List Asn):Asn:=⟨aP L,aP.lt,aP.loc⟩
def am (L As R:List Asn):Prop:=∀C w,aP L C w→∃C1 C2,aP As C1 w∧aP R C2 w∧(∀k,C1 k→¬C2 k)∧(∀k,C k↔C1 k∨C2 k)
theorem aP.take:∀ {L:List Asn} {k:Nat} {A:Asn} {C:Nat→Prop} {w:World},L[k]?=some A→aP L C w →
  ∃C1 C2,A.P C1 w∧aP (L.set k cy) C2 w∧(∀k,C1 k→¬C2 k)∧(∀k,C k↔C1 k∨C2 k)
 |B::L,0,A,C,w,hk,⟨C1,C2,h1,h2,h3,h4⟩=>by
  simp at hk;subst hk
  exact⟨C1,C2,h1,⟨fun _=>False,C2,fun _ h=>h,h2,fun _ h=>h.elim,fun k=>by simp⟩,h3,h4⟩
 |B::L,k+1,A,C,w,hk,⟨C1,C2,h1,h2,h3,h4⟩=>by
  obtain⟨G,l,E,D,q,g4⟩:=aP.take (L:=L) (k:=k) (by simpa using hk) h2
  refine⟨G,fun j=>C1 j∨l j,E,⟨C1,l,h1,D,fun j h h'=>h3 j h ((g4 j).2 (.inr h')),fun j=>_root_.Iff.rfl⟩,fun j h h'=>?_,fun j=>?_⟩
  ·rcases h' with h'|h'
   ·exact h3 j h' ((g4 j).2 (.inl h))
   ·exact q j h h'
  ·rw[h4,g4];exact or_left_comm
theorem aP.put:∀ {L:List Asn} {k:Nat} {A:Asn} {C1 C2 C:Nat→Prop} {w:World},k<L.length→A.P C1 w→aP (L.set k cy) C2 w→(∀k,C1 k→¬C2 k)→(∀k,C k↔C1 k∨C2 k)→aP (L.set k A) C w
 |B::L,0,A,C1,C2,C,w,hk,hA,⟨D1,D2,g1,g2,g3,g4⟩,h3,h4=>by
  have e:∀k,C2 k↔D2 k:=fun k=>by rw[g4];constructor;exact fun h=>h.resolve_left (g1 k);exact .inr
  exact⟨C1,C2,hA,g2.congr e,h3,h4⟩
 |B::L,k+1,A,C1,C2,C,w,hk,hA,⟨D1,D2,g1,g2,g3,g4⟩,h3,h4=>by
  refine⟨D1,fun j=>C1 j∨D2 j,g1,aP.put (L:=L) (k:=k) (by simpa using hk) hA g2 (fun j h h'=>h3 j h ((g4 j).2 (.inr h'))) (fun j=>_root_.Iff.rfl),fun j h h'=>?_,fun j=>?_⟩
  ·rcases h' with h'|h'
   ·exact h3 j h' ((g4 j).2 (.inl h))
   ·exact g3 j h h'
  ·rw[h4,g4];exact or_left_comm
theorem am.nil {L:List Asn}:am L [] L:=fun C w h=>⟨fun _=>False,C,fun _ h=>h,h,fun _ h=>h.elim,fun k=>by simp⟩
theorem am.cons {L As R:List Asn} {k:Nat} {A:Asn} (hk:L[k]?=some A) (h:am (L.set k cy) As R):am L (A::As) R:=by
 intro C w hL
 obtain⟨C1,C2,h1,h2,h3,q⟩:=aP.take hk hL
 obtain⟨l,H,G,E,D,g4⟩:=h C2 w h2
 refine⟨fun j=>C1 j∨l j,H,⟨C1,l,h1,G,fun j h h'=>h3 j h ((g4 j).2 (.inl h')),fun j=>_root_.Iff.rfl⟩,E,fun j h h'=>?_,fun j=>?_⟩
 ·rcases h with h|h
  ·exact h3 j h ((g4 j).2 (.inr h'))
  ·exact D j h h'
 ·rw[q,g4,or_assoc]
theorem Lv {L As Bs R:List Asn} {k:Nat} (hk:L[k]?=some (zhW As)) (h:am (L.set k cy) Bs R):am L (As++Bs) R:=by
 intro C w hL
 obtain⟨C1,C2,h1,h2,h3,J⟩:=aP.take hk hL
 obtain⟨H,G,D,q,l,g4⟩:=h C2 w h2
 have E:∀ {A B:List Asn} {C1 C2:Nat→Prop} {w:World},aP A C1 w→aP B C2 w→(∀k,C1 k→¬C2 k)→aP (A++B) (fun k=>C1 k∨C2 k) w:=by
  intro A
  induction A with
  |nil=>intro B C1 C2 w h1 h2 h3;exact h2.congr (fun k=>⟨fun h=>h.resolve_left (h1 k),.inr⟩)
  |cons A L I=>
   rintro B C1 C2 w ⟨H,G,D,q,l,g4⟩ h2 h3
   exact⟨H,fun k=>G k∨C2 k,D,I q h2 (fun k h=>h3 k ((g4 k).2 (.inr h))),fun k h h'=>h'.elim (l k h) (h3 k ((g4 k).2 (.inl h))),fun k=>by show C1 k∨C2 k↔_;rw[g4,or_assoc]⟩
 refine⟨fun j=>C1 j∨H j,G,E h1 D (fun j h h'=>h3 j h ((g4 j).2 (.inl h'))),q,fun j h h'=>?_,fun j=>?_⟩
 ·rcases h with h|h
  ·exact h3 j h ((g4 j).2 (.inr h'))
  ·exact l j h h'
 ·rw[J,g4,or_assoc]
theorem lg {L As:List Asn} {k:Nat} (hk:L[k]?=some (zhW As)):am L As (L.set k cy):=by
 have:=Lv hk am.nil
 rwa [aE] at this
theorem am.consS {L As Bs q R:List Asn} (h1:am L As q) (h2:am q Bs R):am L (zhW As::Bs) R:=by
 intro C w hL
 obtain⟨C1,C2,a1,J,l,I⟩:=h1 C w hL
 obtain⟨D,M,H,G,E,g4⟩:=h2 C2 w J
 refine⟨fun j=>C1 j∨D j,M,⟨C1,D,a1,H,fun j h h'=>l j h ((g4 j).2 (.inl h')),fun j=>_root_.Iff.rfl⟩,G,fun j h h'=>?_,fun j=>?_⟩
 ·rcases h with h|h
  ·exact l j h ((g4 j).2 (.inr h'))
  ·exact E j h h'
 ·rw[I,g4,or_assoc]
def w7 (L:List Asn):List Nat→List Asn
 |[]=>L
 |k::ks=>w7 (L.set k cy) ks
def oE (L:List Asn):List Nat→Option (List Asn)
 |[]=>some []
 |k::ks=>match L[k]?,oE L ks with
  |some A,some As=>some (A::As)
  |_,_=>none
def rT:List Nat→Bool
 |[]=>true
 |k::ks=>!ks.contains k&&rT ks
theorem BW {L:List Asn} {k:Nat} {B:Asn}:∀ {ks:List Nat},ks.contains k=false→oE (L.set k B) ks=oE L ks
 |[],_=>rfl
 |j::ks,h=>by
  simp only[gl,bI] at h
  have l:k≠j:=by have:=h.1;simp at this;exact this
  simp only[oE,BW (ks:=ks) h.2,qf l]
theorem cg {L As:List Asn}:∀ (ks:List Nat),oE L ks=some As→rT ks=true→am L As (w7 L ks):=by
 intro ks
 induction ks generalizing L As with
 |nil=>intro h _;simp only[oE,fL] at h;subst h;exact am.nil
 |cons k ks l=>
  intro h hd
  simp only[rT,aN,cM] at hd
  simp only[oE] at h
  split at h
  ·rename_i A q h1 h2
   cases h
   exact am.cons h1 (l (by rw[BW hd.1];exact h2) hd.2)
  ·cases h
theorem aP.append:∀ {A B:List Asn} {C1 C2:Nat→Prop} {w:World},aP A C1 w→aP B C2 w→(∀k,C1 k→¬C2 k)→aP (A++B) (fun k=>C1 k∨C2 k) w
 |[],B,C1,C2,w,h1,h2,h3=>h2.congr (fun k=>⟨fun h=>h.resolve_left (h1 k),.inr⟩)
 |A::L,B,C1,C2,w,⟨D1,D2,g1,g2,g3,g4⟩,h2,h3=>
  ⟨D1,fun k=>D2 k∨C2 k,g1,aP.append g2 h2 (fun k h=>h3 k ((g4 k).2 (.inr h))),fun k h h'=>h'.elim (g3 k h) (h3 k ((g4 k).2 (.inl h))),fun k=>by show C1 k∨C2 k↔_;rw[g4,or_assoc]⟩
def Holds (w0:World) (K:Nat→Prop) (L:List Asn) (w:World):Prop:=∃C,aP L C w∧cz K C w0 w
section
variable {w0 w w':World} {K:Nat→Prop} {L As R:List Asn} {A B:Asn} {k:Nat}
theorem Holds.split (h:Holds w0 K L w) (E:am L As R):∃C1,aP As C1 w∧∀Bs l w',cz C1 l w w'→aP Bs l w'→Holds w0 K (R++Bs) w':=by
 obtain⟨C,hL,hx⟩:=h
 obtain⟨C1,C2,h1,h2,h3,q⟩:=E C w hL
 refine⟨C1,h1,fun Bs l w' he hB=>?_⟩
 have hsz:=he.1.size
 have D:aP R C2 w':=h2.loc hsz (fun k hk=>he.1.keep k (h2.lt k hk) (fun h=>h3 k h hk))
 have hd:∀k,C2 k→¬l k:=fun k hk h'=>by
  rcases he.2 k h' with h|h
  ·exact h3 k h hk
  ·have:=h2.lt k hk;omega
 refine⟨_,D.append hB hd,hx.1.trans' he.1 (fun i hi hc=>?_),fun k hk=>?_⟩
 ·rcases hx.2 i ((q i).2 (.inl hc)) with h|h
  ·exact h
  ·omega
 ·have:=hx.1.size
  rcases hk with hk|hk
  ·rcases hx.2 k ((q k).2 (.inr hk)) with h|h
   ·exact .inl h
   ·exact .inr (by omega)
  ·rcases he.2 k hk with h|h
   ·rcases hx.2 k ((q k).2 (.inl h)) with h|h
    ·exact .inl h
    ·exact .inr (by omega)
   ·exact .inr (by omega)
theorem Holds.splitX (h:Holds w0 K L w) (E:am L As R):∃C1,cz K C1 w0 w∧aP As C1 w∧∀Bs l w',cz C1 l w w'→aP Bs l w'→Holds w0 K (R++Bs) w':=by
 obtain⟨C,hL,hx⟩:=h
 obtain⟨C1,C2,h1,h2,h3,q⟩:=E C w hL
 refine⟨C1,⟨hx.1,fun k hk=>hx.2 k ((q k).2 (.inl hk))⟩,h1,fun Bs l w' he hB=>?_⟩
 have hsz:=he.1.size
 have D:aP R C2 w':=h2.loc hsz (fun k hk=>he.1.keep k (h2.lt k hk) (fun h=>h3 k h hk))
 have hd:∀k,C2 k→¬l k:=fun k hk h'=>by
  rcases he.2 k h' with h|h
  ·exact h3 k h hk
  ·have:=h2.lt k hk;omega
 refine⟨_,D.append hB hd,hx.1.trans' he.1 (fun i hi hc=>?_),fun k hk=>?_⟩
 ·rcases hx.2 i ((q i).2 (.inl hc)) with h|h
  ·exact h
  ·omega
 ·have:=hx.1.size
  rcases hk with hk|hk
  ·rcases hx.2 k ((q k).2 (.inr hk)) with h|h
   ·exact .inl h
   ·exact .inr (by omega)
  ·rcases he.2 k hk with h|h
   ·rcases hx.2 k ((q k).2 (.inl h)) with h|h
    ·exact .inl h
    ·exact .inr (by omega)
   ·exact .inr (by omega)
theorem Holds.focus (h:Holds w0 K L w) (hk:L[k]?=some A):∃C1,A.P C1 w∧∀B l w',cz C1 l w w'→B.P l w'→Holds w0 K (L.set k B) w':=by
 obtain⟨C,hL,hx⟩:=h
 obtain⟨C1,C2,h1,h2,h3,D⟩:=aP.take hk hL
 refine⟨C1,h1,fun B l w' he hB=>?_⟩
 have q:k<L.length:=(az.1 hk).1
 have hsz:=he.1.size
 have E:aP (L.set k cy) C2 w':=h2.loc hsz (fun k hk=>he.1.keep k (h2.lt k hk) (fun h=>h3 k h hk))
 have hd:∀k,l k→¬C2 k:=fun k h' hk=>by
  rcases he.2 k h' with h|h
  ·exact h3 k h hk
  ·have:=h2.lt k hk;omega
 refine⟨_,aP.put q hB E hd (fun k=>_root_.Iff.rfl),hx.1.trans' he.1 (fun i hi hc=>?_),fun k hk=>?_⟩
 ·rcases hx.2 i ((D i).2 (.inl hc)) with h|h
  ·exact h
  ·omega
 ·have:=hx.1.size
  rcases hk with hk|hk
  ·rcases he.2 k hk with h|h
   ·rcases hx.2 k ((D k).2 (.inl h)) with h|h
    ·exact .inl h
    ·exact .inr (by omega)
   ·exact .inr (by omega)
  ·rcases hx.2 k ((D k).2 (.inr hk)) with h|h
   ·exact .inl h
   ·exact .inr (by omega)
theorem Holds.obj {b:Nat} {o:Obj} (h:Holds w0 K L w) (hk:L[k]?=some (obj b o)):w.heap[b]?=some o:=by
 obtain⟨C1,h1,_⟩:=h.focus hk;exact h1.2
theorem Holds.cell {b j:Nat} {l:List Value} {t:TypeId} {v:Value} (h:Holds w0 K L w) (hk:L[k]?=some (cells b l t)) (hj:l[j]?=some v):w.cell? ⟨b,j,none⟩=some v :=
 oD (h.obj hk) (by simpa using hj)
theorem Holds.drew (h:Holds w0 K L w):Holds w0 K L w.drew:=by
 obtain⟨C,h1,h2⟩:=h
 exact⟨C,h1.loc (bi _) (fun _ _=>rfl),h2.drew⟩
theorem Holds.grow {Bs:List Asn} {C':Nat→Prop} (h:Holds w0 K L w) (hx:cz (fun _=>False) C' w w') (hB:aP Bs C' w'):Holds w0 K (L++Bs) w':=by
 obtain⟨C1,h1,h2⟩:=h.split (am.nil (L:=L))
 exact h2 Bs C' w' (by
  have:C1=fun _=>False:=funext fun k=>propext ⟨fun h=>absurd h (h1 k),fun h=>h.elim⟩
  rw[this];exact hx) hB
theorem aP.one {C:Nat→Prop} (h:A.P C w):aP [A] C w:=⟨C,fun _=>False,h,fun _ h=>h,fun _ _ h=>h,fun k=>by simp⟩
theorem Holds.alloc (h:Holds w0 K L w) (o:Obj):Holds w0 K (L++[Go.Proofs.YtifpjbgnikjglaaGreatDoor.obj w.heap.size o]) (w.alloc o):=by
 refine h.grow (C':=fun k=>k=w.heap.size) ⟨(Fr.refl _ _).alloc _,fun k hk=>.inr ⟨by omega,by simp;omega⟩⟩ (aP.one ⟨fun k=>_root_.Iff.rfl,eU w o⟩)
theorem Holds.setCell {b j:Nat} {l l':List Value} {t:TypeId} {v:Value} (h:Holds w0 K L w) (hk:L[k]?=some (cells b l t)) (q:l.set j v=l'):Holds w0 K (L.set k (cells b l' t)) (w.setCell ⟨b,j,none⟩ v):=by
 obtain⟨C1,h1,h2⟩:=h.focus hk
 refine h2 _ C1 _ ((cz.refl _ _).setCell ((h1.1 b).2 rfl) v) ⟨h1.1,?_⟩
 subst q
 have:=h1.2
 simp[lQ,this,Array.getElem?_modify]
theorem Holds.weaken {L':List Asn} (h:Holds w0 K L w) (l:am L L' R):Holds w0 K L' w:=by
 obtain⟨C,hL,hx⟩:=h
 obtain⟨C1,C2,h1,h2,h3,q⟩:=l C w hL
 exact⟨C1,h1,hx.1,fun k hk=>hx.2 k ((q k).2 (.inl hk))⟩
def po (A B:Asn):Prop:=∀C w,A.P C w→B.P C w
theorem Holds.ent (h:Holds w0 K L w) (hk:L[k]?=some A) (he:po A B):Holds w0 K (L.set k B) w:=by
 obtain⟨C1,h1,h2⟩:=h.focus hk
 exact h2 B C1 w (cz.refl _ _) (he _ _ h1)
theorem Holds.rewE {l:Asn} (h:Holds w0 K L w) (hk:L[k]?=some A) (he:A=l):Holds w0 K (L.set k l) w:=by
 subst he
 obtain⟨C1,h1,h2⟩:=h.focus hk
 exact h2 A C1 w (cz.refl _ _) h1
theorem Holds.starCons {j:Nat} {X:List Asn} (h:Holds w0 K L w) (hk:L[k]?=some A) (hj:L[j]?=some (zhW X)) (q:k≠j):Holds w0 K ((L.set k cy).set j (zhW (A::X))) w:=by
 obtain⟨C,hL,hx⟩:=h
 obtain⟨C1,C2,h1,h2,h3,E⟩:=aP.take hk hL
 have l:(L.set k cy)[j]?=some (zhW X):=by rw[qf q];exact hj
 obtain⟨D,J,I,H,G,g4⟩:=aP.take l h2
 refine⟨C,aP.put (C1:=fun i=>C1 i∨D i) (C2:=J) (az.1 l).1 ⟨C1,D,h1,I,fun i a b=>h3 i a ((g4 i).2 (.inl b)),fun i=>_root_.Iff.rfl⟩ H (fun i a b=>?_) (fun i=>?_),hx⟩
 ·rcases a with a|a
  ·exact h3 i a ((g4 i).2 (.inr b))
  ·exact G i a b
 ·rw[E,g4,or_assoc]
theorem Holds.star0 (h:Holds w0 K L w):Holds w0 K (L++[zhW []]) w:=by
 obtain⟨C,hL,hx⟩:=h
 exact⟨_,hL.append (aP.one (A:=zhW []) (C:=fun _=>False) (fun _ h=>h)) (fun _ _ h=>h),hx.1,fun k hk=>hx.2 k (hk.resolve_right (fun h=>h))⟩
end
def At (N:Nat) (dfs:List Deferred) (σ:List (Nat×Value)) (a:Act):Prop:=a.tmps.size=N∧a.defers=dfs∧∀t v,σ.lookup t=some v→a.tmps.getD t undef=v
def ev (σ:List (Nat×Value)):Operand→Option Value
 |.tmp t=>σ.lookup t
 |.const v=>some v
 |.func f=>some (.func (.func f) #[] #[])
 |.global _=>none
theorem At.ev {N:Nat} {dfs:List Deferred} {σ:List (Nat×Value)} {a:Act} (h:At N dfs σ a) {x:Operand} {v:Value} (hx:ev σ x=some v):a.eval x=v:=by
 cases x<;>simp[Go.Proofs.YtifpjbgnikjglaaGreatDoor.ev] at hx
 ·exact h.2.2 _ _ hx
 ·exact hx
 ·exact hx
theorem At.put {N:Nat} {dfs:List Deferred} {σ:List (Nat×Value)} {a:Act} (h:At N dfs σ a) {d:Nat} (hd:d<N) (v:Value):At N dfs ((d,v)::σ) (a.put (some d) v):=by
 refine⟨by simp[Act.put,h.1],h.2.1,fun t u ht=>?_⟩
 simp only[dP] at ht
 split at ht
 ·rename_i e
  have:t=d:=by simpa using e
  subst this;cases ht
  have h1:=h.1
  simp[Act.put,eZ,h1,hd]
 ·rename_i e
  have:t≠d:=by simpa using e
  rw[←h.2.2 t u ht]
  have D:¬d=t:=fun h=>this h.symm
  show (a.tmps.setIfInBounds d v).getD t undef=_
  by_cases q:t<a.tmps.size
  ·have l:t<(a.tmps.setIfInBounds d v).size:=by simpa using q
   unfold eZ
   rw[dif_pos l,dif_pos q]
   show (a.tmps.setIfInBounds d v)[t]=a.tmps[t]
   exact Array.getElem_setIfInBounds_ne q D
  ·have l:¬t<(a.tmps.setIfInBounds d v).size:=by simpa using q
   unfold eZ
   rw[dif_neg l,dif_neg q]
def qn (σ σ':List (Nat×Value)):Prop:=∀a N dfs,At N dfs σ a→At N dfs σ' a
theorem qo {σ:List (Nat×Value)}:qn σ []:=fun a N dfs h=>⟨h.1,h.2.1,fun t v ht=>by cases ht⟩
theorem BX {σ σ':List (Nat×Value)} {t:Nat} {v:Value} (h:σ.lookup t=some v) (l:qn σ σ'):qn σ ((t,v)::σ'):=fun a N dfs ha=>by
 refine⟨ha.1,ha.2.1,fun s u hu=>?_⟩
 simp only[dP] at hu
 split at hu
 ·rename_i e
  have:s=t:=by simpa using e
  subst this;cases hu
  exact ha.2.2 _ _ h
 ·exact (l a N dfs ha).2.2 s u hu
theorem Fu {σ:List (Nat×Value)}:qn σ σ:=fun a N dfs h=>h
class br (F:Fence):Prop where
 fn:∀f,F.fn f
 depth:F.depth=none
 calls:∀ {P:Program} {f:FuncId} {args:Array Value} {w:World} {R:Ending→World→Prop},Calls P f args w R→CallsIn F 0 P f args w R
 rounds:∀ {P:Program} {l:Nat} {f:FuncId} {tmps:Array Value} {assign body:Code} {w:World} {R:Ending→World→Prop},RoundIn bt 0 P l f tmps assign body w R→RoundIn F 0 P l f tmps assign body w R
instance:br bt:=⟨fun _=>trivial,rfl,fun h=>callsIn_wide.2 h,fun h=>h⟩
instance (l:Nat):br (Fence.wide.inRound l):=⟨fun _=>trivial,rfl,fun h=>CallsIn.inRound l (callsIn_wide.2 h),fun h=>h⟩
def TO (F:Fence) (P:Program) (w0:World) (K:Nat→Prop) (N:Nat) (dfs:List Deferred) (ops:Array Oper) (Q:Exit→Act→World→Prop) (rest:List Oper) (σ:List (Nat×Value)) (L:List Asn):Prop :=
 ∀a w,At N dfs σ a→Holds w0 K L w→wpListIn F 0 P ops Q rest a w
def TC (F:Fence) (P:Program) (w0:World) (K:Nat→Prop) (N:Nat) (dfs:List Deferred) (Q:Exit→Act→World→Prop) (c:Code) (σ:List (Nat×Value)) (L:List Asn):Prop :=
 ∀a w,At N dfs σ a→Holds w0 K L w→c.wpIn F 0 P Q a w
def TX (w0:World) (K:Nat→Prop) (N:Nat) (dfs:List Deferred) (Q:Exit→Act→World→Prop) (e:Exit) (σ:List (Nat×Value)) (L:List Asn):Prop :=
 ∀a w,At N dfs σ a→Holds w0 K L w→Q e a w
def St (w0:World) (K:Nat→Prop) (N:Nat) (dfs:List Deferred) (σ:List (Nat×Value)) (L:List Asn) (a:Act) (w:World):Prop:=At N dfs σ a∧Holds w0 K L w
def gd (ops:Array Oper) (σ:List (Nat×Value)):Option (Nat×Bool)→Option Bool
 |none=>some true
 |some (j,b)=>match (ops[j]?).bind (·.dst) with
  |some t=>match σ.lookup t with
   |some (.bool c)=>some (c==b)
   |some (.tuple _)=>some false
   |_=>none
  |none=>none
def lh (P:Program) (t:TypeId):Prop:=∃d,P.underlying t=some d∧d.isRow=false
def ol (P:Program) (t:TypeId) (n:Nat):Prop:=∃d,P.underlying t=some d∧d.isRow=true∧(P.info? t).map (·.size)=some n
def bx (P:Program) (t:TypeId) (n:Nat):Prop:=(P.info? t).map (·.size)=some n
def cd (P:Program) (t:TypeId) (cs:List Value):Prop:=(P.info? t).bind (fun i=>i.zero.map (·.cells.toList))=some cs
def jc (P:Program) (t:TypeId) (f off:Nat):Prop:=∃fs l,P.underlying t=some (.struct fs)∧fs[f]?=some l∧l.offset=off∧(P.info? l.type).map (fun i=>i.size != 0)=some true
theorem bx.some {P:Program} {t:TypeId} {n:Nat} (h:bx P t n):∃i,P.info? t=some i∧i.size=n:=by
 unfold bx at h;cases hi:P.info? t with
 |none=>simp[hi] at h
 |some i=>exact⟨i,rfl,by simpa [hi] using h⟩
theorem cd.some {P:Program} {t:TypeId} {cs:List Value} (h:cd P t cs):∃i z,P.info? t=some i∧i.zero=some z∧z.cells.toList=cs:=by
 unfold cd at h;cases hi:P.info? t with
 |none=>simp[hi] at h
 |some i=>
  cases hz:i.zero with
  |none=>simp[hi,hz] at h
  |some z=>exact⟨i,z,rfl,hz,by simpa [hi,hz] using h⟩
section
variable {F:Fence} {P:Program} {w0:World} {K:Nat→Prop} {N:Nat} {dfs:List Deferred} {ops:Array Oper} {Q:Exit→Act→World→Prop} {rest:List Oper} {σ σ':List (Nat×Value)} {L L' R As Bs:List Asn} {o:Oper} {v:Value}
 {d:Nat} {t:TypeId} {op:Op} {ty:TypeId} {pos:String} {aft:Array Edge} {g:Option (Nat×Bool)} {x y z:Operand} {c c1 c2:Code} {k:Nat} {A B:Asn}
theorem Fv {a:Act} {N:Nat} (q:a.tmps.size=N) {t:Nat} {b:Bool} (h:a.tmps.getD t undef=.bool b):a.tmps[t]?=some (.bool b):=by
 unfold eZ at h
 split at h
 ·rename_i l
  have h':a.tmps[t]=.bool b:=h
  simp[l,h']
 ·simp[undef] at h
theorem tX {a:Act} (ha:At N dfs σ a) (hg:gd ops σ o.guard=some true):kJ o (yielded ops a.tmps)=true:=by
 unfold gd at hg
 unfold kJ
 split at hg
 ·rename_i e;rw[e]
 ·rename_i j b e
  rw[e]
  split at hg
  ·rename_i t ht
   split at hg
   ·rename_i c hc
    simp only[fL] at hg
    have l:c=b:=by simpa using hg
    subst l
    have h1:=Fv ha.1 (ha.2.2 _ _ hc)
    simp[yielded,ht,h1]
   ·cases hg
   ·cases hg
  ·cases hg
theorem Lw {a:Act} {t:Nat} {vs:Array Value} (h:a.tmps.getD t undef=.tuple vs):∀b,a.tmps[t]?≠some (.bool b):=by
 intro b hb
 rw[nf,hb] at h
 cases h
theorem Lx {a:Act} (ha:At N dfs σ a) (hg:gd ops σ o.guard=some false):kJ o (yielded ops a.tmps)=false:=by
 unfold gd at hg
 unfold kJ
 split at hg
 ·cases hg
 ·rename_i j b e
  rw[e]
  split at hg
  ·rename_i t ht
   split at hg
   ·rename_i c hc
    simp only[fL] at hg
    have h1:=Fv ha.1 (ha.2.2 _ _ hc)
    simp[yielded,ht,h1]
    simpa using hg
   ·rename_i vs hc
    have h1:=Lw (ha.2.2 _ _ hc)
    have h2:yielded ops a.tmps j=none:=by
     unfold yielded
     rw[ht]
     show (match a.tmps[t]? with | some (.bool b)=>some b | _=>none)=none
     split
     ·rename_i b h3;exact absurd h3 (h1 b)
     ·rfl
    simp[h2]
   ·cases hg
  ·cases hg
theorem nS [br F] (hg:gd ops σ o.guard=some true) (hnd:∀c,o.op≠.defer c)
  (h:∀a w,At N dfs σ a→Holds w0 K L w→∃v w',(execOp a.eval o).run P w=.ok (.value v) w'∧wpListIn F 0 P ops Q rest (a.put o.dst v) w'):TO F P w0 K N dfs ops Q (o::rest) σ L:=by
 intro a w ha l
 obtain⟨v,w',h1,h2⟩:=h a w ha l
 simp only[wpListIn,tX ha hg,if_true]
 refine⟨fun f _=>br.fn f,?_⟩
 rw[gX F _ _ hnd,h1]
 exact h2
theorem zE [br F] (hg:gd ops σ o.guard=some true) (hnd:∀c,o.op≠.defer c)
  (h:∀a w,At N dfs σ a→Holds w0 K L w→∃w',(execOp a.eval o).run P w=.ok .skip w'∧wpListIn F 0 P ops Q rest (a.put o.dst undef) w'):TO F P w0 K N dfs ops Q (o::rest) σ L:=by
 intro a w ha l
 obtain⟨w',h1,h2⟩:=h a w ha l
 simp only[wpListIn,tX ha hg,if_true]
 refine⟨fun f _=>br.fn f,?_⟩
 rw[gX F _ _ hnd,h1]
 exact h2
theorem jl [br F] (hg:gd ops σ g=some true) (hd:d<N) (hnd:∀c,op≠.defer c)
  (hr:∀a w,At N dfs σ a→Holds w0 K L w→(execOp a.eval ⟨some d,op,ty,pos,aft,g⟩).run P w=.ok (.value v) w)
  (h:TO F P w0 K N dfs ops Q rest ((d,v)::σ) L):TO F P w0 K N dfs ops Q (⟨some d,op,ty,pos,aft,g⟩::rest) σ L :=
 nS hg hnd fun a w ha l=>⟨v,w,hr a w ha l,h _ _ (ha.put hd v) l⟩
theorem Ly [br F] (hg:gd ops σ g=some false) (hd:d<N) (h:TO F P w0 K N dfs ops Q rest ((d,undef)::σ) L):TO F P w0 K N dfs ops Q (⟨some d,op,ty,pos,aft,g⟩::rest) σ L:=by
 intro a w ha l
 simp only[wpListIn,Lx (o:=⟨some d,op,ty,pos,aft,g⟩) ha hg]
 exact⟨fun f _=>br.fn f,h _ _ (ha.put hd undef) l⟩
theorem bG (h:TX w0 K N dfs Q .normal σ L):TO F P w0 K N dfs ops Q [] σ L:=fun a w ha l=>h a w ha l
theorem Fw (q:qn σ σ') (h:TO F P w0 K N dfs ops Q rest σ' L):TO F P w0 K N dfs ops Q rest σ L:=fun a w ha l=>h a w (q _ _ _ ha) l
theorem pX (hk:L[k]?=some A) (he:po A B) (h:TO F P w0 K N dfs ops Q rest σ (L.set k B)):TO F P w0 K N dfs ops Q rest σ L:=fun a w ha l=>h a w ha (l.ent hk he)
theorem Lz (hk:L[k]?=some A) (he:po A B) (h:TC F P w0 K N dfs Q c σ (L.set k B)):TC F P w0 K N dfs Q c σ L:=fun a w ha l=>h a w ha (l.ent hk he)
theorem BZ [br F] (hg:gd ops σ g=some true) (hd:d<N) (hx:ev σ x=some v) (h:TO F P w0 K N dfs ops Q rest ((d,v)::σ) L):TO F P w0 K N dfs ops Q (⟨some d,.move x,ty,pos,aft,g⟩::rest) σ L :=
 jl hg hd (by simp) (fun a w ha l=>by simp[execOp,ha.ev hx]) h
theorem LA [br F] (hg:gd ops σ g=some true) (hd:d<N) (hx:ev σ x=some v) (h:TO F P w0 K N dfs ops Q rest ((d,v)::σ) L):TO F P w0 K N dfs ops Q (⟨some d,.assign x,ty,pos,aft,g⟩::rest) σ L :=
 jl hg hd (by simp) (fun a w ha l=>by simp[execOp,ha.ev hx]) h
theorem Fx [br F] {b:Bool} (hg:gd ops σ g=some true) (hd:d<N) (hc:ev σ x=some (.bool b)) (hv:ev σ (if b then y else z)=some v) (h:TO F P w0 K N dfs ops Q rest ((d,v)::σ) L) :
  TO F P w0 K N dfs ops Q (⟨some d,.pick x y z,ty,pos,aft,g⟩::rest) σ L :=
 jl hg hd (by simp) (fun a w ha l=>by
  have h1:=ha.ev hc
  have h2:=ha.ev hv
  cases b<;>simp_all [execOp,asBool]) h
theorem lU [br F] {b:BinOp} {l:TypeId} {v1 v2:Value} (hg:gd ops σ g=some true) (hd:d<N) (hx:ev σ x=some v1) (hy:ev σ y=some v2)
  (hb:∀w:World,(do eqGuard b t x y v1 v2;binOp b t v1 v2:Sem Value).run P w=.ok v w) (h:TO F P w0 K N dfs ops Q rest ((d,v)::σ) L) :
  TO F P w0 K N dfs ops Q (⟨some d,.binOp b t x y l,ty,pos,aft,g⟩::rest) σ L :=
 jl hg hd (by simp) (fun a w ha q=>by
  have:=hb w
  simp only[execOp,ha.ev hx,ha.ev hy,an] at this ⊢
  rw[this];rfl) h
theorem jU [br F] {b:UnOp} {v1:Value} (hg:gd ops σ g=some true) (hd:d<N) (hx:ev σ x=some v1)
  (hb:∀w:World,(Op.unary b v1).run P w=.ok v w) (h:TO F P w0 K N dfs ops Q rest ((d,v)::σ) L) :
  TO F P w0 K N dfs ops Q (⟨some d,.unOp b t x,ty,pos,aft,g⟩::rest) σ L :=
 jl hg hd (by simp) (fun a w ha l=>by
  simp only[execOp,ha.ev hx,an,hb w];rfl) h
theorem zdi [br F] {s:TypeId} {v1:Value} (hg:gd ops σ g=some true) (hd:d<N) (hx:ev σ x=some v1)
  (hb:∀w:World,(convert s t v1).run P w=.ok v w) (h:TO F P w0 K N dfs ops Q rest ((d,v)::σ) L) :
  TO F P w0 K N dfs ops Q (⟨some d,.convert s t x,ty,pos,aft,g⟩::rest) σ L :=
 jl hg hd (by simp) (fun a w ha l=>by
  simp only[execOp,ha.ev hx,an,hb w];rfl) h
theorem zab [br F] {b off l:Nat} {f fo:Nat} (hf:jc P t f fo) (hg:gd ops σ g=some true) (hd:d<N) (hx:ev σ x=some (.pointer (some ⟨b,off,none⟩))) (D:off+fo=l)
  (h:TO F P w0 K N dfs ops Q rest ((d,.pointer (some ⟨b,l,none⟩))::σ) L) :
  TO F P w0 K N dfs ops Q (⟨some d,.fieldAddr t x f,ty,pos,aft,g⟩::rest) σ L:=by
 subst D
 obtain⟨fs,q,hu,hf,rfl,hz⟩:=hf
 obtain⟨i,hi,hz⟩:∃i,P.info? q.type=some i∧i.size≠0:=by
  cases hi:P.info? q.type with
  |none=>simp[hi] at hz
  |some i=>exact⟨i,rfl,by simpa [hi] using hz⟩
 refine jl hg hd (by simp) (fun a w ha E=>?_) h
 simp[execOp,ha.ev hx,Instr.fieldAt,an,run_underlying hu,hf,eo,fieldPlace,sizeOf,typeInfo,hi,hz,iz]
theorem eT [br F] {f:Nat} {vs:Array Value} (hg:gd ops σ g=some true) (hd:d<N) (hx:ev σ x=some (.tuple vs)) (hv:vs[f]?=some v) (h:TO F P w0 K N dfs ops Q rest ((d,v)::σ) L) :
  TO F P w0 K N dfs ops Q (⟨some d,.extract x f,ty,pos,aft,g⟩::rest) σ L :=
 jl hg hd (by simp) (fun a w ha l=>by simp[execOp,ha.ev hx,Instr.extract,hv]) h
theorem mS [br F] {v1 v2:Value} (hg:gd ops σ g=some true) (hd:d<N) (hx:ev σ x=some v1) (hy:ev σ y=some v2)
  (hb:∀w:World,(iT t v1 v2).run P w=.ok v w) (h:TO F P w0 K N dfs ops Q rest ((d,v)::σ) L) :
  TO F P w0 K N dfs ops Q (⟨some d,.index t x y,ty,pos,aft,g⟩::rest) σ L :=
 jl hg hd (by simp) (fun a w ha l=>by simp only[execOp,ha.ev hx,ha.ev hy,an,hb w];rfl) h
def evO (σ:List (Nat×Value)):Option Operand→Option (Option Value)
 |none=>some none
 |some x=>(ev σ x).map some
theorem At.evO {a:Act} (h:At N dfs σ a) {x:Option Operand} {v:Option Value} (hx:evO σ x=some v):x.map a.eval=v:=by
 cases x with
 |none=>simpa [Go.Proofs.YtifpjbgnikjglaaGreatDoor.evO] using hx
 |some x=>
  simp only[Go.Proofs.YtifpjbgnikjglaaGreatDoor.evO,cS] at hx
  obtain⟨u,hu,rfl⟩:=hx
  simp[h.ev hu]
theorem ia [br F] {v1:Value} {lo hi:Option Operand} {D hv:Option Value} (hg:gd ops σ g=some true) (hd:d<N) (hx:ev σ x=some v1) (l:evO σ lo=some D) (q:evO σ hi=some hv)
  (hb:∀w:World,(gq t v1 D hv none).run P w=.ok v w) (h:TO F P w0 K N dfs ops Q rest ((d,v)::σ) L) :
  TO F P w0 K N dfs ops Q (⟨some d,.slice t x lo hi none,ty,pos,aft,g⟩::rest) σ L :=
 jl hg hd (by simp) (fun a w ha E=>by simp only[execOp,ha.ev hx,ha.evO l,ha.evO q,Option.map_none,an,hb w];rfl) h
def evP (σ:List (Nat×Value)):List (Nat×Operand)→Option (List (Nat×Value))
 |[]=>some []
 |(i,x)::r=>match ev σ x,evP σ r with
  |some v,some l=>some ((i,v)::l)
  |_,_=>none
theorem At.evP {a:Act} (h:At N dfs σ a):∀ {ps:List (Nat×Operand)} {vs:List (Nat×Value)},evP σ ps=some vs→ps.map (fun (i,x)=>(i,a.eval x))=vs
 |[],vs,hx=>by simpa [Go.Proofs.YtifpjbgnikjglaaGreatDoor.evP] using hx
 |(i,x)::r,vs,hx=>by
  simp only[Go.Proofs.YtifpjbgnikjglaaGreatDoor.evP] at hx
  split at hx
  ·rename_i v l h1 h2
   cases hx
   simp[h.ev h1,At.evP h h2]
  ·cases hx
def evL (σ:List (Nat×Value)):List Operand→Option (List Value)
 |[]=>some []
 |x::r=>match ev σ x,evL σ r with
  |some v,some l=>some (v::l)
  |_,_=>none
theorem At.evL {a:Act} (h:At N dfs σ a):∀ {ps:List Operand} {vs:List Value},evL σ ps=some vs→ps.map a.eval=vs
 |[],vs,hx=>by simpa [Go.Proofs.YtifpjbgnikjglaaGreatDoor.evL] using hx
 |x::r,vs,hx=>by
  simp only[Go.Proofs.YtifpjbgnikjglaaGreatDoor.evL] at hx
  split at hx
  ·rename_i v l h1 h2
   cases hx
   simp[h.ev h1,At.evL h h2]
  ·cases hx
theorem zbb [br F] {ps:List (Nat×Operand)} {vs:List (Nat×Value)} (hg:gd ops σ g=some true) (hd:d<N) (hx:evP σ ps=some vs)
  (hb:∀w:World,(Instr.build t vs.toArray).run P w=.ok v w) (h:TO F P w0 K N dfs ops Q rest ((d,v)::σ) L) :
  TO F P w0 K N dfs ops Q (⟨some d,.build t ps.toArray,ty,pos,aft,g⟩::rest) σ L :=
 jl hg hd (by simp) (fun a w ha l=>by
  have:=hb w
  simp only[execOp,eR,ha.evP hx,an,this];rfl) h
theorem ziy [br F] {fn:Fn} {x1 x2:List Operand} {q l:List Value} (hg:gd ops σ g=some true) (hd:d<N) (h1:evL σ x1=some q) (h2:evL σ x2=some l)
  (h:TO F P w0 K N dfs ops Q rest ((d,.func fn q.toArray l.toArray)::σ) L) :
  TO F P w0 K N dfs ops Q (⟨some d,.makeFunc fn x1.toArray x2.toArray,ty,pos,aft,g⟩::rest) σ L :=
 jl hg hd (by simp) (fun a w ha D=>by simp[execOp,Instr.makeFunc,ha.evL h1,ha.evL h2]) h
theorem za8 [br F] {a0:Addr} (hg:gd ops σ g=some true) (hd:d<N) (hx:ev σ x=some (.pointer (some a0))) (h:TO F P w0 K N dfs ops Q rest ((d,.pointer (some a0))::σ) L) :
  TO F P w0 K N dfs ops Q (⟨some d,.nilCheck x,ty,pos,aft,g⟩::rest) σ L :=
 jl hg hd (by simp) (fun a w ha l=>by simp[execOp,ha.ev hx]) h
theorem zeV [br F] (hg:gd ops σ g=some true) (hd:d<N) (hx:ev σ x=some v)
  (h:∀b,TO F P w0 K N dfs ops Q rest ((d,.pointer (some ⟨b,0,none⟩))::σ) (L++[cells b v.cells.toList t])):TO F P w0 K N dfs ops Q (⟨some d,.box t x,ty,pos,aft,g⟩::rest) σ L :=
 nS hg (by simp) fun a w ha l=>⟨.pointer (some ⟨w.heap.size,0,none⟩),w.alloc (.cells v.cells t),by simp[execOp,ha.ev hx,Instr.box,newVar,newRow,an],h _ _ _ (ha.put hd _) (by simpa [cells] using l.alloc (.cells v.cells t (0,0)))⟩
theorem zzC [br F] (l:∀w,Holds w0 K L w→v.oneCell'=true) (hg:gd ops σ g=some true) (hd:d<N) (hx:ev σ x=some v)
  (h:∀b,TO F P w0 K N dfs ops Q rest ((d,.pointer (some ⟨b,0,none⟩))::σ) (L++[cells b [v] t])):TO F P w0 K N dfs ops Q (⟨some d,.box t x,ty,pos,aft,g⟩::rest) σ L :=
 nS hg (by simp) fun a w ha D=>⟨.pointer (some ⟨w.heap.size,0,none⟩),w.alloc (.cells v.cells t),by simp[execOp,ha.ev hx,Instr.box,newVar,newRow,an],h _ _ _ (ha.put hd _) (by
  have q:v.cells=#[v]:=by have:=l w D;cases v<;>simp_all [pJ,ny]
  rw[q];simpa [cells] using D.alloc (.cells #[v] t (0,0)))⟩
theorem zbk [br F] {cs:List Value} (hz:cd P t cs) (hg:gd ops σ g=some true) (hd:d<N)
  (h:∀b,TO F P w0 K N dfs ops Q rest ((d,.pointer (some ⟨b,0,none⟩))::σ) (L++[cells b cs t])):TO F P w0 K N dfs ops Q (⟨some d,.alloc t,ty,pos,aft,g⟩::rest) σ L:=by
 obtain⟨i,q,hi,l,rfl⟩:=hz.some
 exact nS hg (by simp) fun a w ha D=>⟨.pointer (some ⟨w.heap.size,0,none⟩),w.alloc (.cells q.cells t),by simp[execOp,Instr.alloc,zeroValue,typeInfo,hi,l,newVar,newRow,an],h _ _ _ (ha.put hd _) (by simpa [cells] using D.alloc (.cells q.cells t (0,0)))⟩
theorem zat [br F] {b j:Nat} {l:List Value} {e:TypeId} (D:lh P t) (hg:gd ops σ g=some true) (hd:d<N) (hx:ev σ x=some (.pointer (some ⟨b,j,none⟩))) (hk:L[k]?=some (cells b l e)) (hj:l[j]?=some v)
  (h:TO F P w0 K N dfs ops Q rest ((d,v)::σ) L):TO F P w0 K N dfs ops Q (⟨some d,.load t x,ty,pos,aft,g⟩::rest) σ L:=by
 obtain⟨dd,hu,hr⟩:=D
 exact jl hg hd (by simp) (fun a w ha q=>by
  have hc:=q.cell hk hj
  cases dd<;>simp_all [execOp,ha.ev hx,kf,eo,loadVar,isAgg,an,run_underlying hu]) h
theorem zbT [br F] {b j n:Nat} {l cs:List Value} {e:TypeId} (G:ol P t n) (hg:gd ops σ g=some true) (hd:d<N) (hx:ev σ x=some (.pointer (some ⟨b,j,none⟩))) (hk:L[k]?=some (cells b l e))
  (q:(l.drop j).take n=cs) (E:cs.length=n) (h:TO F P w0 K N dfs ops Q rest ((d,.agg cs.toArray)::σ) L) :
  TO F P w0 K N dfs ops Q (⟨some d,.load t x,ty,pos,aft,g⟩::rest) σ L:=by
 subst E
 obtain⟨dd,hu,hr,hi⟩:=G
 exact jl hg hd (by simp) (fun a w ha D=>by
  have hc:w.rangeAt b j cs:=fun i u hu=>by
   refine D.cell hk ?_
   rw[←q] at hu
   rw[iI] at hu
   split at hu
   ·rw[gm] at hu;exact hu
   ·cases hu
  simp only[execOp,ha.ev hx,an,run_loadAt_mid w b j t cs dd hc hu hr hi];rfl) h
theorem ef [br F] {b j:Nat} {l l':List Value} {e:TypeId} {u:Value} (H:bx P t 1) (hg:gd ops σ g=some true) (hx:ev σ x=some (.pointer (some ⟨b,j,none⟩))) (hy:ev σ y=some v)
  (hk:L[k]?=some (cells b l e)) (hj:l[j]?=some u) (q:∀w,Holds w0 K L w→v.oneCell'=true) (G:l.set j v=l')
  (h:TO F P w0 K N dfs ops Q rest σ (L.set k (cells b l' e))):TO F P w0 K N dfs ops Q (⟨none,.store t x y,ty,pos,aft,g⟩::rest) σ L:=by
 obtain⟨i,hi,hsz⟩:=H.some
 exact zE hg (by simp) fun a w ha D=>⟨_,by
  have h1:=q w D
  have hc:=D.cell hk hj
  have hf:w.frozen? ⟨b,j,none⟩=false:=by simp[lR,D.obj hk]
  have E:v.cells=#[v]:=by cases v<;>simp_all [pJ,ny]
  simp[execOp,ha.ev hx,ha.ev hy,Instr.storeAt,eo,storeVar,sizeOf,typeInfo,hi,hsz,E,storeCells,an,run_store _ _ _ _ _ h1,hc,hf,iz],h _ _ ha (D.setCell hk G)⟩
def qp (l:List Value) (j:Nat):List Value→List Value
 |[]=>l
 |v::vs=>qp (l.set j v) (j+1) vs
theorem s8:∀ (vs l:List Value) (j:Nat),(qp l j vs).length=l.length
 |[],l,j=>rfl
 |v::vs,l,j=>by simp[qp,s8 vs]
theorem Holds.setCells {b:Nat} {e:TypeId} (q:k<L.length):∀ (vs:List Value) (j:Nat) (l:List Value) (w:World),Holds w0 K (L.set k (cells b l e)) w→Holds w0 K (L.set k (cells b (qp l j vs) e)) (w.setCells b j vs)
 |[],j,l,w,h=>h
 |v::vs,j,l,w,h=>by
  have hk:(L.set k (cells b l e))[k]?=some (cells b l e):=by simp[q]
  have:=h.setCell (j:=j) (v:=v) hk rfl
  rw[List.set_set] at this
  simp only[World.setCells,qp]
  exact Holds.setCells q vs (j+1) _ _ this
theorem Fy {α:Type} {L:List α} {k:Nat} {A:α} (hk:L[k]?=some A):L.set k A=L:=by
 apply lS
 intro i
 rw[sV]
 split
 ·rename_i e
  subst e
  rw[hk]
  simp[(az.1 hk).1]
 ·rfl
theorem eK [br F] {b j n:Nat} {l l' vs:List Value} {e:TypeId} (I:bx P t n) (hg:gd ops σ g=some true) (hx:ev σ x=some (.pointer (some ⟨b,j,none⟩))) (hy:ev σ y=some (.agg vs.toArray))
  (hk:L[k]?=some (cells b l e)) (E:vs.length=n) (hj:j+n≤l.length) (h1:vs.all (·.oneCell')=true) (G:qp l j vs=l')
  (h:TO F P w0 K N dfs ops Q rest σ (L.set k (cells b l' e))):TO F P w0 K N dfs ops Q (⟨none,.store t x y,ty,pos,aft,g⟩::rest) σ L:=by
 subst G;subst E
 have q:k<L.length:=(az.1 hk).1
 refine zE hg (by simp) fun a w ha D=>⟨w.setCells b j vs,?_,h _ _ ha (Holds.setCells q vs j l w (by rw[Fy hk];exact D))⟩
 have ht:w.there b j vs.toArray.size:=fun i hi=>by
  have H:i<vs.length:=by simpa using hi
  have hc:=D.cell hk (aO (show j+i<l.length by omega))
  exact⟨by rw[hc];rfl,by simp[lR,D.obj hk]⟩
 simp only[execOp,ha.ev hx,ha.ev hy,an,run_storeAt_mid w b j t vs.toArray ht (by simpa [bx] using I) (by simpa using h1)];rfl
end
def Ro (w0:World) (K:Nat→Prop) (RO:List (Nat×Obj)):Prop:=∀p∈RO,w0.heap[p.1]?=some p.2∧¬K p.1
theorem Ro.nil {w0:World} {K:Nat→Prop}:Ro w0 K []:=fun p hp=>by cases hp
theorem Holds.ro {w0 w:World} {K:Nat→Prop} {L:List Asn} {RO:List (Nat×Obj)} (h:Holds w0 K L w) (hr:Ro w0 K RO) {i b:Nat} {o:Obj} (hi:RO[i]?=some (b,o)):w.heap[b]?=some o:=by
 obtain⟨C,_,hx⟩:=h
 obtain⟨h1,h2⟩:=hr _ (aL hi)
 exact hx.1.at h1 h2
def Fz {β:Type} (w0:World) (K:Nat→Prop) (N:Nat) (dfs:List Deferred) (I:β→Prop) (l:β→List (Nat×Value)) (q:β→List Asn) (a:Act) (w:World):Prop:=∃b,I b∧St w0 K N dfs (l b) (q b) a w
def B2 {β:Type} (w0:World) (K:Nat→Prop) (N:Nat) (I:β→Prop) (D:β→List Deferred) (q:β→List (Nat×Value)) (E:β→List Asn) (μ:β→Nat) (b:β) (a:Act) (w:World):Prop:=∃l,I l∧μ l<μ b∧St w0 K N (D l) (q l) (E l) a w
section
variable {F:Fence} {P:Program} {w0:World} {K:Nat→Prop} {N:Nat} {dfs:List Deferred} {ops:Array Oper} {Q:Exit→Act→World→Prop} {rest:List Oper} {σ σ':List (Nat×Value)} {L L' R As Bs:List Asn} {o:Oper} {v:Value}
 {d:Nat} {t:TypeId} {op:Op} {ty:TypeId} {pos:String} {aft:Array Edge} {g:Option (Nat×Bool)} {x y z:Operand} {c c1 c2:Code} {k:Nat} {A B:Asn} {RO:List (Nat×Obj)}
theorem bV {id:Nat} {l:List Oper} (h:TO F P w0 K N dfs l.toArray Q l σ L):TC F P w0 K N dfs Q (.region id l.toArray false) σ L:=fun a w ha q=>wpIn_region_lit (h a w ha q)
theorem zaL (h:TC F P w0 K N dfs (_root_.Go.Exit.then (c2.wpIn F 0 P Q) Q) c1 σ L):TC F P w0 K N dfs Q (.seq c1 c2) σ L:=fun a w ha l=>wpIn_seq (h a w ha l)
theorem bA (h:TX w0 K N dfs Q .normal σ L):TC F P w0 K N dfs Q .skip σ L:=fun a w ha l=>wpIn_skip (h a w ha l)
theorem dF {id:Nat} (h:TX w0 K N dfs Q (.exit id) σ L):TC F P w0 K N dfs Q (.exit id) σ L:=fun a w ha l=>wpIn_exit (h a w ha l)
theorem zaz (h:TX w0 K N dfs Q .ret σ L):TC F P w0 K N dfs Q .ret σ L:=fun a w ha l=>wpIn_ret (h a w ha l)
theorem FA {l:Nat} (h:TX w0 K N dfs Q .normal σ L):TC F P w0 K N dfs Q (.label l) σ L:=fun a w ha q=>wpIn_label (h a w ha q)
theorem zau {id:Nat} (h:TC F P w0 K N dfs (jE id Q) c σ L):TC F P w0 K N dfs Q (.block id c) σ L:=fun a w ha l=>wpIn_block (h a w ha l)
theorem gM (hc:ev σ x=some (.bool true)) (h:TC F P w0 K N dfs Q c1 σ L):TC F P w0 K N dfs Q (.cond x c1 c2) σ L:=fun a w ha l=>wpIn_cond_true (ha.ev hc) (h a w ha l)
theorem eh (hc:ev σ x=some (.bool false)) (h:TC F P w0 K N dfs Q c2 σ L):TC F P w0 K N dfs Q (.cond x c1 c2) σ L:=fun a w ha l=>wpIn_cond_false (ha.ev hc) (h a w ha l)
theorem LB {b:Bool} (hc:ev σ x=some (.bool b)) (ht:b=true→TC F P w0 K N dfs Q c1 σ L) (hf:b=false→TC F P w0 K N dfs Q c2 σ L):TC F P w0 K N dfs Q (.cond x c1 c2) σ L :=
 fun a w ha l=>wpIn_cond_split (ha.ev hc) (fun h=>ht h a w ha l) (fun h=>hf h a w ha l)
theorem LC {s:Nat} {b:Bool} (l:σ.lookup s=some (.bool b)) (ht:b=true→TO F P w0 K N dfs ops Q rest ((s,.bool true)::σ) L) (hf:b=false→TO F P w0 K N dfs ops Q rest ((s,.bool false)::σ) L) :
  TO F P w0 K N dfs ops Q rest σ L:=by
 cases b with
 |true=>exact Fw (BX l Fu) (ht rfl)
 |false=>exact Fw (BX l Fu) (hf rfl)
theorem ct (h:TC F P w0 K N dfs Q c σ L):TX w0 K N dfs (_root_.Go.Exit.then (c.wpIn F 0 P Q) Q) .normal σ L:=h
theorem bU {id:Nat} {q:Act→World→Prop} (h:TX w0 K N dfs Q (.exit id) σ L):TX w0 K N dfs (_root_.Go.Exit.then q Q) (.exit id) σ L:=h
theorem bP {q:Act→World→Prop} (h:TX w0 K N dfs Q .ret σ L):TX w0 K N dfs (_root_.Go.Exit.then q Q) .ret σ L:=h
theorem ca {id:Nat} (h:TX w0 K N dfs Q .normal σ L):TX w0 K N dfs (jE id Q) .normal σ L:=h
theorem cD {id:Nat} (h:TX w0 K N dfs Q .ret σ L):TX w0 K N dfs (jE id Q) .ret σ L:=h
theorem dG {id:Nat} (h:TX w0 K N dfs Q .normal σ L):TX w0 K N dfs (jE id Q) (.exit id) σ L:=fun a w ha l=>by
 show (if id=id then Q .normal a w else Q (.exit id) a w);rw[ax rfl];exact h a w ha l
theorem zF {id l:Nat} (q:l≠id) (h:TX w0 K N dfs Q (.exit l) σ L):TX w0 K N dfs (jE id Q) (.exit l) σ L:=fun a w ha D=>by
 show (if l=id then Q .normal a w else Q (.exit l) a w);rw[ap q];exact h a w ha D
theorem LD (I:Nat→Act→World→Prop) (m:Nat) {a:Act} {w:World} (G:I m a w)
  (round:∀m a w,I m a w→c.wpIn F 0 P (_root_.Go.Exit.then (fun E w'=>∃l<m,I l E w') Q) a w):(Code.loop c).wpIn F 0 P Q a w:=by
 refine wpIn_loop (fun a w=>∃m,I m a w) (fun a w=>leastOf (fun m=>I m a w)) ⟨m,G⟩ fun a w H=>?_
 obtain⟨h1,h2⟩:=leastOf_spec H
 refine wpIn_mono (round _ a w h1) fun e E w' D=>?_
 cases e with
 |normal=>
  obtain⟨l,q,h3⟩:=D
  exact⟨⟨l,h3⟩,Nat.lt_of_le_of_lt ((leastOf_spec ⟨l,h3⟩).2 l h3) q⟩
 |_=>exact D
theorem eO {β:Type} (I:β→Prop) (q:β→List Deferred) (l:β→List (Nat×Value)) (D:β→List Asn) (μ:β→Nat) (b0:β) (M:I b0) (hd:dfs=q b0) (H:qn σ (l b0)) (hL:am L (D b0) R)
  (round:∀b,I b→TC F P w0 K N (q b) (_root_.Go.Exit.then (B2 w0 K N I q l D μ b) Q) c (l b) (D b)):TC F P w0 K N dfs Q (.loop c) σ L:=fun a w ha J=>by
 subst hd
 refine LD (fun m a w=>∃b,I b∧μ b=m∧St w0 K N (q b) (l b) (D b) a w) (μ b0) ⟨b0,M,rfl,H _ _ _ ha,J.weaken hL⟩ ?_
 rintro m a w ⟨b,hb,rfl,h1,h2⟩
 refine wpIn_mono (round b hb a w h1 h2) fun e T w' E=>?_
 cases e with
 |normal=>obtain⟨G,h3,O,h5⟩:=E;exact⟨μ G,O,G,h3,rfl,h5⟩
 |_=>exact E
theorem ni {β:Type} {I:β→Prop} {D:β→List Deferred} {q:β→List (Nat×Value)} {E:β→List Asn} {μ:β→Nat} {b:β} (l:β) (M:I l) (H:μ l<μ b) (hd:dfs=D l) (G:qn σ (q l)) (hL:am L (E l) R) :
  TX w0 K N dfs (_root_.Go.Exit.then (B2 w0 K N I D q E μ b) Q) .normal σ L:=fun a w ha J=>by
 subst hd
 exact⟨l,M,H,G _ _ _ ha,J.weaken hL⟩
theorem s9 {l:Asn} (hk:L[k]?=some A) (he:A=l) (h:TO F P w0 K N dfs ops Q rest σ (L.set k l)):TO F P w0 K N dfs ops Q rest σ L:=fun a w ha q=>h a w ha (q.rewE hk he)
theorem rU {e:Exit} {j:Nat} {X:List Asn} (hk:L[k]?=some A) (hj:L[j]?=some (zhW X)) (l:k≠j) (h:TX w0 K N dfs Q e σ ((L.set k cy).set j (zhW (A::X)))):TX w0 K N dfs Q e σ L:=fun a w ha q=>h a w ha (q.starCons hk hj l)
theorem ziX (h:TC F P w0 K N dfs Q c σ (L++[zhW []])):TC F P w0 K N dfs Q c σ L:=fun a w ha l=>h a w ha l.star0
theorem zG [br F] {b j i:Nat} {l:List Value} {e:TypeId} {G:Nat×Nat} (hr:Ro w0 K RO) (E:lh P t) (hg:gd ops σ g=some true) (hd:d<N) (hx:ev σ x=some (.pointer (some ⟨b,j,none⟩)))
  (hi:RO[i]?=some (b,.cells l.toArray e G)) (hj:l[j]?=some v)
  (h:TO F P w0 K N dfs ops Q rest ((d,v)::σ) L):TO F P w0 K N dfs ops Q (⟨some d,.load t x,ty,pos,aft,g⟩::rest) σ L:=by
 obtain⟨dd,hu,q⟩:=E
 exact jl hg hd (by simp) (fun a w ha D=>by
  have hc:w.cell? ⟨b,j,none⟩=some v:=oD (D.ro hr hi) (by simpa using hj)
  cases dd<;>simp_all [execOp,ha.ev hx,kf,eo,loadVar,isAgg,an,run_underlying hu]) h
def Fn (P:Program) (f:FuncId) (vs:List Value) (As:List Asn) {β:Type} (V:β→Value) (Bs:β→List Asn):Prop :=
 ∀w C,aP As C w→Calls P f vs.toArray w fun e w'=>∃x:β,e=.returned (V x)∧∃C',aP (Bs x) C' w'∧cz C C' w w'
def w8 (P:Program) (f:FuncId) (vs:List Value) (As:List Asn) {β:Type} (V:β→Value) (Bs:β→List Asn) (w:World) (C:Nat→Prop):Prop :=
 aP As C w→Calls P f vs.toArray w fun e w'=>∃x:β,e=.returned (V x)∧∃C',aP (Bs x) C' w'∧cz C C' w w'
def dB (P:Program) (f:FuncId) (vs:List Value) (v:Value):Prop:=∀w,Calls P f vs.toArray w fun e w'=>e=.returned v∧Below w.heap.size w w'
theorem mw {f:FuncId} {vs:List Value} {v:Value} (h:∀w,Calls P f vs.toArray w fun e w'=>e=.returned v∧w=w'):dB P f vs v:=fun w=>(h w).mono fun e w' ⟨h1,h2⟩=>⟨h1,h2▸Below.refl _ _⟩
theorem dB.fn {f:FuncId} {vs:List Value} {v:Value} (h:dB P f vs v):Fn P f vs [] (fun _:Unit=>v) (fun _=>[]):=fun w C l=>
 (h w).mono fun e w' ⟨h1,h2⟩=>⟨(),h1,C,l,Fp h2⟩
theorem Fn.p {f:FuncId} {vs:List Value} {v:Value} (h:Fn P f vs [] (fun _:Unit=>v) (fun _=>[])):dB P f vs v:=fun w=>
 (h w (fun _=>False) (fun _ h=>h)).mono fun e w' ⟨_,h1,C',h2,h3⟩=>⟨h1,h3.toBelow (bi _) (fun _ _ h=>h)⟩
theorem LF [br F] {xs:List Operand} {D:Array TypeId} {f:FuncId} {first cap:Array Value} {vs l:List Value} {β:Type} {V:β→Value} {Bs:β→List Asn} {dst:Option Nat}
  (hg:gd ops σ g=some true) (hx:ev σ x=some (.func (.func f) first cap)) (G:evL σ xs=some vs) (hv:first.toList++vs++cap.toList=l)
  (E:∀args w,(callFunc f args).run P w=.ok (.enter f args) w) (T:∀w C,cz K C w0 w→w8 P f l As V Bs w C) (O:am L As R)
  (h:∀b a w J,J=a.put dst (V b)→At N dfs σ a→Holds w0 K (R++Bs b) w→wpListIn F 0 P ops Q rest J w) :
  TO F P w0 K N dfs ops Q (⟨dst,.call { callee:=.value x,args:=xs.toArray,argTypes:=D },ty,pos,aft,g⟩::rest) σ L:=by
 intro a w ha M
 simp only[wpListIn,tX (o:=⟨dst,.call { callee:=.value x,args:=xs.toArray,argTypes:=D },ty,pos,aft,g⟩) ha hg,if_true]
 refine⟨fun f _=>br.fn f,?_⟩
 have h1:(execOp a.eval ⟨dst,.call { callee:=.value x,args:=xs.toArray,argTypes:=D },ty,pos,aft,g⟩).run P w=.ok (.enter f l.toArray) w:=by
  have e:first++vs.toArray++cap=l.toArray:=by rw[←hv];simp
  simp only[execOp,resolve,eR,ha.evL G,ha.ev hx,ls,an,iF,ci,invoke,e,E]
 rw[gX F _ _ (by simp),h1]
 refine⟨(fun h=>by rw[br.depth (F:=F)] at h;cases h),?_⟩
 obtain⟨C1,H,hA,q⟩:=M.splitX O
 refine br.calls ((T w C1 H hA).mono ?_)
 rintro e w' ⟨b,rfl,C',hB,I⟩
 exact h b a w' _ rfl ha (q _ _ _ I hB)
theorem FB [br F] {xs:List Operand} {E:Array TypeId} {f:FuncId} {first cap:Array Value} {vs l:List Value} {β:Type} {V:β→Value} {Bs:β→List Asn} {dst:Option Nat}
  (hg:gd ops σ g=some true) (hx:ev σ x=some (.func (.func f) first cap)) (D:evL σ xs=some vs) (hv:first.toList++vs++cap.toList=l)
  (q:∀args w,(callFunc f args).run P w=.ok (.enter f args) w) (I:Fn P f l As V Bs) (H:am L As R)
  (h:∀b a w G,G=a.put dst (V b)→At N dfs σ a→Holds w0 K (R++Bs b) w→wpListIn F 0 P ops Q rest G w) :
  TO F P w0 K N dfs ops Q (⟨dst,.call { callee:=.value x,args:=xs.toArray,argTypes:=E },ty,pos,aft,g⟩::rest) σ L :=
 LF hg hx D hv q (fun w C _=>I w C) H h
theorem zbJ [br F] {xs:List Operand} {G:Array TypeId} {f:FuncId} {first cap:Array Value} {vs l:List Value} {β:Type} {V:β→Value} {Bs:β→List Asn}
  (hg:gd ops σ g=some true) (hd:d<N) (hx:ev σ x=some (.func (.func f) first cap)) (D:evL σ xs=some vs) (hv:first.toList++vs++cap.toList=l)
  (q:∀args w,(callFunc f args).run P w=.ok (.enter f args) w) (J:Fn P f l As V Bs) (I:am L As R)
  (h:∀b,TO F P w0 K N dfs ops Q rest ((d,V b)::σ) (R++Bs b)) :
  TO F P w0 K N dfs ops Q (⟨some d,.call { callee:=.value x,args:=xs.toArray,argTypes:=G },ty,pos,aft,g⟩::rest) σ L :=
 FB hg hx D hv q J I fun b a w M E ha H=>by subst E;exact h b _ _ (ha.put hd _) H
theorem zaI [br F] {xs:List Operand} {G:Array TypeId} {f:FuncId} {first cap:Array Value} {vs l:List Value}
  (hg:gd ops σ g=some true) (hd:d<N) (hx:ev σ x=some (.func (.func f) first cap)) (D:evL σ xs=some vs) (hv:first.toList++vs++cap.toList=l)
  (q:∀args w,(callFunc f args).run P w=.ok (.enter f args) w) (I:dB P f l v) (h:TO F P w0 K N dfs ops Q rest ((d,v)::σ) L) :
  TO F P w0 K N dfs ops Q (⟨some d,.call { callee:=.value x,args:=xs.toArray,argTypes:=G },ty,pos,aft,g⟩::rest) σ L :=
 FB hg hx D hv q I.fn am.nil fun b a w J E ha H=>by
  subst E
  rw[aE] at H
  exact h _ _ (ha.put hd _) H
def YC (P:Program) (l:Nat) {α:Type} (enc:α→List Value) (xs:List α) (I X:List α→Asn) (w0:World) (K:Nat→Prop):Prop :=
 ∀pre x post C q,xs=pre++x::post→cz K C w0 q→(I pre).P C q →
  BS P l (enc x).toArray q fun b D=>∃C',cz C C' q D∧((b=true∧(I (pre++[x])).P C' D)∨(b=false∧(X (pre++[x])).P C' D))
theorem Holds.focus' {w:World} (h:Holds w0 K L w) (hk:L[k]?=some A):∃C1,cz K C1 w0 w∧A.P C1 w∧∀B l w',cz C1 l w w'→B.P l w'→Holds w0 K (L.set k B) w':=by
 obtain⟨C1,h1,h2⟩:=h.focus hk
 have h':=h
 obtain⟨C,hL,hx⟩:=h'
 obtain⟨J,H,I,E,G,g4⟩:=aP.take hk hL
 refine⟨J,⟨hx.1,fun j hj=>hx.2 j ((g4 j).2 (.inl hj))⟩,I,?_⟩
 intro B l w' he hB
 have q:k<L.length:=(az.1 hk).1
 have hsz:=he.1.size
 have D:aP (L.set k cy) H w':=E.loc hsz (fun k hk=>he.1.keep k (E.lt k hk) (fun h=>G k h hk))
 have hd:∀k,l k→¬H k:=fun k h' hk=>by
  rcases he.2 k h' with h|h
  ·exact G k h hk
  ·have:=E.lt k hk;omega
 refine⟨_,aP.put q hB D hd (fun k=>_root_.Iff.rfl),hx.1.trans' he.1 (fun i hi hc=>?_),fun k hk=>?_⟩
 ·rcases hx.2 i ((g4 i).2 (.inl hc)) with h|h
  ·exact h
  ·omega
 ·have:=hx.1.size
  rcases hk with hk|hk
  ·rcases he.2 k hk with h|h
   ·rcases hx.2 k ((g4 k).2 (.inl h)) with h|h
    ·exact .inl h
    ·exact .inr (by omega)
   ·exact .inr (by omega)
  ·rcases hx.2 k ((g4 k).2 (.inr hk)) with h|h
   ·exact .inl h
   ·exact .inr (by omega)
theorem LG [br F] {xs:List Operand} {E:Array TypeId} {l:Nat} {α:Type} {enc:α→List Value} {zs:List α} {I X:List α→Asn} {dst:Option Nat} (hy:YC P l enc zs I X w0 K)
  (hg:gd ops σ g=some true) (hx:ev σ x=some (.func (.yield l) #[] #[])) {pre:List α} {e:α} {post:List α} (hz:zs=pre++e::post) (O:evL σ xs=some (enc e))
  (hk:L[k]?=some (I pre))
  (ht:∀a w M,M=a.put dst (.bool true)→At N dfs σ a→Holds w0 K (L.set k (I (pre++[e]))) w→wpListIn F 0 P ops Q rest M w)
  (hf:∀a w M,M=a.put dst (.bool false)→At N dfs σ a→Holds w0 K (L.set k (X (pre++[e]))) w→wpListIn F 0 P ops Q rest M w) :
  TO F P w0 K N dfs ops Q (⟨dst,.call { callee:=.value x,args:=xs.toArray,argTypes:=E },ty,pos,aft,g⟩::rest) σ L:=by
 intro a w ha T
 simp only[wpListIn,tX (o:=⟨dst,.call { callee:=.value x,args:=xs.toArray,argTypes:=E },ty,pos,aft,g⟩) ha hg,if_true]
 refine⟨fun f _=>br.fn f,?_⟩
 obtain⟨C1,J,hi,q⟩:=T.focus' hk
 obtain⟨fn,tmps,assign,body,H,D⟩:=hy pre e post C1 w hz J hi
 have h1:(execOp a.eval ⟨dst,.call { callee:=.value x,args:=xs.toArray,argTypes:=E },ty,pos,aft,g⟩).run P w=.ok (.round l fn tmps assign body) w:=by
  simp only[execOp,resolve,eR,ha.evL O,ha.ev hx,ls,an,iF,ci,invoke,Array.empty_append,H]
 rw[gX F _ _ (by simp),h1]
 refine⟨(fun h=>by rw[br.depth (F:=F)] at h;cases h),?_⟩
 have hr:RoundIn F 0 P l fn tmps assign body w _:=br.rounds D
 refine hr.mono ?_
 rintro U w' ⟨b,rfl,C',G,h|h⟩
 ·obtain⟨rfl,h⟩:=h
  exact ht a w' _ rfl ha (q _ _ _ G h)
 ·obtain⟨rfl,h⟩:=h
  exact hf a w' _ rfl ha (q _ _ _ G h)
theorem uY [br F] {xs:List Operand} {G:Array TypeId} {l:Nat} {α:Type} {enc:α→List Value} {zs:List α} {I X:List α→Asn} (hy:YC P l enc zs I X w0 K)
  (hg:gd ops σ g=some true) (hd:d<N) (hx:ev σ x=some (.func (.yield l) #[] #[])) {pre:List α} {e:α} {post:List α} (hz:zs=pre++e::post) (D:evL σ xs=some (enc e))
  (hk:L[k]?=some (I pre)) (ht:TO F P w0 K N dfs ops Q rest ((d,.bool true)::σ) (L.set k (I (pre++[e])))) (hf:TO F P w0 K N dfs ops Q rest ((d,.bool false)::σ) (L.set k (X (pre++[e])))) :
  TO F P w0 K N dfs ops Q (⟨some d,.call { callee:=.value x,args:=xs.toArray,argTypes:=G },ty,pos,aft,g⟩::rest) σ L :=
 LG hy hg hx hz D hk (fun a w H q ha E=>by subst q;exact ht _ _ (ha.put hd _) E) (fun a w H q ha E=>by subst q;exact hf _ _ (ha.put hd _) E)
end
def rV (vs:List Value):List (Nat×Value):=vs.zipIdx.map fun p=>(p.2,p.1)
theorem FC:∀ (vs:List Value) (k t:Nat) (v:Value),((vs.zipIdx k).map fun p=>(p.2,p.1)).lookup t=some v→k≤t∧vs[t-k]?=some v
 |[],k,t,v,h=>by simp at h
 |u::vs,k,t,v,h=>by
  simp only[List.zipIdx_cons,av,dP] at h
  split at h
  ·rename_i e
   have:t=k:=by simpa using e
   subst this;cases h
   simp
  ·rename_i e
   have l:t≠k:=by simpa using e
   obtain⟨h1,h2⟩:=FC vs (k+1) t v h
   refine⟨by omega,?_⟩
   rw[show t-k=(t-(k+1))+1 by omega]
   simpa using h2
theorem uZ {N:Nat} (vs:List Value) (D:vs.length≤N):At N [] (rV vs) { tmps:=vs.toArray++fb (N-vs.toArray.size) undef,defers:=[] }:=by
 refine⟨by simp;omega,rfl,fun t v h=>?_⟩
 obtain⟨_,h2⟩:=FC vs 0 t v h
 have h3:vs[t]?=some v:=by simpa using h2
 have l:t<vs.length:=(az.1 h3).1
 have q:(vs.toArray++fb (N-vs.toArray.size) undef)[t]?=some v:=by
  rw[Array.getElem?_append_left (by simpa using l)];simpa using h3
 rw[nf,q];rfl
def FR (P:Program) {β:Type} (V:β→Value) (Bs:β→List Asn) (w0:World) (K:Nat→Prop) (e:Ending) (w:World):Prop:=∃x:β,e=.returned (V x)∧Holds w0 K (Bs x) w
section
variable {F:Fence} {P:Program} {w0:World} {K:Nat→Prop} {N:Nat} {dfs:List Deferred} {ops:Array Oper} {Q:Exit→Act→World→Prop} {rest:List Oper} {σ σ':List (Nat×Value)} {L L' R As Bs:List Asn} {o:Oper} {v:Value}
 {d:Nat} {t:TypeId} {op:Op} {ty:TypeId} {pos:String} {aft:Array Edge} {g:Option (Nat×Bool)} {x y z:Operand} {c c1 c2:Code} {k:Nat} {A B:Asn} {RO:List (Nat×Obj)}
theorem Fn.intro {f:FuncId} {fn:Func} {vs:List Value} {β:Type} {V:β→Value} {Bs:β→List Asn} (hf:P.funcs[f]?=some fn) (hb:fn.body=some c) (l:fn.ntmps=N) (q:vs.length≤N)
  (h:∀w0 K,TC bt P w0 K N [] (bodyPostM bt 0 P fn (FR P V Bs w0 K)) c (rV vs) As):Fn P f vs As V Bs:=by
 subst l
 intro w C hA
 refine (uX hf hb (h w C _ w (uZ vs q) ⟨C,hA,cz.refl _ _⟩)).mono ?_
 rintro e w' ⟨x,rfl,C',hB,hx⟩
 exact⟨x,rfl,C',hB,hx⟩
theorem w8.intro {f:FuncId} {fn:Func} {vs:List Value} {β:Type} {V:β→Value} {Bs:β→List Asn} {w:World} {C:Nat→Prop} (hf:P.funcs[f]?=some fn) (hb:fn.body=some c) (l:fn.ntmps=N) (q:vs.length≤N)
  (h:TC bt P w C N [] (bodyPostM bt 0 P fn (FR P V Bs w C)) c (rV vs) As):w8 P f vs As V Bs w C:=by
 subst l
 intro hA
 refine (uX hf hb (h _ w (uZ vs q) ⟨C,hA,cz.refl _ _⟩)).mono ?_
 rintro e w' ⟨x,rfl,C',hB,hx⟩
 exact⟨x,rfl,C',hB,hx⟩
theorem dB.intro {f:FuncId} {fn:Func} {vs:List Value} (hf:P.funcs[f]?=some fn) (hb:fn.body=some c) (l:fn.ntmps=N) (q:vs.length≤N)
  (h:∀w0 K,TC bt P w0 K N [] (bodyPostM bt 0 P fn (FR P (fun _:Unit=>v) (fun _=>[]) w0 K)) c (rV vs) []):dB P f vs v:=Fn.p (Fn.intro hf hb l q h)
inductive mT (P:Program) (σ:List (Nat×Value)) (L:List Asn):ResultVar→Value→Prop
 |tmp {t:Nat} {v:Value} (h:σ.lookup t=some v):mT P σ L (.tmp t) v
 |cell {s b:Nat} {t:TypeId} {k:Nat} {v:Value} {e:TypeId} (hT:lh P t) (hs:σ.lookup s=some (.pointer (some ⟨b,0,none⟩))) (hk:L[k]?=some (cells b [v] e)):mT P σ L (.cell s t) v
 |cells {s b n:Nat} {t:TypeId} {k:Nat} {cs:List Value} {e:TypeId} (hT:ol P t n) (hs:σ.lookup s=some (.pointer (some ⟨b,0,none⟩))) (hk:L[k]?=some (Go.Proofs.YtifpjbgnikjglaaGreatDoor.cells b cs e)) (hn:cs.length=n):mT P σ L (.cell s t) (.agg cs.toArray)
inductive iV (P:Program) (σ:List (Nat×Value)) (L:List Asn):List ResultVar→List Value→Prop
 |nil:iV P σ L [] []
 |cons {r:ResultVar} {rs:List ResultVar} {v:Value} {vs:List Value} (h:mT P σ L r v) (hs:iV P σ L rs vs):iV P σ L (r::rs) (v::vs)
def tc:List Value→Value
 |[v]=>v
 |vs=>.tuple vs.toArray
def tY (tmps:Array Value):ResultVar→Sem Value
 |.tmp t=>pure (tmps.getD t undef)
 |.cell a t=>do loadVar t (←asAddr (tmps.getD a undef))
theorem mT.run {r:ResultVar} (h:mT P σ L r v) {a:Act} {w:World} (ha:At N dfs σ a) (l:Holds w0 K L w):(tY a.tmps r).run P w=.ok v w:=by
 cases h with
 |tmp h=>simp[tY,ha.2.2 _ _ h]
 |@cell s b t k v e hT hs hk=>
  obtain⟨dd,hu,hr⟩:=hT
  have hc:=l.cell hk (j:=0) (v:=v) rfl
  have:=ha.2.2 _ _ hs
  cases dd<;>simp_all [tY,asAddr,loadVar,isAgg,an,run_underlying hu]
 |@cells s b n t k cs e hT hs hk hn=>
  subst hn
  obtain⟨dd,hu,hr,hi⟩:=hT
  have hc:w.rangeAt b 0 cs:=fun i u hu=>l.cell hk (by simpa using hu)
  have:=ha.2.2 _ _ hs
  simp[tY,asAddr,an,this,run_loadVar_mid w b 0 t cs dd hc hu hr hi]
theorem iV.run {rs:List ResultVar} {vs:List Value} (h:iV P σ L rs vs) {a:Act} {w:World} (ha:At N dfs σ a) (q:Holds w0 K L w):(rs.mapM (tY a.tmps)).run P w=.ok vs w:=by
 induction h with
 |nil=>simp
 |cons h D l=>simp[List.mapM_cons,an,h.run ha q,l]
theorem w9 {fn:Func} {rs:List ResultVar} {vs:List Value} (l:fn.results=rs.toArray) (h:iV P σ L rs vs) {a:Act} {w:World} (ha:At N dfs σ a) (q:Holds w0 K L w):(results fn a.tmps).run P w=.ok (tc vs) w:=by
 have h1:=h.run ha q
 have h2:(fn.results.mapM (tY a.tmps)).run P w=.ok vs.toArray w:=by
  rw[l,List.mapM_toArray,map_eq_pure_bind,an,h1];rfl
 have h3:results fn a.tmps=(do let vs ←fn.results.mapM (tY a.tmps);pure (if h:vs.size=1 then vs[0] else .tuple vs)):=rfl
 rw[h3,an,h2]
 rcases vs with _|⟨v,_|⟨u,vs⟩⟩
 ·rfl
 ·rfl
 ·simp[tc]
theorem eB {fn:Func} {rs:List ResultVar} {vs:List Value} {β:Type} {V:β→Value} {Bs:β→List Asn} {e:Exit} (b:β) (he:e=.ret∨e=.normal) (q:fn.results=rs.toArray) (l:iV P σ L rs vs) (hv:tc vs=V b) (E:am L (Bs b) R) :
  TX w0 K N [] (bodyPostM F 0 P fn (FR P V Bs w0 K)) e σ L:=by
 intro a w ha D
 have h1:=w9 q l ha D
 have h2:LeavesInM F 0 P fn a.tmps (FR P V Bs w0 K) a.defers .returning w:=by
  rw[ha.2.1]
  exact⟨tc vs,h1,b,by rw[hv],D.weaken E⟩
 rcases he with rfl|rfl<;>exact h2
def fx (d:Nat):Asn:=obj d (.deferred (some []))
theorem aP.marks {w:World}:∀ {ds:List Nat} {C:Nat→Prop},aP (ds.map fx) C w→ds.Nodup∧(∀d∈ds,w.heap[d]?=some (.deferred (some [])))∧∀k,C k↔k∈ds
 |[],C,h=>⟨List.nodup_nil,by simp,fun k=>by simp;exact h k⟩
 |d::ds,C,⟨C1,C2,h1,h2,h3,h4⟩=>by
  obtain⟨D,q,l⟩:=aP.marks h2
  have hd:∀k,C1 k↔k=d:=h1.1
  refine⟨iP.2 ⟨fun hm=>h3 d ((hd d).2 rfl) ((l d).2 hm),D⟩,?_,fun k=>by rw[h4,hd,l];simp⟩
  intro e he
  rcases aY.1 he with rfl|he
  ·exact h1.2
  ·exact q e he
theorem B3 {fn:Func} {tmps:Array Value} {E:Ending→World→Prop} (ds:List Nat) {w:World} (hm:am L (ds.map fx) L') (G:Holds w0 K L w)
  (h:∀w',Holds w0 K L' w'→∃v,(results fn tmps).run P w'=.ok v w'∧E (.returned v) w'):LeavesInM bt 0 P fn tmps E (oj ds) .returning w:=by
 obtain⟨C,hL,hx⟩:=G
 obtain⟨C1,C2,h1,h2,h3,q⟩:=hm C w hL
 obtain⟨I,H,D⟩:=aP.marks h1
 refine Fl ds w I H fun w' hf hsz=>h w' ?_
 refine⟨C2,h2.loc (by omega) (fun j hj=>hf.keep j (h2.lt j hj) (fun l=>h3 j ((D j).2 l) hj)),hx.1.trans' hf (fun i hi l=>?_),fun j hj=>?_⟩
 ·rcases hx.2 i ((q i).2 (.inl ((D i).2 l))) with h|h
  ·exact h
  ·omega
 ·rcases hx.2 j ((q j).2 (.inr hj)) with h|h
  ·exact .inl h
  ·exact .inr (by omega)
theorem lj {fn:Func} {rs:List ResultVar} {vs:List Value} {β:Type} {V:β→Value} {Bs:β→List Asn} {e:Exit} (ds:List Nat) (b:β) (he:e=.ret∨e=.normal) (hm:am L (ds.map fx) L') (D:fn.results=rs.toArray)
  (q:iV P σ L' rs vs) (hv:tc vs=V b) (G:am L' (Bs b) R):TX w0 K N (oj ds) (bodyPostM bt 0 P fn (FR P V Bs w0 K)) e σ L:=by
 intro a w ha E
 have h2:LeavesInM bt 0 P fn a.tmps (FR P V Bs w0 K) a.defers .returning w:=by
  rw[ha.2.1]
  exact B3 ds hm E fun w' l=>⟨tc vs,w9 D q ha l,b,by rw[hv],l.weaken G⟩
 rcases he with rfl|rfl<;>exact h2
def rX (P:Program) (gf:FuncId) (l:List Value) {α:Type} (enc:α→List Value) (xs:List α) (RO:List (Nat×Obj)):Prop :=
 ∀w,(∀p∈RO,w.heap[p.1]?=some p.2)→zB P gf l.toArray (fun x=>(enc x).toArray) xs (fun k=>∃p∈RO,p.1=k) w
def u0 (I:(Nat→Prop)→World→Prop) (q:∀C W W',I C W→W.heap.size≤W'.heap.size→(∀k,C k→W'.heap[k]?=W.heap[k]?)→I C W'):Asn :=
 ⟨fun C w=>I C w∧∀k,C k→k<w.heap.size,fun h=>h.2,fun h l hk=>⟨q _ _ _ h.1 l hk,fun k D=>eF (h.2 k D) l⟩⟩
def FY {α:Type} (xs:List α) (I X:List α→Asn) (w0:World) (K:Nat→Prop) (e:Ending) (w:World):Prop :=
 (∃v,e=.returned v)∧(Holds w0 K [I xs] w∨∃pre x post,xs=pre++x::post∧Holds w0 K [X (pre++[x])] w)
theorem rX.intro {gf:FuncId} {fn:Func} {q:List Value} {α:Type} {enc:α→List Value} {xs:List α} (hf:P.funcs[gf]?=some fn) (hb:fn.body=some c) (hn:fn.ntmps=N) (hN:q.length+1≤N)
  (h:∀l w0 K (I X:List α→Asn),Ro w0 K RO→YC P l enc xs I X w0 K →
   TC bt P w0 K N [] (bodyPostM bt 0 P fn (FY xs I X w0 K)) c (rV (.func (.yield l) #[] #[]::q)) [I []]):rX P gf q enc xs RO:=by
 subst hn
 intro w U l I X C0 W hD hsz H V O hy h0
 have T:Ro W C0 RO:=fun p hp=>⟨(hD p.1 ⟨p,hp,rfl⟩).2.trans (U p hp),fun hc=>(H _ hc).2 ⟨p,hp,rfl⟩⟩
 have:=h l W C0 (fun pre=>u0 (I pre) (fun C W W'=>V pre C W W')) (fun pre=>u0 (X pre) (fun C W W'=>O pre C W W')) T (fun pre x post C W1 D he hi=>by
  obtain⟨f1,t1,a1,b1,M,J⟩:=hy pre x post C W1 D he hi.1
  refine⟨f1,t1,a1,b1,M,J.mono ?_⟩
  rintro e w2 ⟨b,rfl,C',hx,hc⟩
  have E:∀k,C' k→k<w2.heap.size:=fun k hk=>by
   have:=hx.1.size
   rcases hx.2 k hk with h|h
   ·have:=hi.2 k h;omega
   ·exact h.2
  exact⟨b,rfl,C',hx,hc.imp (fun h=>⟨h.1,h.2,E⟩) (fun h=>⟨h.1,h.2,E⟩)⟩)
 have hs:(Value.func (.yield l) #[] #[]::q).toArray=#[.func (.yield l) #[] #[]]++q.toArray:=by simp
 rw[←hs]
 refine (uX hf hb (this _ W (uZ _ (by simpa using hN)) ⟨C0,aP.one ⟨h0,fun k hk=>(H k hk).1⟩,cz.refl _ _⟩)).mono ?_
 rintro e w' ⟨he,G⟩
 refine⟨he,?_⟩
 rcases G with⟨C',G,hx⟩|⟨pre,x,post,D,C',G,hx⟩
 ·obtain⟨C1,C2,Z,Y,_,g4⟩:=G
  have:C'=C1:=funext fun k=>propext (by rw[g4];exact⟨fun h=>h.resolve_right (Y k),.inl⟩)
  subst this
  exact⟨C',hx,.inl Z.1⟩
 ·obtain⟨C1,C2,Z,Y,_,g4⟩:=G
  have:C'=C1:=funext fun k=>propext (by rw[g4];exact⟨fun h=>h.resolve_right (Y k),.inl⟩)
  subst this
  exact⟨C',hx,.inr ⟨pre,x,post,D,Z.1⟩⟩
theorem u6 {fn:Func} {α:Type} {xs:List α} {I X:List α→Asn} {e:Exit} (ds:List Nat) (he:e=.ret∨e=.normal) (hm:am L (ds.map fx) L') (q:fn.results=#[]) (hA:I xs=A) (E:am L' [A] R) :
  TX w0 K N (oj ds) (bodyPostM bt 0 P fn (FY xs I X w0 K)) e σ L:=by
 subst hA
 intro a w ha D
 have h2:LeavesInM bt 0 P fn a.tmps (FY xs I X w0 K) a.defers .returning w:=by
  rw[ha.2.1]
  exact B3 ds hm D fun w' l=>⟨_,w9 (rs:=[]) q .nil ha l,⟨_,rfl⟩,.inl (l.weaken E)⟩
 rcases he with rfl|rfl<;>exact h2
theorem va {fn:Func} {α:Type} {xs:List α} {I X:List α→Asn} {e:Exit} (ds:List Nat) (pre:List α) (x:α) (post:List α) (q:xs=pre++x::post) (he:e=.ret∨e=.normal) (hm:am L (ds.map fx) L') (D:fn.results=#[]) (G:am L' [X (pre++[x])] R) :
  TX w0 K N (oj ds) (bodyPostM bt 0 P fn (FY xs I X w0 K)) e σ L:=by
 intro a w ha E
 have h2:LeavesInM bt 0 P fn a.tmps (FY xs I X w0 K) a.defers .returning w:=by
  rw[ha.2.1]
  exact B3 ds hm E fun w' l=>⟨_,w9 (rs:=[]) D .nil ha l,⟨_,rfl⟩,.inr ⟨pre,x,post,q,l.weaken G⟩⟩
 rcases he with rfl|rfl<;>exact h2
def RQ {α β γ:Type} (Inv:List α→β→Prop) (LI:List α→β→List Asn) (X:Code→List α→γ→Prop) (LX:Code→List α→γ→List Asn) (pre:List α) (w1:World) (q:Nat→Prop):Exit→Act→World→Prop
 |.normal,_,w=>∃b,Inv pre b∧Holds w1 q (LI pre b) w
 |.ret,_,w=>∃b,X .ret pre b∧Holds w1 q (LX .ret pre b) w
 |.exit id,_,w=>∃b,X (.exit id) pre b∧Holds w1 q (LX (.exit id) pre b) w
 |.goto l,_,w=>∃b,X (.goto l) pre b∧Holds w1 q (LX (.goto l) pre b) w
 |.panic _,_,_=>False
 |.outgrown,_,_=>False
section
variable {α β γ:Type} {Inv:List α→β→Prop} {LI:List α→β→List Asn} {X:Code→List α→γ→Prop} {LX:Code→List α→γ→List Asn} {pre:List α}
theorem lH (b:β) (h:Inv pre b) (q:am L (LI pre b) R):TX w0 K N dfs (RQ Inv LI X LX pre w0 K) .normal σ L:=fun a w ha l=>⟨b,h,l.weaken q⟩
theorem my (b:γ) (h:X .ret pre b) (q:am L (LX .ret pre b) R):TX w0 K N dfs (RQ Inv LI X LX pre w0 K) .ret σ L:=fun a w ha l=>⟨b,h,l.weaken q⟩
end
def xa (ps:List Nat) (vs:List Value) (σ:List (Nat×Value)):List (Nat×Value):=(ps.zip vs).foldl (fun σ p=>p::σ) σ
theorem At.zip {a:Act} (h:At N dfs σ a) (ps:List Nat) (vs:List Value) (hp:∀p∈ps,p<N):At N [] (xa ps vs σ) { tmps:=(ps.toArray.zip vs.toArray).foldl (fun t p=>t.setIfInBounds p.1 p.2) a.tmps,defers:=[] }:=by
 have key:∀ (l:List (Nat×Value)) (σ:List (Nat×Value)) (D:Array Value),(∀p∈l,p.1<N)→At N [] σ { tmps:=D,defers:=[] } →
   At N [] (l.foldl (fun σ p=>p::σ) σ) { tmps:=l.foldl (fun t p=>t.setIfInBounds p.1 p.2) D,defers:=[] }:=by
  intro l
  induction l with
  |nil=>intro σ D _ h;exact h
  |cons p l G=>
   intro σ D hp h
   simp only[List.foldl_cons]
   exact G _ _ (fun q H=>hp q (ak _ H)) (h.put (hp p (aq ..)) p.2)
 have:=key (ps.zip vs) σ a.tmps (fun p E=>hp _ (List.of_mem_zip E).1) ⟨h.1,rfl,h.2.2⟩
 simpa [xa] using this
theorem Holds.split2 {w:World} (h:Holds w0 K L w) (E:am L As R):∃C1 C2,aP As C1 w∧aP R C2 w∧(∀k,C1 k→¬C2 k)∧cz K C1 w0 w∧∀Bs l w',cz C1 l w w'→aP Bs l w'→Holds w0 K (R++Bs) w':=by
 have h0:=h
 obtain⟨C,hL,hx⟩:=h
 obtain⟨C1,C2,h1,h2,h3,q⟩:=E C w hL
 refine⟨C1,C2,h1,h2,h3,⟨hx.1,fun k hk=>hx.2 k ((q k).2 (.inl hk))⟩,fun Bs l w' he hB=>?_⟩
 have hsz:=he.1.size
 have D:aP R C2 w':=h2.loc hsz (fun k hk=>he.1.keep k (h2.lt k hk) (fun h=>h3 k h hk))
 have hd:∀k,C2 k→¬l k:=fun k hk h'=>by
  rcases he.2 k h' with h|h
  ·exact h3 k h hk
  ·have:=h2.lt k hk;omega
 refine⟨_,D.append hB hd,hx.1.trans' he.1 (fun i hi hc=>?_),fun k hk=>?_⟩
 ·rcases hx.2 i ((q i).2 (.inl hc)) with h|h
  ·exact h
  ·omega
 ·have:=hx.1.size
  rcases hk with hk|hk
  ·rcases hx.2 k ((q k).2 (.inr hk)) with h|h
   ·exact .inl h
   ·exact .inr (by omega)
  ·rcases he.2 k hk with h|h
   ·rcases hx.2 k ((q k).2 (.inl h)) with h|h
    ·exact .inl h
    ·exact .inr (by omega)
   ·exact .inr (by omega)
def nU (R:List Asn) (RO:List (Nat×Obj)):List (Nat×Obj)→Prop
 |[]=>True
 |p::ps=>((∃k:Nat,R[k]?=some (obj p.1 p.2))∨∃k:Nat,RO[k]?=some p)∧nU R RO ps
theorem nU.mem {R:List Asn} {RO:List (Nat×Obj)}:∀ {D:List (Nat×Obj)},nU R RO D→∀p∈D,((∃k:Nat,R[k]?=some (obj p.1 p.2))∨∃k:Nat,RO[k]?=some p)
 |[],_,p,hp=>by cases hp
 |q::D,h,p,hp=>by
  rcases aY.1 hp with rfl|hp
  ·exact h.1
  ·exact nU.mem h.2 p hp
theorem aP.mem {b:Nat} {o:Obj}:∀ {R:List Asn} {C:Nat→Prop} {w:World} {k:Nat},R[k]?=some (obj b o)→aP R C w→w.heap[b]?=some o∧C b:=by
 intro R C w k hk h
 obtain⟨C1,C2,h1,_,_,l⟩:=aP.take hk h
 exact⟨h1.2,(l b).2 (.inl ((h1.1 b).2 rfl))⟩
theorem Ro.snoc {RO:List (Nat×Obj)} {b:Nat} {o:Obj} (h:Ro w0 K RO) (hb:w0.heap[b]?=some o) (l:¬K b):Ro w0 K (RO++[(b,o)]):=fun p hp=>by
 rcases bH.1 hp with hp|hp
 ·exact h p hp
 ·rw[List.mem_singleton.1 hp];exact⟨hb,l⟩
section
variable {α β γ δ:Type}
theorem tZ {gf:FuncId} {M:List Value} {enc:α→List Value} {xs:List α} {D:List (Nat×Obj)} {ps:List Nat} {assign body:Code} (ao:Ro w0 K RO)
  (hg:ev σ x=some (.func (.func gf) #[] M.toArray)) (a3:∀args w,(callFunc gf args).run P w=.ok (.enter gf args) w) (hY:rX P gf M enc xs D)
  (Inv:List α→β→Prop) (LI:List α→β→List Asn) (X:Code→List α→γ→Prop) (LX:Code→List α→γ→List Asn) (σJ:List α→α→β→δ→List (Nat×Value)) (LJ:List α→α→β→δ→List Asn) (b0:β)
  (h0:Inv [] b0) (Y:am L (LI [] b0) R) (hD:nU R RO D) (a5:∀x,(enc x).length=ps.length) (a6:∀p∈ps,p<N)
  (J:∀l r pre e post b w1 T,xs=pre++e::post→cz K T w0 w1→Ro w1 T (RO++[(l,.loop r)])→Inv pre b →
   TC (Fence.wide.inRound l) P w1 T N [] (_root_.Go.Exit.then (fun a w=>∃j,St w1 T N [] (σJ pre e b j) (LJ pre e b j) a w) (fun _ _ _=>False)) assign (xa ps (enc e) σ) (LI pre b))
  (ag:∀l r pre e post b j w1 T,xs=pre++e::post→cz K T w0 w1→Ro w1 T (RO++[(l,.loop r)])→Inv pre b→TC (Fence.wide.inRound l) P w1 T N [] (RQ Inv LI X LX (pre++[e]) w1 T) body (σJ pre e b j) (LJ pre e b j))
  (Z:∀d b,Inv xs b→TX w0 K N ({ target:=.collected d,args:=#[] }::dfs) Q .normal σ (R++(LI xs b++[fx d])))
  (V:∀d c pre e post b,xs=pre++e::post→X c (pre++[e]) b→TC bt P w0 K N ({ target:=.collected d,args:=#[] }::dfs) Q c σ (R++(LX c (pre++[e]) b++[fx d]))) :
  TC bt P w0 K N dfs Q (.rangeFunc x ps.toArray assign body) σ L:=by
 intro a w ha hw
 obtain⟨C1,C2,g1,g2,g3,gx,I⟩:=hw.split2 Y
 have aw:∀p∈D,w.heap[p.1]?=some p.2∧¬C1 p.1:=fun p hp=>by
  rcases hD.mem p hp with⟨k,hk⟩|⟨k,hk⟩
  ·obtain⟨h1,h2⟩:=aP.mem hk g2
   exact⟨h1,fun h=>g3 _ h h2⟩
  ·refine⟨hw.ro ao hk,fun h=>?_⟩
   obtain⟨h1,h2⟩:=ao _ (aL hk)
   rcases gx.2 _ h with h|h
   ·exact h2 h
   ·have:=kW h1;omega
 have a2:=g1.lt
 have U:∀ {C:Nat→Prop} {W:World},cz K C w0 W→Ro W C RO:=fun {C W} hx p hp=>by
  obtain⟨h1,h2⟩:=ao p hp
  refine⟨hx.1.at h1 h2,fun h=>?_⟩
  rcases hx.2 _ h with h|h
  ·exact h2 h
  ·have:=kW h1;omega
 refine Fk (gf:=gf) (lb:=M.toArray) (ha.ev hg) a3 (hY w (fun p hp=>(aw p hp).1)) (fun k ⟨p,hp,hk⟩=>⟨hk▸kW (aw p hp).1,rfl⟩) (bi _) (fun e=>by simp[a5])
  (fun pre C W=>∃b,Inv pre b∧aP (LI pre b) C W) (fun c pre C W=>∃b,X c pre b∧aP (LX c pre b) C W)
  (fun pre e a1 C W=>∃b j,Inv pre b∧At N [] (σJ pre e b j) a1∧aP (LJ pre e b j) C W) ?_ ?_ ?_ C1 (fun k hk=>⟨a2 k hk,fun⟨p,hp,e⟩=>(aw p hp).2 (e▸hk)⟩) ⟨b0,h0,g1⟩ ?_ ?_ ?_ ?_
 ·rintro pre C W W' ⟨b,h1,h2⟩ Y hk;exact⟨b,h1,h2.loc Y hk⟩
 ·rintro c pre C W W' ⟨b,h1,h2⟩ Y hk;exact⟨b,h1,h2.loc Y hk⟩
 ·rintro pre e a1 _ C W W' ⟨b,j,h1,h2,h3⟩ Y hk;exact⟨b,j,h1,h2,h3.loc Y hk⟩
 ·rintro l pre e post C W1 G q ⟨b,hb,hi⟩ hn hl ⟨r,hr⟩
  have H:cz K C w0 W1:=gx.trans q
  refine wpIn_mono (J l r pre e post b W1 C G H ((U H).snoc hr hn) hb _ W1 (ha.zip ps (enc e) a6) ⟨C,hi,cz.refl _ _⟩) ?_
  rintro ex a' w' O
  cases ex with
  |normal=>
   obtain⟨j,hj,C',a8,a4⟩:=O
   exact⟨C',a4,b,j,hb,hj,a8⟩
  |_=>exact O
 ·rintro l pre e post C W1 a1 G q ⟨b,j,hb,a7,hi⟩ hn hl ⟨r,hr⟩
  have H:cz K C w0 W1:=gx.trans q
  refine wpIn_mono (ag l r pre e post b j W1 C G H ((U H).snoc hr hn) hb a1 W1 a7 ⟨C,hi,cz.refl _ _⟩) ?_
  rintro ex a' w' O
  cases ex with
  |normal=>obtain⟨b',h1,C',h2,h3⟩:=O;exact⟨C',h3,b',h1,h2⟩
  |ret=>obtain⟨b',h1,C',h2,h3⟩:=O;exact⟨C',h3,b',h1,h2⟩
  |exit id=>obtain⟨b',h1,C',h2,h3⟩:=O;exact⟨C',h3,b',h1,h2⟩
  |goto id=>obtain⟨b',h1,C',h2,h3⟩:=O;exact⟨C',h3,b',h1,h2⟩
  |panic _=>exact O
  |outgrown=>exact O
 ·rintro d C W q ⟨b,hb,hi⟩ hd a0 E
  refine Z d b hb _ W ⟨ha.1,by rw[←ha.2.1],ha.2.2⟩ (I _ (fun k=>C k∨k=d) W ⟨q.1,fun k hk=>?_⟩ ?_)
  ·rcases hk with hk|rfl
   ·exact q.2 k hk
   ·exact .inr ⟨hd,kW E⟩
  ·exact hi.append (aP.one ⟨fun k=>_root_.Iff.rfl,E⟩) (fun k hk e=>a0 (e▸hk))
 ·rintro d c pre e post C W G q ⟨b,hb,hi⟩ hd a0 E
  refine V d c pre e post b G hb _ W ⟨ha.1,by rw[←ha.2.1],ha.2.2⟩ (I _ (fun k=>C k∨k=d) W ⟨q.1,fun k hk=>?_⟩ ?_)
  ·rcases hk with hk|rfl
   ·exact q.2 k hk
   ·exact .inr ⟨hd,kW E⟩
  ·exact hi.append (aP.one ⟨fun k=>_root_.Iff.rfl,E⟩) (fun k hk e=>a0 (e▸hk))
end
end
def iW:List Nat→Bool
 |[]=>true
 |x::l=>!l.contains x&&iW l
theorem vc:∀ {l:List Nat},iW l=true→l.Nodup
 |[],_=>List.nodup_nil
 |x::l,h=>by
  simp only[iW,aN,cM] at h
  exact iP.2 ⟨by have:=h.1;simpa using this,vc h.2⟩
open Classical in
noncomputable def dl (D:Nat→Prop):List (Nat×Nat×Value)→List (Nat×Value)
 |[]=>[]
 |(i,t,v)::r=>if D i then (t,v)::dl D r else dl D r
theorem B4 {D:Nat→Prop} {σ:List (Nat×Value)}:∀ {l:List (Nat×Nat×Value)} {m i t:Nat} {v:Value},(l.map (fun p=>p.2.1)).Nodup→l[m]?=some (i,t,v)→D i→(dl D l++σ).lookup t=some v
 |[],m,i,t,v,_,hm,_=>by simp at hm
 |(i',t',v')::r,0,i,t,v,hu,hm,hd=>by
  simp at hm
  obtain⟨rfl,rfl,rfl⟩:=hm
  simp[dl,hd]
 |(i',t',v')::r,m+1,i,t,v,hu,hm,hd=>by
  simp only[av,iP] at hu
  have q:r[m]?=some (i,t,v):=by simpa using hm
  have G:=B4 (σ:=σ) hu.2 q hd
  have E:(t==t')=false:=by
   have:t∈r.map (fun p=>p.2.1):=aS.2 ⟨_,aL q,rfl⟩
   simp;rintro rfl;exact hu.1 this
  simp only[dl]
  split
  ·simp only[bq,dP,E];exact G
  ·exact G
theorem jG {D:Nat→Prop} {σ:List (Nat×Value)} {l:List (Nat×Nat×Value)} {m i t:Nat} {v:Value} (hu:iW (l.map (fun p=>p.2.1))=true) (hm:l[m]?=some (i,t,v)) (hd:D i):(dl D l++σ).lookup t=some v:=B4 (vc hu) hm hd
theorem zbA {D:Nat→Prop} {σ:List (Nat×Value)} {t:Nat} {v:Value}:∀ {l:List (Nat×Nat×Value)},(l.map (fun p=>p.2.1)).contains t=false→σ.lookup t=some v→(dl D l++σ).lookup t=some v
 |[],_,h=>h
 |(i',t',v')::r,hc,h=>by
  simp only[av,gl,bI] at hc
  have q:=zbA (D:=D) hc.2 h
  simp only[dl]
  split
  ·simp only[bq,dP,hc.1];exact q
  ·exact q
theorem FE {D:Nat→Prop} {σ:List (Nat×Value)} {t:Nat}:∀ {l:List (Nat×Nat×Value)},(l.map (fun p=>p.2.1)).contains t=false→(dl D l++σ).lookup t=σ.lookup t
 |[],_=>rfl
 |(i',t',v')::r,hc=>by
  simp only[av,gl,bI] at hc
  have q:=FE (D:=D) (σ:=σ) hc.2
  simp only[dl]
  split
  ·simp only[bq,dP,hc.1];exact q
  ·exact q
theorem FF {D:Nat→Prop} {σ:List (Nat×Value)} {q:List (Nat×Nat×Value)} {m i t:Nat} {v:Value} (hu:(q.map (fun p=>p.2.1)).Nodup) (hi:(q.map (fun p=>p.1)).Nodup) (hm:q[m]?=some (i,t,v)) :
  qn ((t,v)::(dl D q++σ)) (dl (fun j=>D j∨j=i) q++σ):=by
 have key:∀ (l:List (Nat×Nat×Value)) (s:Nat) (u:Value),(∀p∈l,p.1=i→p.2.1=t∧p.2.2=v)→(∀p∈l,p.2.1=t→p.1=i)→(Go.Proofs.YtifpjbgnikjglaaGreatDoor.dl (fun j=>D j∨j=i) l++σ).lookup s=some u→s≠t→(Go.Proofs.YtifpjbgnikjglaaGreatDoor.dl D l++σ).lookup s=some u:=by
  intro l
  induction l with
  |nil=>intro s u _ _ h _;exact h
  |cons p l I=>
   obtain⟨T,t',V⟩:=p
   intro s u h1 h2 h E
   have I:=fun h=>I s u (fun p hp=>h1 p (ak _ hp)) (fun p hp=>h2 p (ak _ hp)) h E
   simp only[Go.Proofs.YtifpjbgnikjglaaGreatDoor.dl] at h ⊢
   by_cases hd:D T
   ·rw[ax (.inl hd)] at h
    rw[ax hd]
    simp only[bq,dP] at h ⊢
    split at h
    ·exact h
    ·exact I h
   ·rw[ap hd]
    by_cases H:T=i
    ·rw[ax (.inr H)] at h
     obtain⟨h3,_⟩:=h1 _ (aq ..) H
     have U:t'=t:=h3
     simp only[bq,dP] at h
     split at h
     ·rename_i e
      exact absurd ((by simpa using e:s=t').trans U) E
     ·exact I h
    ·rw[ap (by rintro (h | h);exact hd h;exact H h)] at h
     exact I h
 have h1:∀p∈q,p.1=i→p.2.1=t∧p.2.2=v:=by
  intro p hp e
  obtain⟨n,J⟩:=gR.1 hp
  have e1:(q.map (fun p=>p.1))[n]?=some i:=by simp[J,e]
  have e2:(q.map (fun p=>p.1))[m]?=some i:=by simp[hm]
  have O:n<(q.map (fun p=>p.1)).length:=(az.1 e1).1
  have:=(sW O hi).1 (e1.trans e2.symm)
  subst this
  rw[J] at hm;cases hm;exact⟨rfl,rfl⟩
 have h2:∀p∈q,p.2.1=t→p.1=i:=by
  intro p hp e
  obtain⟨n,J⟩:=gR.1 hp
  have e1:(q.map (fun p=>p.2.1))[n]?=some t:=by simp[J,e]
  have e2:(q.map (fun p=>p.2.1))[m]?=some t:=by simp[hm]
  have O:n<(q.map (fun p=>p.2.1)).length:=(az.1 e1).1
  have:=(sW O hu).1 (e1.trans e2.symm)
  subst this
  rw[J] at hm;cases hm;rfl
 intro a N dfs ha
 refine⟨ha.1,ha.2.1,fun s u M=>?_⟩
 by_cases G:s=t
 ·subst G
  have:=B4 (σ:=σ) (D:=fun j=>D j∨j=i) hu hm (.inr rfl)
  rw[this] at M;cases M
  exact ha.2.2 _ _ (by simp[dP])
 ·refine ha.2.2 s u ?_
  have E:(s==t)=false:=by simpa using G
  simp only[dP,E]
  exact key q s u h1 h2 M G
theorem FG {D:Nat→Prop} {i:Nat}:∀ {l:List (Nat×Nat×Value)},(l.map (fun p=>p.1)).contains i=false→dl (fun j=>D j∨j=i) l=dl D l
 |[],_=>rfl
 |(i',t',v')::r,hc=>by
  simp only[av,gl,bI] at hc
  have E:=FG (D:=D) hc.2
  have q:¬i'=i:=by have:=hc.1;simp at this;exact fun h=>this h.symm
  simp only[dl,E]
  by_cases hd:D i'
  ·rw[ax (.inl hd),ax hd]
  ·rw[ap hd,ap (by rintro (h | h);exact hd h;exact q h)]
theorem vd:∀ {D:Nat→Prop} {l:List (Nat×Nat×Value)},(∀p∈l,D p.1)→dl D l=l.map (fun p=>p.2)
 |D,[],_=>rfl
 |D,(i',t',v')::r,h=>by
  simp only[dl,av]
  rw[ax (h _ (aq ..)),vd (fun p hp=>h p (ak _ hp))]
theorem zH:∀ {l:List (Nat×Nat×Value)},dl (fun _=>False) l=[]
 |[]=>rfl
 |(i',t',v')::r=>by simp[dl,zH]
def ve (acc:List (List Nat)) (o:Oper):List (List Nat):=acc++[(jo o++(jo o).flatMap (fun j=>acc.getD j [])).eraseDups]
def qU (l:List Oper):List (List Nat):=l.foldl ve []
def vf (l:List Oper) (n:Nat):Bool:=((qU l).zipIdx.drop n).all fun p=>(List.range p.2).all fun j=>p.1.contains j
def FH (l:List Oper) (acc:List (List Nat)):Prop :=
 ∀i o,i<acc.length→l[i]?=some o→∀j∈acc.getD i [],∀ (D:Nat→Prop),(∀k q,l[k]?=some q→D k→∀j∈jo q,D j)→(∀j∈jo o,D j)→D j
theorem B5:∀ (l done:List Oper) (acc:List (List Nat)),acc.length=done.length→FH (done++l) acc→(l.foldl ve acc).length=(done++l).length∧FH (done++l) (l.foldl ve acc)
 |[],done,acc,hl,hB=>⟨by simpa using hl,hB⟩
 |o::l,done,acc,hl,hB=>by
  have:=B5 l (done++[o]) (ve acc o) (by simp[ve,hl]) (by
   rw[aB]
   intro i T hi H j hj D O hd
   unfold ve at hi hj
   by_cases E:i<acc.length
   ·rw[cB,fK E] at hj
    exact hB i T E H j (by rw[cB];exact hj) D O hd
   ·have M:i=acc.length:=by simp at hi;omega
    subst M
    have G:o=T:=by rw[hl] at H;simpa using H
    subst G
    rw[cB] at hj
    simp only[List.getElem?_concat_length,Option.getD_some,List.mem_eraseDups,bH,gD] at hj
    rcases hj with hj|⟨k,hk,hj⟩
    ·exact hd j hj
    ·have J:=hd k hk
     by_cases I:k<acc.length
     ·obtain⟨ok,q⟩:∃ok,(done++o::l)[k]?=some ok:=⟨_,aO (by simp;omega)⟩
      exact hB k ok I q j hj D O (O k ok q J)
     ·rw[cB,gU (by omega)] at hj
      simp at hj)
  rwa [aB] at this
theorem B6 (l:List Oper):(qU l).length=l.length:=(B5 l [] [] rfl (fun i o h=>by simp at h)).1
theorem FI (l:List Oper) (i:Nat) (o:Oper) (E:l[i]?=some o):∀j∈(qU l).getD i [],∀ (D:Nat→Prop),(∀k q,l[k]?=some q→D k→∀j∈jo q,D j)→(∀j∈jo o,D j)→D j :=
 (B5 l [] [] rfl (fun i o h=>by simp at h)).2 i o (by have:=B6 l;unfold qU at this;rw[this];exact (az.1 E).1) E
section
variable {F:Fence} {P:Program} {w0:World} {K:Nat→Prop} {N:Nat} {dfs:List Deferred} {Q:Exit→Act→World→Prop} {σ:List (Nat×Value)} {L:List Asn}
def bW (F:Fence) (P:Program) (w0:World) (K:Nat→Prop) (N:Nat) (dfs:List Deferred) (Q:Exit→Act→World→Prop) (ops:Array Oper) (σ:List (Nat×Value)) (L:List Asn) (l:List (Nat×Nat×Value)):List Oper→Nat→Prop
 |[],_=>True
 |o::rest,i=>(∀D:Nat→Prop,¬D i→(∀j∈jo o,D j)→Clo ops D→iW (l.map (fun p=>p.2.1))=true→iW (l.map (fun p=>p.1))=true →
   TO F P w0 K N dfs ops (_root_.Go.Exit.then (fun a w=>At N dfs (dl (fun j=>D j∨j=i) l++σ) a∧Holds w0 K L w) Q) [o] (dl D l++σ) L)∧bW F P w0 K N dfs Q ops σ L l rest (i+1)
theorem bW.nil {ops:Array Oper} {l:List (Nat×Nat×Value)} {i:Nat}:bW F P w0 K N dfs Q ops σ L l [] i:=trivial
theorem zae {ops:Array Oper} {l:List (Nat×Nat×Value)} {o:Oper} {rest:List Oper} {i:Nat} (h:∀D:Nat→Prop,¬D i→(∀j∈jo o,D j)→Clo ops D→iW (l.map (fun p=>p.2.1))=true→iW (l.map (fun p=>p.1))=true →
   TO F P w0 K N dfs ops (_root_.Go.Exit.then (fun a w=>At N dfs (dl (fun j=>D j∨j=i) l++σ) a∧Holds w0 K L w) Q) [o] (dl D l++σ) L) (q:bW F P w0 K N dfs Q ops σ L l rest (i+1)) :
  bW F P w0 K N dfs Q ops σ L l (o::rest) i:=⟨h,q⟩
theorem bW.get {ops:Array Oper} {q:List (Nat×Nat×Value)}:∀ {l:List Oper} {k:Nat},bW F P w0 K N dfs Q ops σ L q l k→∀i o,l[i]?=some o→∀D:Nat→Prop,¬D (k+i)→(∀j∈jo o,D j)→Clo ops D→iW (q.map (fun p=>p.2.1))=true→iW (q.map (fun p=>p.1))=true →
   TO F P w0 K N dfs ops (_root_.Go.Exit.then (fun a w=>At N dfs (dl (fun j=>D j∨j=k+i) q++σ) a∧Holds w0 K L w) Q) [o] (dl D q++σ) L
 |[],k,_,i,o,h=>by simp at h
 |x::l,k,h,0,o,ho=>by simp at ho;subst ho;exact h.1
 |x::l,k,h,i+1,o,ho=>by
  have:=bW.get h.2 i o (by simpa using ho)
  rwa [show k+1+i=k+(i+1) by omega] at this
theorem zJ {ops:Array Oper} {l:List (Nat×Nat×Value)} {D:Nat→Prop} (m:Nat) {i t:Nat} {v:Value} (hu:iW (l.map (fun p=>p.2.1))=true) (hi:iW (l.map (fun p=>p.1))=true) (hm:l[m]?=some (i,t,v)) :
  TO F P w0 K N dfs ops (_root_.Go.Exit.then (fun a w=>At N dfs (Go.Proofs.YtifpjbgnikjglaaGreatDoor.dl (fun j=>D j∨j=i) l++σ) a∧Holds w0 K L w) Q) [] ((t,v)::(Go.Proofs.YtifpjbgnikjglaaGreatDoor.dl D l++σ)) L:=fun a w ha q=>⟨FF (vc hu) (vc hi) hm _ _ _ ha,q⟩
theorem LH {ops:Array Oper} {l:List (Nat×Nat×Value)} {D:Nat→Prop} {i:Nat} (h:(l.map (fun p=>p.1)).contains i=false) :
  TO F P w0 K N dfs ops (_root_.Go.Exit.then (fun a w=>At N dfs (dl (fun j=>D j∨j=i) l++σ) a∧Holds w0 K L w) Q) [] (dl D l++σ) L:=fun a w ha q=>⟨by rw[FG h];exact ha,q⟩
theorem lI {ops:Array Oper} {S:List (Nat×Value)} {j t:Nat} {b:Bool} (hj:(ops[j]?).bind (·.dst)=some t) (h:S.lookup t=some (.bool b)):gd ops S (some (j,b))=some true:=by
 simp[gd,hj,h]
theorem VZ {ops:Array Oper} {S:List (Nat×Value)} {j t:Nat} {b:Bool} (hj:(ops[j]?).bind (·.dst)=some t) (h:S.lookup t=some (.bool (!b))):gd ops S (some (j,b))=some false:=by
 simp[gd,hj,h]
theorem V0 {ops:Array Oper} {S:List (Nat×Value)} {j t:Nat} {b:Bool} (hj:(ops[j]?).bind (·.dst)=some t) (h:S.lookup t=some undef):gd ops S (some (j,b))=some false:=by
 simp[gd,hj,h,undef]
theorem LK {id:Nat} {pre tail:List Oper} (E:List (Nat×Nat×Value)) (hm:P.follows .mixedOrders=true)
  (a7:((pre++tail).zipIdx.all fun (o,i)=>(jo o).all fun j=>decide (j<i))=true) (hT:vf (pre++tail) pre.length=true)
  (hval:E.all (fun p=>decide (p.1<pre.length))=true) (hu:iW (E.map (fun p=>p.2.1))=true) (hi:iW (E.map (fun p=>p.1))=true)
  (ao:bW F P w0 K N dfs Q (pre++tail).toArray σ L E pre 0)
  (O:TO F P w0 K N dfs (pre++tail).toArray Q tail (E.map (fun p=>p.2)++σ) L):TC F P w0 K N dfs Q (.region id (pre++tail).toArray true) σ L:=by
 intro a w ha hw
 have a2:∀ (D:Nat→Prop),Clo (pre++tail).toArray D→∀i o,pre.length≤i→(pre++tail)[i]?=some o→(∀j∈jo o,D j)→∀j<i,D j:=by
  intro D G i o hi M hd j hj
  have aw:=B6 (pre++tail)
  have a0:i<(qU (pre++tail)).length:=by rw[aw];exact (az.1 M).1
  have h1:=bd.1 hT ((qU (pre++tail))[i],i) (by
   rw[gR]
   refine⟨i-pre.length,?_⟩
   rw[gm,show pre.length+(i-pre.length)=i by omega,kw,aO a0];simp)
  have h2:=bd.1 h1 j (by simpa using hj)
  have h3:j∈(qU (pre++tail)).getD i []:=by
   rw[cB,aO a0];simpa using h2
  exact FI _ i o M j h3 D (fun k o' hk=>G k o' (by simpa using hk)) hd
 obtain⟨J,hJ⟩:∃J:(Nat→Prop)→Act→World→Prop,J=(fun D a w=>Clo (pre++tail).toArray D∧((∃k,0<k∧(∀j,D j↔j<pre.length+k)∧wpListIn F 0 P (pre++tail).toArray Q (tail.drop k) a w)∨((∀j,D j→j<pre.length)∧At N dfs (dl D E++σ) a∧Holds w0 K L w))):=⟨_,rfl⟩
 refine BV hm (by simpa using a7) J (by subst hJ;exact
  ⟨fun i o _ h=>h.elim,.inr ⟨fun _ h=>h.elim,by rw[zH];exact ha,hw.drew⟩⟩) ?_ ?_
 ·have all:∀ (l:List Oper) (k:Nat),(∀i o,l[i]?=some o→(pre++tail)[k+i]?=some o)→fZ F 0 P (pre++tail).toArray Q J l k:=by
   intro l
   induction l with
   |nil=>intro k _;trivial
   |cons o l ih=>
    intro k hl
    refine⟨?_,ih (k+1) (fun i o' a5=>by have:=hl (i+1) o' (by simpa using a5);rwa [show k+1+i=k+(i+1) by omega])⟩
    have M:(pre++tail)[k]?=some o:=hl 0 o rfl
    subst hJ
    rintro D a w hn hd ⟨G,hI⟩
    have V:Clo (pre++tail).toArray (fun j=>D j∨j=k):=G.add (by simpa using M) hd
    have tl:∀ (m:Nat),(∀j,D j↔j<pre.length+m)→wpListIn F 0 P (pre++tail).toArray Q (tail.drop m) a w→pre.length≤k →
      wpListIn F 0 P (pre++tail).toArray (_root_.Go.Exit.then (fun a w=>Clo (pre++tail).toArray (fun j=>D j∨j=k)∧((∃W,0<W∧(∀j,(D j∨j=k)↔j<pre.length+W)∧wpListIn F 0 P (pre++tail).toArray Q (tail.drop W) a w)∨((∀j,(D j∨j=k)→j<pre.length)∧At N dfs (dl (fun j=>D j∨j=k) E++σ) a∧Holds w0 K L w))) Q) [o] a w:=by
     intro m H q hk
     have bh:k=pre.length+m:=by
      have h1:¬k<pre.length+m:=fun h=>hn ((H k).2 h)
      have h2:=a2 D G k o hk M hd
      by_cases h3:pre.length+m<k
      ·have:=(H _).1 (h2 _ h3);omega
      ·omega
     have Z:tail.drop m=o::tail.drop (m+1):=by
      rw[fT hk,show k-pre.length=m by omega] at M
      obtain⟨h1,h2⟩:=az.1 M
      rw[←h2];exact bB h1
     rw[Z] at q
     have ag:∀a' w',wpListIn F 0 P (pre++tail).toArray Q (tail.drop (m+1)) a' w'→(Clo (pre++tail).toArray (fun j=>D j∨j=k)∧((∃W,0<W∧(∀j,(D j∨j=k)↔j<pre.length+W)∧wpListIn F 0 P (pre++tail).toArray Q (tail.drop W) a' w')∨((∀j,(D j∨j=k)→j<pre.length)∧At N dfs (dl (fun j=>D j∨j=k) E++σ) a'∧Holds w0 K L w'))) :=
      fun a' w' h=>⟨V,.inl ⟨m+1,by omega,fun j=>by rw[H];omega,h⟩⟩
     have a1:wpListIn F 0 P (pre++tail).toArray (_root_.Go.Exit.then (wpListIn F 0 P (pre++tail).toArray Q (tail.drop (m+1))) Q) [o] a w:=by
      simp only[wpListIn] at q ⊢
      split
      ·rename_i Y
       rw[ax Y] at q
       unfold oW at q ⊢
       refine⟨q.1,?_⟩
       have T:=q.2
       generalize (o.semAt F.round a.eval).run P w=r at *
       cases r with
       |ok x w'=>
        cases x<;>simp only[gp] at T ⊢ <;>
         first
          |exact T
          |exact⟨T.1,k9 T.2 (fun e a3 he=>by cases e<;>exact he)⟩
          |exact⟨T.1,mb T.2 (fun _ _ he=>he)⟩
          |exact⟨T.1,lc T.2 (fun e a3 he=>by cases e<;>exact he)⟩
       |halt x w'=>cases x<;>simp only[gp] at T ⊢<;>exact T
      ·rename_i Y
       rw[ap Y] at q
       exact q
     exact qm ag a1
    rcases hI with⟨m,a6,H,q⟩|⟨H,I,U⟩
    ·refine tl m H q ?_
     have:¬k<pre.length+m:=fun h=>hn ((H k).2 h)
     omega
    ·by_cases hk:k<pre.length
     ·have a4:pre[k]?=some o:=by rw[fK hk] at M;exact M
      have:=ao.get k o a4 D (by rwa [bL]) hd G hu hi a w I U
      rw[bL] at this
      refine qm (fun a' w' h=>⟨V,.inr ⟨fun j hj=>?_,h.1,h.2⟩⟩) this
      rcases hj with hj|rfl
      ·exact H j hj
      ·exact hk
     ·have hall:=a2 D G k o (by omega) M hd
      have bk:k=pre.length:=by
       by_cases h:pre.length<k
       ·have:=H _ (hall _ h);omega
       ·omega
      have bb:∀j,D j↔j<pre.length+0:=fun j=>⟨fun h=>by have:=H j h;omega,fun h=>hall j (by omega)⟩
      refine tl 0 bb ?_ (by omega)
      rw[jY]
      refine O a w ?_ U
      rw[vd (fun p hp=>hall _ (by have:=bd.1 hval p hp;simp at this;omega))] at I
      exact I
  exact all _ 0 (fun i o M=>by simpa using M)
 ·subst hJ
  rintro D a w H ⟨G,hI⟩
  have hsz:(pre++tail).toArray.size=pre.length+tail.length:=by simp
  rcases hI with⟨m,a6,a9,q⟩|⟨a8,I,U⟩
  ·have:tail.length≤m:=by
    by_cases h:m<tail.length
    ·have:=(a9 (pre.length+m)).1 (H _ (by rw[hsz];omega));omega
    ·omega
   rw[de this] at q
   exact q
  ·have Z:tail=[]:=by
    rcases tail with _|⟨o,tail⟩
    ·rfl
    ·have:=a8 pre.length (H _ (by rw[hsz];simp));omega
   subst Z
   rw[vd (fun p hp=>H _ (by have:=bd.1 hval p hp;simp at this;rw[hsz];omega))] at I
   exact O a w I U
theorem FJ {D:Nat→Prop} {t:Nat} {v:Value}:∀ {l:List (Nat×Nat×Value)},(l.map (fun p=>p.2.1)).contains t=false→qn ((t,v)::(Go.Proofs.YtifpjbgnikjglaaGreatDoor.dl D l++σ)) (Go.Proofs.YtifpjbgnikjglaaGreatDoor.dl D l++((t,v)::σ)):=by
 intro l hc a N dfs ha
 refine⟨ha.1,ha.2.1,fun s u G=>ha.2.2 s u ?_⟩
 by_cases q:s=t
 ·subst q
  rw[FE hc] at G
  simpa [dP] using G
 ·have E:(s==t)=false:=by simpa using q
  have:∀ (vs:List (Nat×Nat×Value)),(Go.Proofs.YtifpjbgnikjglaaGreatDoor.dl D vs++((t,v)::σ)).lookup s=(Go.Proofs.YtifpjbgnikjglaaGreatDoor.dl D vs++σ).lookup s:=by
   intro vs
   induction vs with
   |nil=>simp[Go.Proofs.YtifpjbgnikjglaaGreatDoor.dl,dP,E]
   |cons p vs H=>
    obtain⟨i,t',I⟩:=p
    simp only[Go.Proofs.YtifpjbgnikjglaaGreatDoor.dl]
    split
    ·simp only[bq,dP,H]
    ·exact H
  rw[this] at G
  simp only[dP,E];exact G
theorem zK {ops:Array Oper} {Q:Exit→Act→World→Prop} {o:Oper} {r:List Oper} {a:Act} {w:World} (l:wpListIn F 0 P ops Q (o::r) a w):wpListIn F 0 P ops (_root_.Go.Exit.then (wpListIn F 0 P ops Q r) Q) [o] a w:=by
 simp only[wpListIn] at l ⊢
 split
 ·rename_i D
  rw[ax D] at l
  unfold oW at l ⊢
  refine⟨l.1,?_⟩
  have q:=l.2
  generalize (o.semAt F.round a.eval).run P w=r at *
  cases r with
  |ok x w'=>
   cases x<;>simp only[gp] at q ⊢ <;>
    first
     |exact q
     |exact⟨q.1,k9 q.2 (fun e E he=>by cases e<;>exact he)⟩
     |exact⟨q.1,mb q.2 (fun _ _ he=>he)⟩
     |exact⟨q.1,lc q.2 (fun e E he=>by cases e<;>exact he)⟩
  |halt x w'=>cases x<;>simp only[gp] at q ⊢<;>exact q
 ·rename_i D
  rw[ap D] at l
  exact l
theorem FK {l:List Oper} {n:Nat} (J:vf l n=true):∀ (D:Nat→Prop),Clo l.toArray D→∀i o,n≤i→l[i]?=some o→(∀j∈jo o,D j)→∀j<i,D j:=by
 intro D G i o hi H hd j hj
 have q:=B6 l
 have E:i<(qU l).length:=by rw[q];exact (az.1 H).1
 have h1:=bd.1 J ((qU l)[i],i) (by
  rw[gR]
  refine⟨i-n,?_⟩
  rw[gm,show n+(i-n)=i by omega,kw,aO E];simp)
 have h2:=bd.1 h1 j (by simpa using hj)
 have h3:j∈(qU l).getD i []:=by
  rw[cB,aO E];simpa using h2
 exact FI _ i o H j h3 D (fun k I hk=>G k I (by simpa using hk)) hd
def c9 (F:Fence) (P:Program) (w0:World) (K:Nat→Prop) (N:Nat) (dfs:List Deferred) (Q:Exit→Act→World→Prop) (ops:Array Oper) (σ:List (Nat×Value)) (L:List Asn) (l:List (Nat×Nat×Value)) (e:Nat):List Oper→Nat→Prop
 |[],_=>True
 |o::rest,i=>(i≠e→∀D:Nat→Prop,¬D i→(∀j∈jo o,D j)→Clo ops D→iW (l.map (fun p=>p.2.1))=true→iW (l.map (fun p=>p.1))=true →
   TO F P w0 K N dfs ops (_root_.Go.Exit.then (fun a w=>At N dfs (dl (fun j=>D j∨j=i) l++σ) a∧Holds w0 K L w) Q) [o] (dl D l++σ) L)∧c9 F P w0 K N dfs Q ops σ L l e rest (i+1)
theorem c9.nil {ops:Array Oper} {l:List (Nat×Nat×Value)} {e i:Nat}:c9 F P w0 K N dfs Q ops σ L l e [] i:=trivial
theorem gE {ops:Array Oper} {l:List (Nat×Nat×Value)} {o:Oper} {rest:List Oper} {e i:Nat} (h:∀D:Nat→Prop,¬D i→(∀j∈jo o,D j)→Clo ops D→iW (l.map (fun p=>p.2.1))=true→iW (l.map (fun p=>p.1))=true →
   TO F P w0 K N dfs ops (_root_.Go.Exit.then (fun a w=>At N dfs (dl (fun j=>D j∨j=i) l++σ) a∧Holds w0 K L w) Q) [o] (dl D l++σ) L) (q:c9 F P w0 K N dfs Q ops σ L l e rest (i+1)) :
  c9 F P w0 K N dfs Q ops σ L l e (o::rest) i:=⟨fun _=>h,q⟩
theorem td {ops:Array Oper} {l:List (Nat×Nat×Value)} {o:Oper} {rest:List Oper} {e:Nat} (q:c9 F P w0 K N dfs Q ops σ L l e rest (e+1)) :
  c9 F P w0 K N dfs Q ops σ L l e (o::rest) e:=⟨fun h=>absurd rfl h,q⟩
theorem c9.get {ops:Array Oper} {q:List (Nat×Nat×Value)} {e:Nat}:∀ {l:List Oper} {k:Nat},c9 F P w0 K N dfs Q ops σ L q e l k→∀i o,l[i]?=some o→k+i≠e→∀D:Nat→Prop,¬D (k+i)→(∀j∈jo o,D j)→Clo ops D→iW (q.map (fun p=>p.2.1))=true→iW (q.map (fun p=>p.1))=true →
   TO F P w0 K N dfs ops (_root_.Go.Exit.then (fun a w=>At N dfs (dl (fun j=>D j∨j=k+i) q++σ) a∧Holds w0 K L w) Q) [o] (dl D q++σ) L
 |[],k,_,i,o,h=>by simp at h
 |x::l,k,h,0,o,ho=>by simp at ho;subst ho;exact h.1
 |x::l,k,h,i+1,o,ho=>by
  have:=c9.get h.2 i o (by simpa using ho)
  rwa [show k+1+i=k+(i+1) by omega] at this
theorem zL {id:Nat} {l:List Oper} {β:Type} (n e:Nat) (o:Oper) (E:List (Nat×Nat×Value)) (s1:β→List (Nat×Value)) (L1:β→List Asn) (hm:P.follows .mixedOrders=true)
  (a9:(l.zipIdx.all fun (o,i)=>(jo o).all fun j=>decide (j<i))=true) (hT:vf l n=true) (ho:l[e]?=some o) (b3:e<n) (a7:n≤l.length)
  (hval:E.all (fun p=>decide (p.1<n)&&p.1 != e)=true) (hu:iW (E.map (fun p=>p.2.1))=true) (hi:iW (E.map (fun p=>p.1))=true)
  (aw:c9 F P w0 K N dfs Q l.toArray σ L E e (l.take n) 0) (ag:∀b,c9 F P w0 K N dfs Q l.toArray (s1 b++σ) (L1 b) E e (l.take n) 0)
  (a2:∀D:Nat→Prop,¬D e→(∀j∈jo o,D j)→Clo l.toArray D→TO F P w0 K N dfs l.toArray (_root_.Go.Exit.then (fun a w=>∃b,At N dfs (dl D E++(s1 b++σ)) a∧Holds w0 K (L1 b) w) Q) [o] (dl D E++σ) L)
  (V:∀b,TO F P w0 K N dfs l.toArray Q (l.drop n) (E.map (fun p=>p.2)++(s1 b++σ)) (L1 b)):TC F P w0 K N dfs Q (.region id l.toArray true) σ L:=by
 intro a w ha hw
 have a3:=FK hT
 have b4:e<l.length:=(az.1 ho).1
 obtain⟨J,hJ⟩:∃J:(Nat→Prop)→Act→World→Prop,J=(fun D a w=>Clo l.toArray D∧((∃k,n<k∧(∀j,D j↔j<k)∧wpListIn F 0 P l.toArray Q (l.drop k) a w) ∨
  ((∀j,D j→j<n)∧((¬D e∧At N dfs (dl D E++σ) a∧Holds w0 K L w)∨(D e∧∃b,At N dfs (dl D E++(s1 b++σ)) a∧Holds w0 K (L1 b) w))))):=⟨_,rfl⟩
 have bk:∀ (D:Nat→Prop),dl (fun j=>D j∨j=e) E=dl D E:=fun D=>by
  have:∀ (vs:List (Nat×Nat×Value)),vs.all (fun p=>decide (p.1<n)&&p.1 != e)=true→dl (fun j=>D j∨j=e) vs=dl D vs:=by
   intro vs
   induction vs with
   |nil=>intro _;rfl
   |cons p vs ih=>
    obtain⟨i,t,v⟩:=p
    intro h
    simp only[List.all_cons,aN,decide_eq_true_eq,du,ne_eq] at h
    simp only[dl,ih h.2]
    by_cases hd:D i
    ·rw[ax (.inl hd),ax hd]
    ·rw[ap hd,ap (by rintro (h' | h');exact hd h';exact h.1.2 h')]
  exact this E hval
 have ao:∀p∈E,p.1<n:=fun p hp=>by
  have:=bd.1 hval p hp;simp only[aN,decide_eq_true_eq] at this;exact this.1
 refine BV hm (by simpa using a9) J (by subst hJ;exact⟨fun i o _ h=>h.elim,.inr ⟨fun _ h=>h.elim,.inl ⟨fun h=>h,by rw[zH];exact ha,hw.drew⟩⟩⟩) ?_ ?_
 ·have all:∀ (m:List Oper) (k:Nat),(∀i o,m[i]?=some o→l[k+i]?=some o)→fZ F 0 P l.toArray Q J m k:=by
   intro m
   induction m with
   |nil=>intro k _;trivial
   |cons q m ih=>
    intro k hl
    refine⟨?_,ih (k+1) (fun i o' a6=>by have:=hl (i+1) o' (by simpa using a6);rwa [show k+1+i=k+(i+1) by omega])⟩
    have Z:l[k]?=some q:=hl 0 q rfl
    subst hJ
    rintro D a w hn hd ⟨T,Y⟩
    have O:Clo l.toArray (fun j=>D j∨j=k):=T.add (by simpa using Z) hd
    have b2:k<l.length:=(az.1 Z).1
    have W:l.drop k=q::l.drop (k+1):=by
     obtain⟨h1,h2⟩:=az.1 Z
     rw[←h2];exact bB h1
    rcases Y with⟨m,a8,U,M⟩|⟨U,Y⟩
    ·have bb:k=m:=by
      have h1:¬k<m:=fun h=>hn ((U k).2 h)
      have h2:=a3 D T k q (by omega) Z hd
      by_cases h3:m<k
      ·have:=(U _).1 (h2 _ h3);omega
      ·omega
     subst bb
     rw[W] at M
     refine qm (fun a' w' h=>⟨O,.inl ⟨k+1,by omega,fun j=>?_,h⟩⟩) (zK M)
     show D j∨j=k↔_
     rw[U];omega
    ·by_cases hk:k<n
     ·by_cases a1:k=e
      ·subst a1
       have a5:q=o:=by rw[ho] at Z;exact (mo Z).symm
       subst a5
       rcases Y with⟨G,H,I⟩|⟨G,_⟩
       ·refine qm (fun a' w' h=>⟨O,.inr ⟨fun j hj=>?_,.inr ⟨.inr rfl,?_⟩⟩⟩) (a2 D G hd T a w H I)
        ·rcases hj with hj|rfl
         ·exact U j hj
         ·exact hk
        ·rw[bk];exact h
       ·exact absurd G hn
      ·have a0:(l.take n)[k]?=some q:=by rw[oy hk];exact Z
       rcases Y with⟨G,H,I⟩|⟨G,b,H,I⟩
       ·have:=aw.get k q a0 (by omega) D (by rwa [bL]) hd T hu hi a w H I
        rw[bL] at this
        refine qm (fun a' w' h=>⟨O,.inr ⟨fun j hj=>?_,.inl ⟨?_,h.1,h.2⟩⟩⟩) this
        ·rcases hj with hj|rfl
         ·exact U j hj
         ·exact hk
        ·rintro (h | h)
         ·exact G h
         ·exact a1 h.symm
       ·have:=(ag b).get k q a0 (by omega) D (by rwa [bL]) hd T hu hi a w H I
        rw[bL] at this
        refine qm (fun a' w' h=>⟨O,.inr ⟨fun j hj=>?_,.inr ⟨.inl G,b,h.1,h.2⟩⟩⟩) this
        rcases hj with hj|rfl
        ·exact U j hj
        ·exact hk
     ·have hall:=a3 D T k q (by omega) Z hd
      have bh:k=n:=by
       by_cases h:n<k
       ·have:=U _ (hall _ h);omega
       ·omega
      subst bh
      rcases Y with⟨G,_⟩|⟨G,b,H,I⟩
      ·exact absurd (hall e (by omega)) G
      ·have M:wpListIn F 0 P l.toArray Q (l.drop k) a w:=by
        refine V b a w ?_ I
        rw[vd (fun p hp=>hall _ (ao p hp))] at H
        exact H
       rw[W] at M
       refine qm (fun a' w' h=>⟨O,.inl ⟨k+1,by omega,fun j=>?_,h⟩⟩) (zK M)
       refine⟨fun hj=>?_,fun hj=>?_⟩
       ·rcases hj with hj|rfl
        ·have:=U j hj;omega
        ·omega
       ·by_cases h:j=k
        ·exact .inr h
        ·exact .inl (hall j (by omega))
  exact all _ 0 (fun i o ho=>by simpa using ho)
 ·subst hJ
  rintro D a w U ⟨T,Y⟩
  have hsz:l.toArray.size=l.length:=by simp
  rcases Y with⟨m,a8,b0,M⟩|⟨bs,Y⟩
  ·have:l.length≤m:=by
    by_cases h:m<l.length
    ·have:=(b0 m).1 (U _ (by rw[hsz];omega));omega
    ·omega
   rw[de this] at M
   exact M
  ·have b1:l.length≤n:=by
    by_cases h:n<l.length
    ·have:=bs n (U _ (by rw[hsz];omega));omega
    ·omega
   rcases Y with⟨G,_⟩|⟨G,b,H,I⟩
   ·exact absurd (U e (by rw[hsz];omega)) G
   ·have a4:∀p∈E,p.1<l.length:=fun p hp=>eF (ao p hp) a7
    have:=V b a w (by
     rw[vd (fun p hp=>U _ (by rw[hsz];exact a4 p hp))] at H
     exact H) I
    rw[de (by omega)] at this
    exact this
theorem zdb {id:Nat} {l:List Oper} (n:Nat) (q:List (Nat×Nat×Value)) (hm:P.follows .mixedOrders=true)
  (I:(l.zipIdx.all fun (o,i)=>(jo o).all fun j=>decide (j<i))=true) (J:vf l n=true) (M:n≤l.length)
  (hval:q.all (fun p=>decide (p.1<n))=true) (hu:iW (q.map (fun p=>p.2.1))=true) (hi:iW (q.map (fun p=>p.1))=true)
  (E:bW F P w0 K N dfs Q l.toArray σ L q (l.take n) 0)
  (D:TO F P w0 K N dfs l.toArray Q (l.drop n) (q.map (fun p=>p.2)++σ) L):TC F P w0 K N dfs Q (.region id l.toArray true) σ L:=by
 have H:l.take n++l.drop n=l:=bO n l
 have G:(l.take n).length=n:=by rw[bw];omega
 have:=LK (id:=id) (pre:=l.take n) (tail:=l.drop n) (F:=F) (P:=P) (w0:=w0) (K:=K) (N:=N) (dfs:=dfs) (Q:=Q) (σ:=σ) (L:=L) q hm (by rw[H];exact I) (by rw[H,G];exact J) (by rw[G];exact hval) hu hi (by rw[H];exact E) (by rw[H];exact D)
 rwa [H] at this
theorem evL.nil {σ:List (Nat×Value)}:evL σ []=some []:=rfl
theorem evL.cons {σ:List (Nat×Value)} {x:Operand} {v:Value} {r:List Operand} {l:List Value} (h1:ev σ x=some v) (h2:evL σ r=some l):evL σ (x::r)=some (v::l):=by simp[evL,h1,h2]
theorem evP.nil {σ:List (Nat×Value)}:evP σ []=some []:=rfl
theorem evP.cons {σ:List (Nat×Value)} {i:Nat} {x:Operand} {v:Value} {r:List (Nat×Operand)} {l:List (Nat×Value)} (h1:ev σ x=some v) (h2:evP σ r=some l):evP σ ((i,x)::r)=some ((i,v)::l):=by simp[evP,h1,h2]
theorem xb {σ:List (Nat×Value)}:evO σ none=some none:=rfl
theorem evO.some {σ:List (Nat×Value)} {x:Operand} {v:Value} (h:ev σ x=some v):evO σ (some x)=some (some v):=by simp[evO,h]
end
section
variable {P:Program} {t:TypeId} {x y:Operand} {k:IntKind} {m n r:Int} {w:World} {a b:ae}
theorem ua {u v:Value} {m:Sem Value} (h:u=v) (hb:∀w:World,m.run P w=.ok u w) (w:World):m.run P w=.ok v w:=h▸hb w
theorem dE (h:k.wrap (m+n)=r) (w:World):(do eqGuard .add t x y (.int k m) (.int k n);binOp .add t (.int k m) (.int k n):Sem Value).run P w=.ok (.int k r) w:=by
 subst h;simp[eqGuard,binOp,rL,an]
theorem jH (h:k.wrap (m-n)=r) (w:World):(do eqGuard .sub t x y (.int k m) (.int k n);binOp .sub t (.int k m) (.int k n):Sem Value).run P w=.ok (.int k r) w:=by
 subst h;simp[eqGuard,binOp,rL,an]
theorem LN (h:k.wrap (m*n)=r) (w:World):(do eqGuard .mul t x y (.int k m) (.int k n);binOp .mul t (.int k m) (.int k n):Sem Value).run P w=.ok (.int k r) w:=by
 subst h;simp[eqGuard,binOp,rL,an]
theorem zbi (w:World):(do eqGuard .lss t x y (.int k m) (.int k n);binOp .lss t (.int k m) (.int k n):Sem Value).run P w=.ok (.bool (decide (m<n))) w:=by
 simp[eqGuard,binOp,lf,an]
theorem hQ (w:World):(do eqGuard .leq t x y (.int k m) (.int k n);binOp .leq t (.int k m) (.int k n):Sem Value).run P w=.ok (.bool (decide (m≤n))) w:=by
 simp[eqGuard,binOp,lf,an]
theorem zdV (w:World):(do eqGuard .gtr t x y (.int k m) (.int k n);binOp .gtr t (.int k m) (.int k n):Sem Value).run P w=.ok (.bool (decide (n<m))) w:=by
 simp[eqGuard,binOp,lf,an]
theorem zbF (w:World):(do eqGuard .geq t x y (.int k m) (.int k n);binOp .geq t (.int k m) (.int k n):Sem Value).run P w=.ok (.bool (decide (n≤m))) w:=by
 simp[eqGuard,binOp,lf,an]
theorem zbe (w:World):(do eqGuard .eql t x y (.int k m) (.int k n);binOp .eql t (.int k m) (.int k n):Sem Value).run P w=.ok (.bool (m==n)) w:=by
 simp[eqGuard,binOp,lf,an]
theorem zf8 (w:World):(do eqGuard .neq t x y (.int k m) (.int k n);binOp .neq t (.int k m) (.int k n):Sem Value).run P w=.ok (.bool (m != n)) w:=by
 simp[eqGuard,binOp,lf,an]
theorem LO (l:n≠0) (h:k.wrap (m.tdiv n)=r) (w:World):(do eqGuard .quo t x y (.int k m) (.int k n);binOp .quo t (.int k m) (.int k n):Sem Value).run P w=.ok (.int k r) w:=by
 subst h;simp[eqGuard,binOp,Op.intDiv,an,l]
theorem LP (l:n≠0) (h:m.tmod n=r) (w:World):(do eqGuard .rem t x y (.int k m) (.int k n);binOp .rem t (.int k m) (.int k n):Sem Value).run P w=.ok (.int k r) w:=by
 subst h;simp[eqGuard,binOp,Op.intDiv,an,l]
theorem FL (a b:ae):(a.toList==b.toList)=decide (a=b):=by
 by_cases h:a=b
 ·subst h;simp
 ·have:¬a.toList=b.toList:=fun e=>h (by
   have:a.data.toList=b.data.toList:=by rw[←mq,←mq];exact e
   exact _root_.ByteArray.ext (fv.1 this))
  simp[h,this]
theorem lx (h:a.size+b.size≤9223372036854775807) (w:World):(do eqGuard .add t x y (.string a) (.string b);binOp .add t (.string a) (.string b):Sem Value).run P w=.ok (.string (a++b)) w:=by
 have:¬(((a.size+b.size:Nat):Int) > IntKind.i64.max):=by
  show ¬(((a.size+b.size:Nat):Int) > 9223372036854775807);omega
 simp only[eqGuard,binOp,rM,an,iF,ci]
 rw[ap this];rfl
theorem zdn (w:World):(do eqGuard .eql t x y (.string a) (.string b);binOp .eql t (.string a) (.string b):Sem Value).run P w=.ok (.bool (decide (a=b))) w:=by
 rw[←FL];simp[eqGuard,binOp,rM,an]
theorem qV (w:World):(do eqGuard .neq t x y (.string a) (.string b);binOp .neq t (.string a) (.string b):Sem Value).run P w=.ok (.bool (!decide (a=b))) w:=by
 rw[←FL];simp[eqGuard,binOp,rM,an]
theorem jV {b:Bool} (w:World):(Op.unary .not (.bool b)).run P w=.ok (.bool (!b)) w:=rfl
theorem vg {s d:TypeId} {u:TypeDesc} {l:IntKind} (q:P.underlying s=some u) (hd:P.underlying d=some (.int l)) (h:l.wrap n=r) (w:World):(convert s d (.int k n)).run P w=.ok (.int l r) w:=by
 subst h
 cases u<;>simp[convert,run_underlying q,run_underlying hd,an,Conv.intToInt]
theorem lJ {s d:TypeId} {l:IntKind} (q:P.underlying s=some (.int l)) (hd:P.underlying d=some .string) (w:World):(convert s d (.int k n)).run P w=.ok (.string (ac n)) w:=by
 simp[convert,run_underlying q,run_underlying hd,an,Conv.intToString]
theorem LQ {i:Nat} (ht:P.underlying t=some .string) (hi:i<a.size) (w:World):(iT t (.string a) (.int .i64 i)).run P w=.ok (.int .u8 (a[i]'hi).toNat) w:=by
 have h1:a[i]?=some a[i]:=by simp[hi]
 simp[iT,asIntOf,run_underlying ht,an,h1]
theorem LR {lo hi:Option Value} {i j:Nat} (ht:P.underlying t=some .string) (l:lo=none∧i=0∨lo=some (.int .i64 i)) (q:hi=none∧j=a.size∨hi=some (.int .i64 j)) (h1:i≤j) (h2:j≤a.size) (w:World) :
  (gq t (.string a) lo hi none).run P w=.ok (.string (a.extract i j)) w:=by
 rcases l with⟨rfl,rfl⟩|rfl<;>rcases q with⟨rfl,rfl⟩|rfl <;>
  simp[gq,Instr.slice,jn,jj,asIntOf,run_underlying ht,an,h1,h2]
end
def vec {α:Type} (enc:α→List Value) (e:TypeId) (size:Nat) (v:Value) (xs:List α):Asn :=
 ⟨fun C w=>gZ enc e size v xs C w,fun h k hk=>h.lt k hk,fun h _ hk=>h.local hk⟩
def byt (e:TypeId) (v:Value) (b:ae):Asn:=⟨fun C w=>ki e v b C w,fun h k hk=>h.lt k hk,fun h _ hk=>h.local hk⟩
def gn:Value→Nat
 |.slice (some a) _ _=>a.block
 |_=>0
section
variable {F:Fence} {P:Program} {w0:World} {K:Nat→Prop} {N:Nat} {dfs:List Deferred} {ops:Array Oper} {Q:Exit→Act→World→Prop} {rest:List Oper} {σ σ':List (Nat×Value)} {L L' R As Bs:List Asn} {o:Oper} {v:Value}
 {d:Nat} {t:TypeId} {op:Op} {ty:TypeId} {pos:String} {aft:Array Edge} {g:Option (Nat×Bool)} {x y z:Operand} {c c1 c2:Code} {k:Nat} {A B:Asn} {RO:List (Nat×Obj)}
 {α:Type} {enc:α→List Value} {e:TypeId} {size:Nat} {xs:List α} {vv:Value}
theorem Holds.vec {w:World} (h:Holds w0 K L w) (hk:L[k]?=some (vec enc e size vv xs)):∃C,gZ enc e size vv xs C w:=by
 obtain⟨C1,h1,_⟩:=h.focus hk;exact⟨C1,h1⟩
theorem gZ.len {C:Nat→Prop} {w:World} (h:gZ enc e size vv xs C w):∃a c,vv=.slice a xs.length c:=by
 rcases h.shape with⟨rfl,rfl,_⟩|⟨g,cap,rfl,_⟩
 ·exact⟨none,0,rfl⟩
 ·exact⟨_,_,rfl⟩
theorem gZ.ptr {C:Nat→Prop} {w:World} (h:gZ enc e size vv xs C w) (l:xs≠[]):∃cap,vv=.slice (some ⟨gn vv,0,none⟩) xs.length cap:=by
 rcases h.shape with⟨_,h2,_⟩|⟨g,cap,rfl,_⟩
 ·exact absurd h2 l
 ·exact⟨cap,rfl⟩
theorem LS {w:World} (h:Holds w0 K L w) (hk:L[k]?=some (vec enc e size vv xs)):vv.oneCell'=true:=by
 obtain⟨C,hv⟩:=h.vec hk
 obtain⟨a,c,rfl⟩:=hv.len
 rfl
theorem mU (h:TC F P w0 K N dfs Q c σ (L++[vec enc e size (.slice none 0 0) ([]:List α)])):TC F P w0 K N dfs Q c σ L:=fun a w ha l=>
 h a w ha (l.grow (C':=fun _=>False) (cz.refl _ _) (aP.one (A:=vec enc e size (.slice none 0 0) ([]:List α)) gZ.nil))
theorem vh (h:TO F P w0 K N dfs ops Q rest σ (L++[vec enc e size (.slice none 0 0) ([]:List α)])):TO F P w0 K N dfs ops Q rest σ L:=fun a w ha l=>
 h a w ha (l.grow (C':=fun _=>False) (cz.refl _ _) (aP.one (A:=vec enc e size (.slice none 0 0) ([]:List α)) gZ.nil))
theorem gK [br F] {l:TypeId} {te:TypeId} (hg:gd ops σ g=some true) (hd:d<N) (hx:ev σ x=some vv) (hk:L[k]?=some (vec enc e size vv xs)) (ht:P.underlying l=some (.slice te))
  (h:TO F P w0 K N dfs ops Q rest ((d,.int .i64 xs.length)::σ) L):TO F P w0 K N dfs ops Q (⟨some d,.call { callee:=.builtin .len,args:=#[x],argTypes:=#[l] },ty,pos,aft,g⟩::rest) σ L :=
 jl hg hd (by simp) (fun a w ha D=>by
  obtain⟨C,hv⟩:=D.vec hk
  obtain⟨q,G,E⟩:=hv.len
  have:=ha.ev hx
  simp[execOp,resolve,invoke,builtin,this,E,jk,run_underlying ht,an,goInt]) h
theorem zcX [br F] {l:TypeId} {s:ae} (hg:gd ops σ g=some true) (hd:d<N) (hx:ev σ x=some (.string s)) (ht:P.underlying l=some .string)
  (h:TO F P w0 K N dfs ops Q rest ((d,.int .i64 s.size)::σ) L):TO F P w0 K N dfs ops Q (⟨some d,.call { callee:=.builtin .len,args:=#[x],argTypes:=#[l] },ty,pos,aft,g⟩::rest) σ L :=
 jl hg hd (by simp) (fun a w ha q=>by
  have:=ha.ev hx
  simp[execOp,resolve,invoke,builtin,this,jk,run_underlying ht,an,goInt]) h
theorem gZ.cellAt {C:Nat→Prop} {w:World} (hz:∀x,(enc x).length=size) (h:gZ enc e size vv xs C w) {i j:Nat} {q:α} {u:Value} (l:xs[i]?=some q) (hj:j<size) (hu:(enc q)[j]?=some u):w.cell? ⟨gn vv,i*size+j,none⟩=some u:=by
 obtain⟨cap,he⟩:=h.ptr (by intro h;simp[h] at l)
 generalize hb:gn vv=bb at he
 subst he
 exact h.cell hz rfl l hj hu
theorem gZ.frozenAt {C:Nat→Prop} {w:World} (h:gZ enc e size vv xs C w) (l:xs≠[]) (j:Nat):w.frozen? ⟨gn vv,j,none⟩=false:=by
 obtain⟨cap,he⟩:=h.ptr l
 generalize hb:gn vv=bb at he
 subst he
 exact h.frozen rfl j
theorem fW [br F] {i j off:Nat} {q:α} (G:lh P t) (hz:∀x,(enc x).length=size) (hg:gd ops σ g=some true) (hd:d<N) (hx:ev σ x=some (.pointer (some ⟨gn vv,off,none⟩))) (hk:L[k]?=some (vec enc e size vv xs))
  (D:xs[i]?=some q) (E:off=i*size+j) (hj:j<size) (hv:(enc q)[j]?=some v) (h:TO F P w0 K N dfs ops Q rest ((d,v)::σ) L) :
  TO F P w0 K N dfs ops Q (⟨some d,.load t x,ty,pos,aft,g⟩::rest) σ L:=by
 subst E
 obtain⟨dd,hu,hr⟩:=G
 refine jl hg hd (by simp) (fun a w ha l=>?_) h
 obtain⟨C,hV⟩:=l.vec hk
 have hc:=hV.cellAt hz D hj hv
 have h1:=ha.ev hx
 cases dd<;>simp_all [execOp,kf,eo,loadVar,isAgg,an,run_underlying hu]
theorem mz [br F] {i j off n:Nat} {q:α} {cs:List Value} (J:ol P t n) (hz:∀x,(enc x).length=size) (hg:gd ops σ g=some true) (hd:d<N) (hx:ev σ x=some (.pointer (some ⟨gn vv,off,none⟩))) (hk:L[k]?=some (vec enc e size vv xs))
  (G:xs[i]?=some q) (H:off=i*size+j) (D:((enc q).drop j).take n=cs) (l:cs.length=n)
  (h:TO F P w0 K N dfs ops Q rest ((d,.agg cs.toArray)::σ) L):TO F P w0 K N dfs ops Q (⟨some d,.load t x,ty,pos,aft,g⟩::rest) σ L:=by
 subst H;subst l
 obtain⟨dd,hu,hr,hi⟩:=J
 refine jl hg hd (by simp) (fun a w ha E=>?_) h
 obtain⟨C,hV⟩:=E.vec hk
 have hc:w.rangeAt (gn vv) (i*size+j) cs:=fun n u l=>by
  rw[←D] at l
  rw[iI] at l
  split at l
  ·rw[gm] at l
   have I:j+n<size:=by rw[←hz q];exact (az.1 l).1
   have:=hV.cellAt hz G I l
   rwa [←Nat.add_assoc] at this
  ·cases l
 simp only[execOp,ha.ev hx,an,run_loadAt_mid w _ _ t cs dd hc hu hr hi];rfl
theorem oF [br F] {i j off:Nat} {q q':α} (T:bx P t 1) (hz:∀x,(enc x).length=size) (hg:gd ops σ g=some true) (hx:ev σ x=some (.pointer (some ⟨gn vv,off,none⟩))) (hy:ev σ y=some v) (hk:L[k]?=some (vec enc e size vv xs))
  (I:xs[i]?=some q) (O:off=i*size+j) (hj:j<size) (hv:enc q'=(enc q).set j v) (G:∀w,Holds w0 K L w→v.oneCell'=true)
  (h:TO F P w0 K N dfs ops Q rest σ (L.set k (vec enc e size vv (xs.set i q')))):TO F P w0 K N dfs ops Q (⟨none,.store t x y,ty,pos,aft,g⟩::rest) σ L:=by
 subst O
 obtain⟨V,hi,hsz⟩:=T.some
 refine zE hg (by simp) fun a w ha J=>?_
 have h1:=G w J
 obtain⟨C,hV,D⟩:=J.focus hk
 obtain⟨u,hu⟩:∃u,(enc q)[j]?=some u:=⟨_,aO (by rw[hz];exact hj)⟩
 have E:xs≠[]:=by intro h;simp[h] at I
 have l:gZ enc e size vv xs C w:=hV
 have hc:=l.cellAt hz I hj hu
 have hf:=l.frozenAt E (i*size+j)
 have H:v.cells=#[v]:=by cases v<;>simp_all [pJ,ny]
 refine⟨w.setCell ⟨gn vv,i*size+j,none⟩ v,by
  simp[execOp,ha.ev hx,ha.ev hy,Instr.storeAt,eo,storeVar,sizeOf,typeInfo,hi,hsz,H,storeCells,an,run_store _ _ _ _ _ h1,hc,hf,iz],h _ _ ha (D _ C _ ?_ ?_)⟩
 ·obtain⟨cap,he⟩:=l.ptr E
  refine (cz.refl _ _).setCell ?_ _
  obtain⟨M,rfl⟩:=l
  rw[he];rfl
 ·obtain⟨cap,he⟩:=l.ptr E
  generalize hb:gn vv=bb at *
  subst he
  obtain⟨M,U⟩:=l
  exact⟨(Rw.stored hz M I hj q' hv).1,U⟩
def dH (P:Program) (e:TypeId) (size:Nat):Prop:=∃ (i:TypeInfo) (l:Value),P.info? e=some i∧i.zero=some l∧i.size=size∧l.cells.size=size∧0<size∧i.bytes≤65536
def kX (P:Program) (e:TypeId):Prop:=∃i:TypeInfo,P.info? e=some i∧i.zero=some (.int .u8 0)∧i.size=1∧i.bytes=1
theorem dH.mk' {P:Program} {e:TypeId} {size:Nat} (h:(P.info? e).bind (fun i=>i.zero.map (fun z=>(i.size,z.cells.size,decide (0<i.size),decide (i.bytes≤65536))))=some (size,size,true,true)):dH P e size:=by
 cases hi:P.info? e with
 |none=>simp[hi] at h
 |some i=>
  cases hz:i.zero with
  |none=>simp[hi,hz] at h
  |some z=>
   simp[hi,hz] at h
   obtain⟨h1,h2,h3,l⟩:=h
   exact⟨i,z,hi,hz,h1,h2,by omega,l⟩
theorem kX.mk' {P:Program} {e:TypeId} (h:(P.info? e).map (fun i=>(i.zero,i.size,i.bytes))=some (some (.int .u8 0),1,1)):kX P e:=by
 cases hi:P.info? e with
 |none=>simp[hi] at h
 |some i=>simp[hi] at h;exact⟨i,hi,h.1,h.2.1,h.2.2⟩
theorem fE [br F] {ps:List (Nat×Operand)} {vs:List (Nat×Value)} {te n:Nat} {cs:List Value} (hg:gd ops σ g=some true) (hd:d<N) (hx:evP σ ps=some vs)
  (hb:∀w:World,(Instr.buildSlice t n vs.toArray).run P w=.ok (.slice (some ⟨w.heap.size,0,none⟩) n n) (w.alloc (.cells cs.toArray te)))
  (h:∀b,TO F P w0 K N dfs ops Q rest ((d,.slice (some ⟨b,0,none⟩) n n)::σ) (L++[cells b cs te])) :
  TO F P w0 K N dfs ops Q (⟨some d,.buildSlice t n ps.toArray,ty,pos,aft,g⟩::rest) σ L :=
 nS hg (by simp) fun a w ha l=>⟨.slice (some ⟨w.heap.size,0,none⟩) n n,w.alloc (.cells cs.toArray te),by
  have:=hb w
  simp only[execOp,eR,ha.evP hx,an,this];rfl,h _ _ _ (ha.put hd _) (l.alloc _)⟩
theorem iC [br F] {s:Operand} {k2 b m cap:Nat} {H:TypeId} {ys:List α} {te:TypeId} {cs:List Value} (ht:P.underlying H=some (.slice e)) (W:dH P e size) (G:∀x,(enc x).length=size) (h1:∀x,∀u∈enc x,u.oneCell'=true) (hg:gd ops σ g=some true) (hd:d<N) (U:ev σ s=some vv) (hx:ev σ x=some (.slice (some ⟨b,0,none⟩) m cap))
  (hk:L[k]?=some (vec enc e size vv xs)) (J:L[k2]?=some (cells b cs te)) (hm:m=ys.length) (M:cs=ys.flatMap enc)
  (V:xs.length+ys.length≤2147483648)
  (h:∀E,TO F P w0 K N dfs ops Q rest ((d,E)::σ) (L.set k (vec enc e size E (xs++ys)))) :
  TO F P w0 K N dfs ops Q (⟨some d,.call { callee:=.builtin .append,args:=#[s,x],argTypes:=#[H,H] },ty,pos,aft,g⟩::rest) σ L:=by
 subst hm;subst M
 obtain⟨i,T,hi,hz,D,I,hsz,l⟩:=W
 refine nS hg (by simp) fun a w ha O=>?_
 have hb:=O.obj J
 obtain⟨C,hV,q⟩:=O.focus hk
 obtain⟨E,w',hr,C',h2,h3⟩:=Lm (P:=P) w H ty e i T i.bytes ht hi hz D rfl I hsz G h1 vv xs C hV ys b cap te (0,0) hb V l
 refine⟨E,w',?_,h E _ _ (ha.put hd _) (q _ C' w' h3 h2)⟩
 simp[execOp,resolve,invoke,builtin,ha.ev U,ha.ev hx,hr,an]
theorem Holds.byt {w:World} {b:ae} (h:Holds w0 K L w) (hk:L[k]?=some (byt e vv b)):∃C,ki e vv b C w:=by
 obtain⟨C1,h1,_⟩:=h.focus hk;exact⟨C1,h1⟩
theorem FM {w:World} {b:ae} (h:Holds w0 K L w) (hk:L[k]?=some (byt e vv b)):vv.oneCell'=true:=by
 obtain⟨C,hv⟩:=h.byt hk
 rcases hv.shape with⟨rfl,_⟩|⟨g,cap,l,rfl,_⟩<;>rfl
theorem ub [br F] {sl:Operand} {E u:TypeId} {b s:ae} (ht:P.underlying E=some (.slice e)) (hu:P.underlying u=some .string) (M:kX P e) (hg:gd ops σ g=some true) (hd:d<N) (I:ev σ sl=some vv) (hx:ev σ x=some (.string s))
  (hk:L[k]?=some (byt e vv b)) (J:b.size+s.size≤140737488355328)
  (h:∀D,TO F P w0 K N dfs ops Q rest ((d,D)::σ) (L.set k (byt e D (b++s)))) :
  TO F P w0 K N dfs ops Q (⟨some d,.call { callee:=.builtin .append,args:=#[sl,x],argTypes:=#[E,u] },ty,pos,aft,g⟩::rest) σ L:=by
 obtain⟨i,hi,hz,q,G⟩:=M
 refine nS hg (by simp) fun a w ha H=>?_
 obtain⟨C,hV,l⟩:=H.focus hk
 obtain⟨D,w',hr,C',h2,h3⟩:=Fs (P:=P) w E u ty e i ht hu hi hz q G vv b C hV s J
 refine⟨D,w',?_,h D _ _ (ha.put hd _) (l _ C' w' h3 h2)⟩
 simp[execOp,resolve,invoke,builtin,ha.ev I,ha.ev hx,hr,an]
theorem zM [br F] {sl:Operand} {E:TypeId} {b ys:ae} {k2 J m cap:Nat} {te:TypeId} {cs:List Value} (ht:P.underlying E=some (.slice e)) (U:kX P e) (hg:gd ops σ g=some true) (hd:d<N) (O:ev σ sl=some vv) (hx:ev σ x=some (.slice (some ⟨J,0,none⟩) m cap))
  (hk:L[k]?=some (byt e vv b)) (G:L[k2]?=some (cells J cs te)) (H:cs=strCells ys) (hm:m=ys.size) (T:b.size+ys.size≤140737488355328)
  (h:∀D,TO F P w0 K N dfs ops Q rest ((d,D)::σ) (L.set k (byt e D (b++ys)))) :
  TO F P w0 K N dfs ops Q (⟨some d,.call { callee:=.builtin .append,args:=#[sl,x],argTypes:=#[E,E] },ty,pos,aft,g⟩::rest) σ L:=by
 subst hm;subst H
 obtain⟨i,hi,hz,q,I⟩:=U
 refine nS hg (by simp) fun a w ha M=>?_
 have hb:=M.obj G
 obtain⟨C,hV,l⟩:=M.focus hk
 obtain⟨D,w',hr,C',h2,h3⟩:=Ln (P:=P) w E ty e i ht hi hz q I vv b C hV ys J cap te (0,0) hb T
 refine⟨D,w',?_,h D _ _ (ha.put hd _) (l _ C' w' h3 h2)⟩
 simp[execOp,resolve,invoke,builtin,ha.ev O,ha.ev hx,hr,an]
theorem qq [br F] {s:TypeId} {b:ae} (hg:gd ops σ g=some true) (hd:d<N) (hx:ev σ x=some vv) (hk:L[k]?=some (byt e vv b)) (q:P.underlying s=some (.slice e)) (he:P.underlying e=some (.int .u8)) (ht:P.underlying t=some .string)
  (h:TO F P w0 K N dfs ops Q rest ((d,.string b)::σ) L):TO F P w0 K N dfs ops Q (⟨some d,.convert s t x,ty,pos,aft,g⟩::rest) σ L :=
 jl hg hd (by simp) (fun a w ha l=>by
  obtain⟨C,hV⟩:=l.byt hk
  simp only[execOp,ha.ev hx,an,hV.conv s t q he ht];rfl) h
end
def B7 (l:Nat) (J:Act→World→Prop) (Q:Exit→Act→World→Prop):Exit→Act→World→Prop
 |.goto l',a,w=>l'=l∧J a w
 |e,a,w=>Q e a w
section
variable {P:Program} {b:Frame} {a:Act} {k:List Item} {cs:List Frame} {w:World}
theorem vi {c:Code}:step P (lone (b.atR a (.code (.scope c)::k)) cs w)=.next (lone (b.atR a (.code c::.inScope c::k)) cs w) :=
 step_lone_go (by simp[stepG,stepG.exec,Frame.atR])
theorem FN {c:Code}:step P (lone (b.atR a (.inScope c::k)) cs w)=.next (lone (b.atR a k) cs w) :=
 step_lone_go (by simp[stepG,stepG.exec,Frame.atR])
end
section
variable {F:Fence} {n:Nat} {P:Program} {Q:Exit→Act→World→Prop} {a:Act} {w:World}
theorem tf {I:Machine→Prop} {m:Machine} {b:Frame} {c:Code} {k:List Item} {cs:List Frame} {e:Exit} (q:∀l,e≠.goto l) (E:e≠.normal)
  (h:ArrivesIn I P m b (.inScope c::k) cs e a w):ArrivesIn I P m b k cs e a w:=by
 have hx:∀id,exitTo id (.inScope c::k)=exitTo id k:=fun id=>by simp[exitTo]
 cases e with
 |normal=>exact absurd rfl E
 |exit id=>exact⟨fun D hk=>h.1 D (by rw[hx];exact hk),fun hr hk=>h.2 hr (by rw[hx];exact hk)⟩
 |goto l=>exact absurd rfl (q l)
 |ret=>exact h
 |panic G=>exact h
 |outgrown=>exact h
theorem LU {c rest:Code} {l:Nat} (hf:findLabel c l=some rest) (J:Act→World→Prop) (first:c.wpIn F n P (B7 l J Q) a w)
  (I:∀a w,J a w→rest.wpIn F n P (Exit.noGoto Q) a w):(Code.scope c).wpIn F n P Q a w:=by
 intro b k cs M hb hr
 have h0:(lone (b.atR a (.code (.scope c)::k)) cs w).fenced P F:=fenced_calm hb hr rfl
 have hg:gotoIn l (.inScope c::k)=some (.code rest::.inScope c::k):=by simp[gotoIn,hf]
 obtain⟨e,G,E,D,q⟩:=first b (.inScope c::k) cs M hb hr
 cases e with
 |normal=>exact⟨.normal,G,E,D,.head h0 vi (nz q (.one (fenced_calm hb hr rfl) FN))⟩
 |goto l'=>
  obtain⟨rfl,T⟩:=D
  have h1:=StepsIn.head h0 vi (q.1 _ hg)
  obtain⟨e,O,H,D,q⟩:=I G E T b (.inScope c::k) cs M hb hr
  cases e with
  |normal=>exact⟨.normal,O,H,D,nz h1 (nz q (.one (fenced_calm hb hr rfl) FN))⟩
  |goto l=>exact D.elim
  |exit id=>exact⟨_,O,H,D,.of_steps h1 (tf (by simp) (by simp) q)⟩
  |ret=>exact⟨_,O,H,D,.of_steps h1 (tf (by simp) (by simp) q)⟩
  |panic U=>exact⟨_,O,H,D,.of_steps h1 (tf (by simp) (by simp) q)⟩
  |outgrown=>exact⟨_,O,H,D,.of_steps h1 (tf (by simp) (by simp) q)⟩
 |exit id=>exact⟨_,G,E,D,.of_steps (.one h0 vi) (tf (by simp) (by simp) q)⟩
 |ret=>exact⟨_,G,E,D,.of_steps (.one h0 vi) (tf (by simp) (by simp) q)⟩
 |panic U=>exact⟨_,G,E,D,.of_steps (.one h0 vi) (tf (by simp) (by simp) q)⟩
 |outgrown=>exact⟨_,G,E,D,.of_steps (.one h0 vi) (tf (by simp) (by simp) q)⟩
end
section
variable {F:Fence} {P:Program} {w0:World} {K:Nat→Prop} {N:Nat} {dfs:List Deferred} {Q:Exit→Act→World→Prop} {σ:List (Nat×Value)} {L R:List Asn} {c rest:Code}
theorem zvG {β:Type} {l:Nat} (I:β→Prop) (q:β→List (Nat×Value)) (D:β→List Asn) (hf:findLabel c l=some rest) (h1:TC F P w0 K N dfs (B7 l (Fz w0 K N dfs I q D) Q) c σ L)
  (h2:∀b,I b→TC F P w0 K N dfs (Exit.noGoto Q) rest (q b) (D b)):TC F P w0 K N dfs Q (.scope c) σ L:=fun a w ha E=>
 LU hf (Fz w0 K N dfs I q D) (h1 a w ha E) fun a w ⟨b,hb,h3,G⟩=>h2 b hb a w h3 G
theorem zN {l:Nat} {J:Act→World→Prop} {e:Exit} (q:∀l,e≠.goto l) (h:TX w0 K N dfs Q e σ L):TX w0 K N dfs (B7 l J Q) e σ L:=fun a w ha D=>by
 cases e<;>first|exact h a w ha D|exact absurd rfl (q _)
end
section
variable {F:Fence} {P:Program} {w0:World} {K:Nat→Prop} {N:Nat} {dfs:List Deferred} {ops:Array Oper} {Q:Exit→Act→World→Prop} {rest:List Oper} {σ:List (Nat×Value)} {L:List Asn} {c:Code}
 {α:Type} {enc:α→List Value} {k b e size:Nat} {cs:List Value}
theorem Holds.toVec {w:World} (ys:List α) (h:Holds w0 K L w) (hk:L[k]?=some (cells b cs e)) (q:∀x,(enc x).length=size) (l:cs=ys.flatMap enc) (hm:ys.length≤maxLen) :
  Holds w0 K (L.set k (Go.Proofs.YtifpjbgnikjglaaGreatDoor.vec enc e size (.slice (some ⟨b,0,none⟩) ys.length ys.length) ys)) w:=by
 obtain⟨C1,h1,h2,h3⟩:=h.focus' hk
 refine h3 _ C1 w (cz.refl _ _) ?_
 obtain⟨I,h5⟩:=h2
 have D:cs.length=ys.length*size:=by
  have H:∀zs:List α,(zs.flatMap enc).length=zs.length*size:=by
   intro zs
   induction zs with
   |nil=>simp
   |cons z zs E=>rw[aK,aa,q,E,List.length_cons,c6,jx,jN]
  rw[l];exact H ys
 have G:cs.take (ys.length*size)=cs:=by rw[←D];exact List.take_length
 refine⟨⟨by rw[←l];exact D,.inr ⟨b,ys.length,cs.toArray,rfl,cm _,h5,bi _,hm,by simpa using D,?_⟩⟩,?_⟩
 ·rw[←l];exact G
 ·funext j;simp_all [bR,eq_comm]
theorem mA (ys:List α) (hk:L[k]?=some (cells b cs e)) (l:∀x,(enc x).length=size) (q:cs=ys.flatMap enc) (hm:ys.length≤maxLen)
  (h:TO F P w0 K N dfs ops Q rest σ (L.set k (vec enc e size (.slice (some ⟨b,0,none⟩) ys.length ys.length) ys))):TO F P w0 K N dfs ops Q rest σ L:=fun a w ha D=>h a w ha (D.toVec ys hk l q hm)
end
section
variable {F:Fence} {P:Program} {w0:World} {K:Nat→Prop} {N:Nat} {dfs:List Deferred} {ops:Array Oper} {Q:Exit→Act→World→Prop} {rest:List Oper} {σ:List (Nat×Value)} {L:List Asn}
 {d:Nat} {t:TypeId} {ty:TypeId} {pos:String} {aft:Array Edge} {g:Option (Nat×Bool)} {x y:Operand} {k n:Nat} {e:TypeId} {size:Nat} {v vv:Value}
end
abbrev cp (x:Int):Prop:=-9223372036854775808≤x∧x≤9223372036854775807
abbrev fl (x:Int):Prop:=-2147483648≤x∧x≤2147483647
abbrev V1 (x:Int):Prop:=-32768≤x∧x≤32767
abbrev I8 (x:Int):Prop:=-128≤x∧x≤127
abbrev U8 (x:Int):Prop:=0≤x∧x≤255
abbrev V2 (x:Int):Prop:=0≤x∧x≤65535
abbrev V3 (x:Int):Prop:=0≤x∧x≤4294967295
abbrev V4 (x:Int):Prop:=0≤x∧x≤18446744073709551615
section
variable {R S:Type}
def aU (c:Prop) [Decidable c] (o:Option R):Option R:=if c then o else none
def aT (o:Option S) (f:S→Option R):Option R:=o.bind f
def aM (b:Bool) (x y:Option R):Option R:=cond b x y
def cn {T:Type} (t:T→Option R) (k:T):Option R:=t k
def zaC {T:Type} (bot:T) (step:T→T) (n:Nat):T:=Nat.rec bot (fun _ l=>step l) n
def zdw {T α:Type} (k:T) (step:α→T→T):List α→T
 |[]=>k
 |x::xs=>step x (zdw k step xs)
def zbC:Nat:=18446744073709551616
def zcx {α:Type} (xs:List α) (i:Int):Option α:=if 0≤i then xs[i.toNat]? else none
def jz (s:ae) (i:Int):Option Int:=if 0≤i then (s.data[i.toNat]?).map (fun c=>(c.toNat:Int)) else none
def cL (s:ae) (i j:Int):ae:=s.extract i.toNat j.toNat
def dM {α:Type} (s:List α) (i j:Int):List α:=(s.drop i.toNat).take (j.toNat-i.toNat)
variable {c:Prop} [Decidable c] {o:Option R} {r:R} {p:Option S} {f:S→Option R} {b:Bool} {x y:Option R}
theorem FO (h:aU c o=some r):c∧o=some r:=by
 unfold aU at h;split at h
 ·exact⟨‹c›,h⟩
 ·cases h
theorem FP (h:c):aU c o=o:=ax h
theorem LV (h:aT p f=some r):∃a,p=some a∧f a=some r:=Option.bind_eq_some_iff.1 h
theorem FQ {a:S} (h:p=some a):aT p f=f a:=by rw[h];rfl
theorem nG (hb:b=true) (h:aM b x y=some r):x=some r:=by subst hb;exact h
theorem nH (hb:b=false) (h:aM b x y=some r):y=some r:=by subst hb;exact h
theorem LW (hb:b=true):aM b x y=x:=by subst hb;rfl
theorem LY (hb:b=false):aM b x y=y:=by subst hb;rfl
theorem LZ {T:Type} {t:T→Option R} {k:T} (h:cn t k=some r):∃j,j=k∧t j=some r:=⟨k,rfl,h⟩
theorem FSz {T:Type} {bot:T} {step:T→T} {n:Nat}:zaC bot step (n+1)=step (zaC bot step n):=rfl
theorem xc {T α:Type} {k:T} {step:α→T→T}:zdw k step []=k:=rfl
theorem nI {T α:Type} {k:T} {step:α→T→T} {x:α} {xs:List α}:zdw k step (x::xs)=step x (zdw k step xs):=rfl
theorem eG {α:Prop} (h:(none:Option R)=some r):α:=by cases h
theorem ep {α:Type} {xs:List α} {i:Int} {q:α} (h:zcx xs i=some q):xs[i.toNat]?=some q:=by
 unfold zcx at h;split at h
 ·exact h
 ·cases h
theorem xd {α:Type} {xs:List α} {i:Int} {q:α} (h:zcx xs i=some q):0≤i∧i<xs.length:=by
 unfold zcx at h;split at h
 ·have:=(az.1 h).1;omega
 ·cases h
theorem gw {α:Type} {xs:List α} {i:Nat} {q:α} (h:xs[i]?=some q):zcx xs (i:Int)=some q:=by
 unfold zcx;rw[ax (by omega)];exact h
theorem zO {α:Type} {xs:List α} {i:Int} {n:Nat} {q:α} (l:i=n) (h:xs[n]?=some q):zcx xs i=some q:=by subst l;exact gw h
theorem B8 {s:ae} {i:Int} {n:Nat} (l:i=n) (h:n<s.size):jz s i=some ((s[n]'h).toNat:Int):=by
 subst l
 unfold jz;rw[ax (by omega)]
 have:s.data[n]?=some s[n]:=by
  rw[el (by exact h)];rfl
 simp[this]
theorem L0 {s:ae} {i v:Int} (h:jz s i=some v):∃n:Nat,∃l:n<s.size,i=n∧v=((s[n]'l).toNat:Int):=by
 unfold jz at h;split at h
 ·rename_i h0
  simp only[cS] at h
  obtain⟨c,hc,rfl⟩:=h
  obtain⟨q,he⟩:=c7.1 hc
  exact⟨i.toNat,q,by omega,by rw[←he];rfl⟩
 ·cases h
end
section
variable {F:Fence} {P:Program} {w0:World} {K:Nat→Prop} {N:Nat} {dfs:List Deferred} {ops:Array Oper} {Q:Exit→Act→World→Prop} {rest:List Oper} {σ σ':List (Nat×Value)} {L L' R As Bs:List Asn} {o:Oper} {v:Value}
 {d:Nat} {t:TypeId} {op:Op} {ty:TypeId} {pos:String} {aft:Array Edge} {g:Option (Nat×Bool)} {x y z:Operand} {c c1 c2 c3:Code} {k:Nat} {A B:Asn} {RO:List (Nat×Obj)}
 {α:Type} {enc:α→List Value} {e:TypeId} {size:Nat} {xs:List α} {vv:Value} {s:ae}
def B9 {β:Type} (w0:World) (K:Nat→Prop) (N:Nat) (I:β→Prop) (q:β→List Deferred) (l:β→List (Nat×Value)) (D:β→List Asn) (a:Act) (w:World):Prop:=∃b,I b∧St w0 K N (q b) (l b) (D b) a w
def FU:Nat→Code→Code
 |0,c=>c
 |n+1,.seq _ c=>FU n c
 |_+1,c=>c
theorem zaM {β:Type} (j:Nat) (hc:FU j c=.seq c2 c3) (I:β→Prop) (E:β→List Deferred) (q:β→List (Nat×Value)) (G:β→List Asn)
  (h1:(∀ {l:List Deferred} {σ':List (Nat×Value)} {L':List Asn},TC F P w0 K N l (_root_.Go.Exit.then (B9 w0 K N I E q G) Q) c2 σ' L'→TC F P w0 K N l Q (.seq c2 c3) σ' L')→TC F P w0 K N dfs Q c σ L)
  (h2:∀b,I b→TC F P w0 K N (E b) Q c3 (q b) (G b)):TC F P w0 K N dfs Q c σ L :=
 h1 fun h a w ha H=>by
  refine wpIn_seq (wpIn_mono (h a w ha H) ?_)
  intro e M w' D
  cases e with
  |normal=>obtain⟨b,hb,h3,J⟩:=D;exact h2 b hb M w' h3 J
  |_=>exact D
theorem cH {β:Type} {I:β→Prop} {q:β→List Deferred} {l:β→List (Nat×Value)} {D:β→List Asn} (b:β) (H:I b) (hd:dfs=q b) (E:qn σ (l b)) (hL:am L (D b) R) :
  TX w0 K N dfs (_root_.Go.Exit.then (B9 w0 K N I q l D) Q) .normal σ L:=fun a w ha G=>by subst hd;exact⟨b,H,E _ _ _ ha,G.weaken hL⟩
theorem vj {b:Bool} (ht:b=true→TC F P w0 K N dfs Q c σ L) (hf:b=false→TC F P w0 K N dfs Q c σ L):TC F P w0 K N dfs Q c σ L:=by
 cases b with
 |true=>exact ht rfl
 |false=>exact hf rfl
theorem oX {l:Value} (he:v=l) (h:TO F P w0 K N dfs ops Q rest ((d,l)::σ) L):TO F P w0 K N dfs ops Q rest ((d,v)::σ) L:=by subst he;exact h
theorem oY {i u:Int} (ht:P.underlying t=some .string) (h:jz s i=some u) (w:World):(iT t (.string s) (.int .i64 i)).run P w=.ok (.int .u8 u) w:=by
 obtain⟨n,l,rfl,rfl⟩:=L0 h
 exact LQ ht l w
theorem ka {lo hi:Option Value} {i j:Int} (ht:P.underlying t=some .string) (l:lo=none∧i=0∨lo=some (.int .i64 i)) (q:hi=none∧j=(s.size:Int)∨hi=some (.int .i64 j)) (h:0≤i∧i≤j∧j≤(s.size:Int)) (w:World) :
  (gq t (.string s) lo hi none).run P w=.ok (.string (cL s i j)) w:=by
 obtain⟨h1,h2,h3⟩:=h
 obtain⟨a,rfl⟩:∃a:Nat,i=a:=⟨i.toNat,by omega⟩
 obtain⟨b,rfl⟩:∃b:Nat,j=b:=⟨j.toNat,by omega⟩
 unfold cL
 refine LR (i:=a) (j:=b) ht ?_ ?_ (by omega) (by omega) w
 ·rcases l with⟨e,h⟩|h
  ·exact .inl ⟨e,by omega⟩
  ·exact .inr h
 ·rcases q with⟨e,h⟩|h
  ·exact .inl ⟨e,by omega⟩
  ·exact .inr h
def ly (k:IntKind) (a b:Int):Int:=k.wrap (a*2 ^ (min b.toNat k.bits))
def jW (k:IntKind) (a b:Int):Int:=a.fdiv (2 ^ (min b.toNat k.bits))
def zQ (k:IntKind) (a b:Int):Int:=k.wrap ((fM k.bits a &&& fM k.bits b).toNat:Int)
def lz (k:IntKind) (a b:Int):Int:=k.wrap ((fM k.bits a ||| fM k.bits b).toNat:Int)
theorem FV {k l:IntKind} {m n:Int} (q:0≤n) (w:World):(do eqGuard .shl t x y (.int k m) (.int l n);binOp .shl t (.int k m) (.int l n):Sem Value).run P w=.ok (.int k (ly k m n)) w:=by
 have:¬n<0:=by omega
 simp[eqGuard,binOp,Op.shift,an,this,ly]
theorem vk {k l:IntKind} {m n:Int} (q:0≤n) (w:World):(do eqGuard .shr t x y (.int k m) (.int l n);binOp .shr t (.int k m) (.int l n):Sem Value).run P w=.ok (.int k (jW k m n)) w:=by
 have:¬n<0:=by omega
 simp[eqGuard,binOp,Op.shift,an,this,jW]
theorem zDg {k:IntKind} {m n:Int} (w:World):(do eqGuard .and t x y (.int k m) (.int k n);binOp .and t (.int k m) (.int k n):Sem Value).run P w=.ok (.int k (zQ k m n)) w:=by
 simp[eqGuard,binOp,Op.intBits,an,zQ]
theorem zvA {k:IntKind} {m n:Int} (w:World):(do eqGuard .or t x y (.int k m) (.int k n);binOp .or t (.int k m) (.int k n):Sem Value).run P w=.ok (.int k (lz k m n)) w:=by
 simp[eqGuard,binOp,Op.intBits,an,lz]
theorem ziK {s d:TypeId} {u:TypeDesc} {k l:IntKind} {n:Int} (q:P.underlying s=some u) (hd:P.underlying d=some (.int l)) (w:World):(convert s d (.int k n)).run P w=.ok (.int l (l.wrap n)) w:=vg q hd rfl w
def Vw (vv:Value) (L:List α) (size k:Nat) (v:Value) (xs:List α):Prop :=
 k+xs.length≤L.length∧(L.drop k).take xs.length=xs∧∃q c,v=.slice q xs.length c∧xs.length≤c∧(xs≠[]→q=some ⟨gn vv,k*size,none⟩)
theorem Vw.get {Ls:List α} {v:Value} {i:Int} {q:α} (h:Vw vv Ls size k v xs) (l:zcx xs i=some q):Ls[k+i.toNat]?=some q:=by
 have h1:=ep l
 rw[←h.2.1,iI] at h1
 split at h1
 ·rwa [gm] at h1
 ·cases h1
theorem zR {w:World} (h:Holds w0 K L w) (hk:L[k]?=some (vec enc e size vv xs)):Vw vv xs size 0 vv xs:=by
 obtain⟨C,hv⟩:=h.vec hk
 refine⟨by omega,by simp,?_⟩
 rcases hv.shape with⟨rfl,rfl,_⟩|⟨g,cap,rfl,l⟩
 ·exact⟨none,0,rfl,bi _,fun h=>absurd rfl h⟩
 ·refine⟨some ⟨g,0,none⟩,cap,rfl,?_,fun _=>by simp[gn]⟩
  obtain⟨q,_⟩:=hv
  rcases q.2 with⟨h1,_⟩|⟨b,c,D,h1,_,_,h2,_⟩
  ·cases h1
  ·cases h1;exact h2
theorem kj (hk:L[k]?=some (vec enc e size vv xs)) (h:Vw vv xs size 0 vv xs→TO F P w0 K N dfs ops Q rest σ L):TO F P w0 K N dfs ops Q rest σ L:=fun a w ha l=>h (zR l hk) a w ha l
theorem zS (hk:L[k]?=some (vec enc e size vv xs)) (h:Vw vv xs size 0 vv xs→TC F P w0 K N dfs Q c σ L):TC F P w0 K N dfs Q c σ L:=fun a w ha l=>h (zR l hk) a w ha l
theorem zbV [br F] {l te:TypeId} {Ls:List α} {j:Nat} (hV:Vw vv Ls size j v xs) (hg:gd ops σ g=some true) (hd:d<N) (hx:ev σ x=some v) (ht:P.underlying l=some (.slice te))
  (h:TO F P w0 K N dfs ops Q rest ((d,.int .i64 (xs.length:Int))::σ) L):TO F P w0 K N dfs ops Q (⟨some d,.call { callee:=.builtin .len,args:=#[x],argTypes:=#[l] },ty,pos,aft,g⟩::rest) σ L :=
 jl hg hd (by simp) (fun a w ha E=>by
  obtain⟨_,_,q,c,D,_⟩:=hV
  have:=ha.ev hx
  simp[execOp,resolve,invoke,builtin,this,D,jk,run_underlying ht,an,goInt]) h
theorem fm [br F] {Ls:List α} {j off:Nat} {i:Int} {q:α} (hV:Vw vv Ls size j v xs) (G:zcx xs i=some q) (ht:P.underlying t=some (.slice e)) (J:bx P e size) (hg:gd ops σ g=some true) (hd:d<N) (hx:ev σ x=some v) (hy:ev σ y=some (.int .i64 i))
  (H:(j+i.toNat)*size=off)
  (h:TO F P w0 K N dfs ops Q rest ((d,.pointer (some ⟨gn vv,off,none⟩))::σ) L):TO F P w0 K N dfs ops Q (⟨some d,.indexAddr t x y,ty,pos,aft,g⟩::rest) σ L:=by
 obtain⟨M,hu,E⟩:=J.some
 subst H;subst E
 obtain⟨h0,I⟩:=xd G
 obtain⟨n,rfl⟩:∃n:Nat,i=n:=⟨i.toNat,by omega⟩
 refine jl hg hd (by simp) (fun a w ha O=>?_) h
 obtain⟨_,_,q',c,l,_,hp⟩:=hV
 have hp:=hp (by intro h;simp[h] at I;omega)
 subst hp;subst l
 have h1:=ha.ev hx;have h2:=ha.ev hy
 have D:n<xs.length:=by omega
 simp[execOp,Instr.indexAt,h1,h2,asIntOf,run_underlying ht,an,D,sizeOf,typeInfo,hu,iz,c6]
theorem eY [br F] {off:Nat} {i:Int} {q:α} (l:zcx xs i=some q) (ht:P.underlying t=some (.slice e)) (E:bx P e size) (hg:gd ops σ g=some true) (hd:d<N) (hx:ev σ x=some vv) (hy:ev σ y=some (.int .i64 i)) (hk:L[k]?=some (vec enc e size vv xs))
  (D:i.toNat*size=off)
  (h:TO F P w0 K N dfs ops Q rest ((d,.pointer (some ⟨gn vv,off,none⟩))::σ) L):TO F P w0 K N dfs ops Q (⟨some d,.indexAddr t x y,ty,pos,aft,g⟩::rest) σ L :=
 kj hk fun hV=>fm hV l ht E hg hd hx hy (by rw[bL];exact D) h
theorem L2 {l:List α} {i j:Int} (h:0≤i∧i≤j∧j≤(l.length:Int)):((dM l i j).length:Int)=j-i:=by
 unfold dM;rw[bw,aR];omega
theorem om {lo hi:Option Value} {Ls:List α} {m:Nat} {i j:Int} (hV:Vw vv Ls size m v xs) (ht:P.underlying t=some (.slice e)) (Y:bx P e size)
  (G:lo=none∧i=0∨lo=some (.int .i64 i)) (H:hi=none∧j=(xs.length:Int)∨hi=some (.int .i64 j)) (h:0≤i∧i≤j∧j≤(xs.length:Int)) :
  ∃I,Vw vv Ls size (m+i.toNat) I (dM xs i j)∧∀w:World,(gq t v lo hi none).run P w=.ok I w:=by
 obtain⟨J,hu,U⟩:=Y.some
 subst U
 obtain⟨hk,hL,q,c,V,hc,hp⟩:=hV
 subst V
 obtain⟨h1,h2,h3⟩:=h
 have hl:=L2 (l:=xs) ⟨h1,h2,h3⟩
 obtain⟨a,rfl⟩:∃a:Nat,i=a:=⟨i.toNat,by omega⟩
 obtain⟨b,rfl⟩:∃b:Nat,j=b:=⟨j.toNat,by omega⟩
 have D:(dM xs (a:Int) (b:Int)).length=b-a:=by omega
 refine⟨.slice (if c=a then q else q.map (·.add (a*J.size))) (b-a) (c-a),⟨by rw[D];simp only[bN];omega,?_,(if c=a then q else q.map (·.add (a*J.size))),c-a,by rw[D],by rw[D];omega,fun h=>?_⟩,fun w=>?_⟩
 ·rw[D]
  unfold dM
  simp only[bN]
  rw[show Ls.drop (m+a)=(Ls.drop m).drop a by rw[fa]]
  conv=>rhs;rw[←hL]
  rw[List.drop_take,List.take_take,Nat.min_eq_left (by omega)]
 ·have W:a<b:=by
   have:0<(dM xs (a:Int) (b:Int)).length:=cU.2 h
   omega
  have Z:=hp (by intro h;simp[h] at h3;omega)
  subst Z
  rw[ap (by omega)]
  simp[iz,c6]
 ·have e1:∀w:World,(jn true xs.length c lo hi none).run P w=.ok (a,b,c) w:=by
   intro w
   have T:b≤c:=by omega
   have O:a≤b:=by omega
   have M:¬c<b:=by omega
   have E:¬b<a:=by omega
   unfold jn
   rcases G with⟨rfl,h⟩|rfl<;>rcases H with⟨rfl,h'⟩|rfl
   ·have e1:a=0:=by omega
    have e2:b=xs.length:=by omega
    rw[e1,e2];simp[an]
   ·have e1:a=0:=by omega
    rw[e1];simp[an,jj,asIntOf,T,M]
   ·have e2:b=xs.length:=by omega
    rw[←e2];simp[an,jj,asIntOf,O,E]
   ·simp[an,jj,asIntOf,T,O,M,E]
  simp only[gq,Instr.slice,an,run_underlying ht,ci,e1]
  simp[sizeOf,typeInfo,hu,an]
end
def kl (k:IntKind) (x:Int):List Value:=[.int k x]
def vl (x:Bool):List Value:=[.bool x]
def gN (x:ae):List Value:=[.string x]
theorem jI {k:IntKind} (x:Int):(kl k x).length=1:=rfl
theorem vm (x:Bool):(vl x).length=1:=rfl
theorem gj (x:ae):(gN x).length=1:=rfl
theorem tg {k:IntKind} (x:Int):∀u∈kl k x,u.oneCell'=true:=by
 intro u hu
 simp only[kl,aY,cX,or_false] at hu
 rcases hu with rfl;rfl
theorem oG (x:ae):∀u∈gN x,u.oneCell'=true:=by
 intro u hu
 simp only[gN,aY,cX,or_false] at hu
 rcases hu with rfl;rfl
theorem L3 {L As:List Asn}:∀ (ks:List Nat),oE L ks=some As→rT ks=true→∀ {C1 C2:Nat→Prop} {w:World},aP As C1 w→aP (w7 L ks) C2 w→(∀k,C1 k→¬C2 k)→aP L (fun k=>C1 k∨C2 k) w:=by
 intro ks
 induction ks generalizing L As with
 |nil=>
  intro h _ C1 C2 w h1 h2 h3
  simp only[oE,fL] at h;subst h
  exact h2.congr (fun k=>⟨fun h=>h.resolve_left (h1 k),.inr⟩)
 |cons k ks G=>
  intro h hd C1 C2 w h1 h2 h3
  simp only[rT,aN,cM] at hd
  simp only[oE] at h
  split at h
  ·rename_i A D E H
   cases h
   obtain⟨M,J,e1,e2,I,q⟩:=h1
   have hk:k<L.length:=(az.1 E).1
   have:=G (L:=L.set k cy) (As:=D) (by rw[BW hd.1];exact H) hd.2 e2 (show aP (w7 (L.set k cy) ks) C2 w from h2) (fun j hj=>h3 j ((q j).2 (.inr hj)))
   have h5:=aP.put (C:=fun j=>C1 j∨C2 j) hk e1 this (fun j hj l=>by
    rcases l with h|h
    ·exact I j hj h
    ·exact h3 j ((q j).2 (.inl hj)) h) (fun j=>by rw[q,or_assoc])
   rwa [Fy E] at h5
  ·cases h
section
variable {F:Fence} {P:Program} {w0:World} {K:Nat→Prop} {N:Nat} {dfs:List Deferred} {ops:Array Oper} {Q:Exit→Act→World→Prop} {rest:List Oper} {σ σ':List (Nat×Value)} {L L' R As Bs:List Asn} {o:Oper} {v:Value}
 {d:Nat} {t:TypeId} {op:Op} {ty:TypeId} {pos:String} {aft:Array Edge} {g:Option (Nat×Bool)} {x y z:Operand} {c c1 c2 c3:Code} {k:Nat} {A B:Asn} {RO:List (Nat×Obj)}
 {α:Type} {enc:α→List Value} {e:TypeId} {size:Nat} {xs:List α} {vv:Value} {s:ae} {ex:Exit}
theorem oZ [br F] {xs:List Operand} {E:Array TypeId} {f:FuncId} {first cap:Array Value} {vs D:List Value}
  (hg:gd ops σ g=some true) (hd:d<N) (hx:ev σ x=some (.func (.func f) first cap)) (I:evL σ xs=some vs) (hv:first.toList++vs++cap.toList=D)
  (H:∀args w,(callFunc f args).run P w=.ok (.enter f args) w) (U:Fn P f D As (fun _:Unit=>v) (fun _=>As)) (ks:List Nat) (M:oE L ks=some As) (hk:rT ks=true)
  (h:TO F P w0 K N dfs ops Q rest ((d,v)::σ) L) :
  TO F P w0 K N dfs ops Q (⟨some d,.call { callee:=.value x,args:=xs.toArray,argTypes:=E },ty,pos,aft,g⟩::rest) σ L:=by
 intro a w ha T
 simp only[wpListIn,tX (o:=⟨some d,.call { callee:=.value x,args:=xs.toArray,argTypes:=E },ty,pos,aft,g⟩) ha hg,if_true]
 refine⟨fun f _=>br.fn f,?_⟩
 have h1:(execOp a.eval ⟨some d,.call { callee:=.value x,args:=xs.toArray,argTypes:=E },ty,pos,aft,g⟩).run P w=.ok (.enter f D.toArray) w:=by
  have e:first++vs.toArray++cap=D.toArray:=by rw[←hv];simp
  simp only[execOp,resolve,eR,ha.evL I,ha.ev hx,ls,an,iF,ci,invoke,e,H]
 rw[gX F _ _ (by simp),h1]
 refine⟨(fun h=>by rw[br.depth (F:=F)] at h;cases h),?_⟩
 obtain⟨C,hL,q⟩:=T
 obtain⟨C1,C2,V,J,O,g4⟩:=cg ks M hk C w hL
 refine br.calls ((U w C1 V).mono ?_)
 rintro e w' ⟨b,rfl,C',hB,l⟩
 refine h _ w' (ha.put hd _) ⟨fun j=>C' j∨C2 j,L3 ks M hk hB (J.loc l.1.size (fun k hk=>l.1.keep k (J.lt k hk) (fun h=>O k h hk))) (fun j hj G=>?_),?_,?_⟩
 ·rcases l.2 j hj with h|h
  ·exact O j h G
  ·have:=J.lt j G;omega
 ·exact q.1.trans' l.1 (fun i hi hc=>by
   rcases q.2 i ((g4 i).2 (.inl hc)) with h|h
   ·exact h
   ·omega)
 ·intro j hj
  have:=q.1.size
  have W:=l.1.size
  rcases hj with hj|hj
  ·rcases l.2 j hj with h|h
   ·rcases q.2 j ((g4 j).2 (.inl h)) with h|h
    ·exact .inl h
    ·exact .inr ⟨h.1,by omega⟩
   ·exact .inr ⟨by omega,h.2⟩
  ·rcases q.2 j ((g4 j).2 (.inr hj)) with h|h
   ·exact .inl h
   ·exact .inr ⟨h.1,by omega⟩
theorem xe (h:TX w0 K N dfs Q ex σ (L++[vec enc e size (.slice none 0 0) ([]:List α)])):TX w0 K N dfs Q ex σ L:=fun a w ha l=>
 h a w ha (l.grow (C':=fun _=>False) (cz.refl _ _) (aP.one (A:=vec enc e size (.slice none 0 0) ([]:List α)) gZ.nil))
theorem L4 (h:TX w0 K N dfs Q ex σ (L++[byt e (.slice none 0 0) ⟨#[]⟩])):TX w0 K N dfs Q ex σ L:=fun a w ha l=>
 h a w ha (l.grow (C':=fun _=>False) (cz.refl _ _) (aP.one (A:=byt e (.slice none 0 0) ⟨#[]⟩) ki.nil))
theorem Vw.one {Ls:List α} (h:Vw vv Ls size k v xs):v.oneCell'=true:=by
 obtain⟨_,_,q,c,rfl,_⟩:=h;rfl
theorem FW {l:TypeId} {a:Addr} {w:World} (ht:P.underlying t=some (.pointer l)):(Op.equal t (.pointer (some a)) (.pointer none)).run P w=.ok false w:=by
 have h:∀d,(fe (d+1) t (.pointer (some a)) (.pointer none)).run P w=.ok false w:=fun d=>by simp[fe,run_underlying ht]
 exact h 9999
theorem zmn {l:TypeId} {a:Addr} (ht:P.underlying t=some (.pointer l)) (w:World):(do eqGuard .eql t x y (.pointer (some a)) (.pointer none);binOp .eql t (.pointer (some a)) (.pointer none):Sem Value).run P w=.ok (.bool false) w:=by
 simp[eqGuard,binOp,an,FW ht]
theorem FX {l:TypeId} {a:Addr} (ht:P.underlying t=some (.pointer l)) (w:World):(do eqGuard .neq t x y (.pointer (some a)) (.pointer none);binOp .neq t (.pointer (some a)) (.pointer none):Sem Value).run P w=.ok (.bool true) w:=by
 simp[eqGuard,binOp,an,FW ht]
theorem L5 {b:BinOp} {p:Bool} {xs ys:Array Value} (hb:b=.eql∨b=.neq) (hm:P.eqGuardType P.depth t=false) (h:∀w,(fe 10000 t (.agg xs) (.agg ys)).run P w=.ok p w) (w:World) :
  (do eqGuard b t x y (.agg xs) (.agg ys);binOp b t (.agg xs) (.agg ys):Sem Value).run P w=.ok (.bool (if b=.eql then p else !p)) w:=by
 rcases hb with rfl|rfl
 ·simp only[an,run_eqGuard_agg w _ _ _ _ _ _ hm,ci,run_eql_struct,h];rfl
 ·simp only[an,run_eqGuard_agg w _ _ _ _ _ _ hm,ci,run_neq_struct,h];rfl
theorem FZ {dd i off : Nat} {xs ys : Array Value} {t' ft : TypeId} {a b : Value} {p q : Bool} (hf : ((P.fieldsOf t').toList[i]?).map (fun f => (f.name != "_", f.type, f.offset)) = some (true, ft, off))
  (ha:∀w:World,(part ft xs off).run P w=.ok a w) (hb:∀w:World,(part ft ys off).run P w=.ok b w) (he:∀w,(fe dd ft a b).run P w=.ok p w)
  (hr:∀w,(kP dd xs ys ((P.fieldsOf t').toList.drop (i+1))).run P w=.ok q w) (w:World):(kP dd xs ys ((P.fieldsOf t').toList.drop i)).run P w=.ok (p&&q) w:=by
 simp only[cS] at hf
 obtain⟨f,hf,he'⟩:=hf
 simp only[Prod.mk.injEq] at he'
 obtain⟨h1,rfl,rfl⟩:=he'
 have hl:=(az.1 hf).1
 have hd:(P.fieldsOf t').toList.drop i=f::(P.fieldsOf t').toList.drop (i+1):=by
  rw[bB hl];congr 1;exact (az.1 hf).2
 rw[hd,kP,ax (by simpa using h1)]
 simp only[an,ha,hb,he,ci]
 cases p
 ·simp
 ·simp[hr]
theorem L6 {dd n:Nat} {xs ys:Array Value} {t':TypeId} (h:(P.fieldsOf t').toList.length=n) (w:World):(kP dd xs ys ((P.fieldsOf t').toList.drop n)).run P w=.ok true w:=by
 rw[←h,List.drop_length];rfl
theorem F0 {dd:Nat} {k l:IntKind} {a b:Int} (h:P.underlying t=some (.int l)) (w:World):(fe (dd+1) t (.int k a) (.int k b)).run P w=.ok (a==b) w:=run_equalIn_int w dd t k l a b h
theorem L7 {dd:Nat} {xs ys:Array Value} {p:Bool} (ht:P.underlying t=some (.struct (P.fieldsOf t))) (hp:P.stoodInHeld t=false) (h:∀w,(kP dd xs ys ((P.fieldsOf t).toList.drop 0)).run P w=.ok p w) (w:World) :
  (fe (dd+1) t (.agg xs) (.agg ys)).run P w=.ok p w:=by
 rw[run_equalIn_agg w dd t xs ys ht hp];simpa using h w
theorem L8 {p q:Bool} {xs ys:Array Value} (hm:P.eqGuardType P.depth t=false) (l:p=q) (h:∀w,(fe 10000 t (.agg xs) (.agg ys)).run P w=.ok p w) (w:World) :
  (do eqGuard .eql t x y (.agg xs) (.agg ys);binOp .eql t (.agg xs) (.agg ys):Sem Value).run P w=.ok (.bool q) w:=by
 subst l;exact L5 (.inl rfl) hm h w
def rY (b:ae):List Int:=b.data.toList.map (fun c=>(c.toNat:Int))
def jp (l:List Int):ae:=⟨(l.map (fun x=>sX x.toNat)).toArray⟩
theorem L9 (b:ae):(rY b).length=b.size:=by simp[rY]
theorem Ca (l:List Int):(jp l).size=l.length:=by
 show ((l.map (fun x=>sX x.toNat)).toArray).size=_;simp
theorem F1 {l:List Int} (h:∀x∈l,U8 x):rY (jp l)=l:=by
 simp only[rY,jp,List.map_map]
 conv=>rhs;rw[←List.map_id l]
 refine List.map_congr_left fun x hx=>?_
 have:=h x hx
 simp only[Function.comp,id,UInt8.toNat_ofNat']
 omega
theorem Ma {v:Value} {b:ae}:byt e v b=vec (kl .u8) e 1 v (rY b):=by
 have h1:strCells b=(rY b).flatMap (kl .u8):=by
  simp only[strCells,rY,kl,List.flatMap_map]
  generalize b.data.toList=l
  induction l with
  |nil=>rfl
  |cons c l q=>rw[av,q,aK];rfl
 have:∀C w,ki e v b C w↔gZ (kl .u8) e 1 v (rY b) C w:=fun C w=>by
  unfold ki gZ Rw;rw[L9,h1]
 unfold byt vec
 congr 1
 funext C w
 exact propext (this C w)
theorem vn {v:Value} {l:List Int} (h:∀x∈l,U8 x):vec (kl .u8) e 1 v l=byt e v (jp l):=by rw[Ma,F1 h]
theorem Mb {l:Value} {enc:α→List Value} {z:α} (hz:l.cells.toList=enc z) (h0:l.cells.size=size) (hp:0<size):∀n:Nat,(madeCells l.cells (n*size)).toList=(bF n z).flatMap enc:=by
 have E:(enc z).length=size:=by rw[←hz];simpa using h0
 intro n
 apply lS
 intro i
 have D:∀m,((bF m z).flatMap enc).length=m*size:=fun m=>by
  induction m with
  |zero=>simp
  |succ m q=>rw[qO,aK,aa,q,E,c6,jx,jN]
 by_cases hi:i<n*size
 ·have e1:((bF n z).flatMap enc)[i]?=(enc z)[i % size]?:=by
   clear h0
   induction n generalizing i with
   |zero=>simp at hi
   |succ n q=>
    rw[qO,aK]
    by_cases h:i<size
    ·rw[fK (by omega),Nat.mod_eq_of_lt h]
    ·rw[fT (by omega),E,q (i-size) (by rw[c6] at hi;omega),←Nat.mod_eq_sub_mod (by omega)]
  rw[e1,←hz]
  have hm:i % size<l.cells.size:=by rw[h0];exact Nat.mod_lt _ hp
  simp[madeCells,hi,h0,el hm]
  rw[getElem!_pos _ _ (by rw[←h0] at hm ⊢;exact hm)]
 ·rw[gU (by simp[size_madeCells];omega),gU (by rw[D];omega)]
theorem F2 [br F] {sl:Operand} {J:TypeId} {z:α} {n:Int} (ht:P.underlying J=some (.slice e)) (Z:dH P e size) (Y:cd P e (enc z)) (E:∀x,(enc x).length=size) (hg:gd ops σ g=some true) (hd:d<N) (W:ev σ sl=some (.int .i64 n))
  (T:0≤n∧n≤2147483648)
  (h:∀U,TO F P w0 K N dfs ops Q rest ((d,U)::σ) (L++[vec enc e size U (bF n.toNat z)])) :
  TO F P w0 K N dfs ops Q (⟨some d,.makeSlice J sl sl,ty,pos,aft,g⟩::rest) σ L:=by
 obtain⟨i,I,hi,q,l,M,hsz,H⟩:=Z
 obtain⟨i',z',G,D,O⟩:=Y.some
 rw[hi] at G;cases G
 rw[q] at D;cases D
 refine nS hg (by simp) fun a w ha V=>?_
 have hb:(i.bytes:Int)*n≤281474976710656:=by
  have h1:(i.bytes:Int)≤65536:=by omega
  calc (i.bytes:Int)*n≤65536*2147483648:=Int.mul_le_mul h1 T.2 T.1 (by omega)
   _≤_:=by omega
 have hr:=run_make (P:=P) w J e i I ht hi q .i64 .i64 n n T.1 (Int.le_refl _) hb (by omega)
 refine⟨_,_,by simp only[execOp,ha.ev W,an,hr];rfl,h _ _ _ (ha.put hd _) ?_⟩
 have h2:=V.alloc (.cells (madeCells I.cells (n.toNat*i.size)) e (0,0))
 have h3:(Go.Proofs.YtifpjbgnikjglaaGreatDoor.obj w.heap.size (.cells (madeCells I.cells (n.toNat*i.size)) e (0,0)))=cells w.heap.size ((bF n.toNat z).flatMap enc) e:=by
  unfold cells
  rw[←Mb O M hsz,l]
 rw[h3] at h2
 have h4:=h2.toVec (k:=L.length) (size:=size) (bF n.toNat z) (b:=w.heap.size) (e:=e) (by simp) E rfl (by simp[maxLen];omega)
 simpa using h4
theorem zT [br F] {l:Array TypeId} {kk:IntKind} {m n:Int} (hg:gd ops σ g=some true) (hd:d<N) (hx:ev σ x=some (.int kk m)) (hy:ev σ y=some (.int kk n))
  (h:TO F P w0 K N dfs ops Q rest ((d,.int kk (min m n))::σ) L):TO F P w0 K N dfs ops Q (⟨some d,.call { callee:=.builtin .min,args:=#[x,y],argTypes:=l },ty,pos,aft,g⟩::rest) σ L :=
 jl hg hd (by simp) (fun a w ha q=>by
  have h1:=ha.ev hx;have h2:=ha.ev hy
  have e:(if n<m then n else m)=min m n:=by rw[Int.min_def];split<;>split<;>omega
  simp[execOp,resolve,invoke,builtin,h1,h2,Builtin.min_,Builtin.min2,an,e]) h
theorem zU {j:Nat} {X:List Asn} (hk:L[k]?=some A) (hj:L[j]?=some (zhW X)) (l:k≠j) (h:TC F P w0 K N dfs Q c σ ((L.set k cy).set j (zhW (A::X)))):TC F P w0 K N dfs Q c σ L:=fun a w ha q=>h a w ha (q.starCons hk hj l)
theorem qW {b:Bool} (ht:b=true→TO F P w0 K N dfs ops Q rest σ L) (hf:b=false→TO F P w0 K N dfs ops Q rest σ L):TO F P w0 K N dfs ops Q rest σ L:=by
 cases b with
 |true=>exact ht rfl
 |false=>exact hf rfl
theorem lK {xs pre post l:List α} {x:α} (h:xs=pre++x::post) (h2:xs=pre++[x]++l):post=l:=by
 rw[h,aB] at h2
 have:=List.append_cancel_left h2
 simpa using this
end
def xf {β:Type} (f:β→Asn):Asn:=⟨fun C w=>∃b,(f b).P C w,fun⟨b,h⟩=>(f b).lt h,fun⟨b,h⟩ l hk=>⟨b,(f b).loc h l hk⟩⟩
section
variable {F:Fence} {P:Program} {w0:World} {K:Nat→Prop} {N:Nat} {dfs:List Deferred} {ops:Array Oper} {Q:Exit→Act→World→Prop} {rest:List Oper} {c:Code} {ex:Exit} {σ:List (Nat×Value)} {L As R:List Asn} {β:Type}
def mB {β:Type} (As:List Asn) (Bs:β→List Asn) (I:β→Prop):Prop:=∀C w,aP As C w→∃b,I b∧aP (Bs b) C w
theorem Holds.entl {I:β→Prop} {Bs:β→List Asn} {w:World} (h:Holds w0 K L w) (l:am L As R) (D:mB As Bs I):∃b,I b∧Holds w0 K (R++Bs b) w:=by
 obtain⟨C1,h1,h2⟩:=h.split l
 obtain⟨b,q,hb⟩:=D C1 w h1
 exact⟨b,q,h2 _ C1 w (cz.refl _ _) hb⟩
theorem qX {I:β→Prop} {Bs:β→List Asn} (q:am L As R) (E:mB As Bs I) (h:∀b,I b→TO F P w0 K N dfs ops Q rest σ (R++Bs b)):TO F P w0 K N dfs ops Q rest σ L:=fun a w ha l=>by
 obtain⟨b,D,hb⟩:=l.entl q E;exact h b D a w ha hb
theorem F3 {I:β→Prop} {Bs:β→List Asn} (q:am L As R) (E:mB As Bs I) (h:∀b,I b→TX w0 K N dfs Q ex σ (R++Bs b)):TX w0 K N dfs Q ex σ L:=fun a w ha l=>by
 obtain⟨b,D,hb⟩:=l.entl q E;exact h b D a w ha hb
end
structure Hd where
 p:Option Addr
 n:Nat
 c:Nat
def Hd.v (h:Hd):Value:=.slice h.p h.n h.c
def Hd.nil:Hd:=⟨none,0,0⟩
section
variable {α η:Type} {enc:α×η→List Value} {nest:α×η→List Asn} {e:TypeId} {size:Nat} {v:Value} {xs:List α} {i:Nat} {x:α}
def mV (enc:α×η→List Value) (nest:α×η→List Asn) (e:TypeId) (size:Nat) (v:Value) (xs:List α):Asn :=
 xf fun zs:{zs:List (α×η) // zs.map bv=xs}=>zhW [vec enc e size v zs.1,zhW (zs.1.flatMap nest)]
theorem F4 {A B:Asn} {C:Nat→Prop} {w:World} (h:aP [A,B] C w):∃C1 C2,A.P C1 w∧B.P C2 w∧(∀k,C1 k→¬C2 k)∧∀k,C k↔C1 k∨C2 k:=by
 obtain⟨C1,C2,h1,⟨l,H,E,D,G,g4⟩,h3,q⟩:=h
 have e:∀k,C2 k↔l k:=fun k=>by rw[g4];exact⟨fun h=>h.resolve_right (D k),.inl⟩
 exact⟨C1,l,h1,E,fun k h h'=>h3 k h ((e k).2 h'),fun k=>by rw[q,e]⟩
theorem Cb {A B:Asn} {C C1 C2:Nat→Prop} {w:World} (h1:A.P C1 w) (h2:B.P C2 w) (h3:∀k,C1 k→¬C2 k) (l:∀k,C k↔C1 k∨C2 k):aP [A,B] C w :=
 ⟨C1,C2,h1,⟨C2,fun _=>False,h2,fun _ h=>h,fun _ _ h=>h,fun k=>by simp⟩,h3,l⟩
theorem aP.one1 {A:Asn} {C:Nat→Prop} {w:World}:aP [A] C w↔A.P C w:=by
 constructor
 ·rintro⟨C1,C2,h1,h2,_,l⟩
  have:C1=C:=funext fun k=>propext ⟨fun h=>(l k).2 (.inl h),fun h=>((l k).1 h).resolve_right (h2 k)⟩
  rw[←this];exact h1
 ·exact fun h=>⟨C,fun _=>False,h,fun _ h=>h,fun _ _ h=>h,fun k=>by simp⟩
theorem zV {A B:List Asn} {C:Nat→Prop} {w:World} (h:aP (A++B) C w):∃C1 C2,aP A C1 w∧aP B C2 w∧(∀k,C1 k→¬C2 k)∧∀k,C k↔C1 k∨C2 k:=by
 induction A generalizing C with
 |nil=>exact⟨fun _=>False,C,fun _ h=>h,h,fun _ h=>h.elim,fun k=>by simp⟩
 |cons A L q=>
  obtain⟨C1,C2,h1,h2,h3,D⟩:=h
  obtain⟨l,I,H,G,E,g4⟩:=q h2
  refine⟨fun k=>C1 k∨l k,I,⟨C1,l,h1,H,fun k h h'=>h3 k h ((g4 k).2 (.inl h')),fun k=>_root_.Iff.rfl⟩,G,fun k h h'=>?_,fun k=>?_⟩
  ·rcases h with h|h
   ·exact h3 k h ((g4 k).2 (.inr h'))
   ·exact E k h h'
  ·rw[D,g4,or_assoc]
theorem uc {A B:List Asn} {C C1 C2:Nat→Prop} {w:World} (h1:aP A C1 w) (h2:aP B C2 w) (h3:∀k,C1 k→¬C2 k) (l:∀k,C k↔C1 k∨C2 k):aP (A++B) C w:=(h1.append h2 h3).congr l
theorem F5 {zs:List (α×η)} {z:α×η} (hz:zs[i]?=some z) {C:Nat→Prop} {w:World}:aP (zs.flatMap nest) C w↔∃C1 C2,aP (nest z) C1 w∧aP ((zs.eraseIdx i).flatMap nest) C2 w∧(∀k,C1 k→¬C2 k)∧∀k,C k↔C1 k∨C2 k:=by
 induction zs generalizing i C with
 |nil=>simp at hz
 |cons y zs J=>
  rw[aK]
  rcases i with _|i
  ·simp at hz;subst hz
   constructor
   ·exact fun h=>zV h
   ·rintro⟨C1,C2,h1,h2,h3,l⟩;exact uc h1 h2 h3 l
  ·have q:zs[i]?=some z:=by simpa using hz
   have e:(y::zs).eraseIdx (i+1)=y::zs.eraseIdx i:=rfl
   rw[e,aK]
   constructor
   ·intro h
    obtain⟨C1,C2,h1,h2,h3,l⟩:=zV h
    obtain⟨G,E,I,H,D,g4⟩:=(J q).1 h2
    refine⟨G,fun k=>C1 k∨E k,I,uc h1 H (fun k h h'=>h3 k h ((g4 k).2 (.inr h'))) (fun k=>_root_.Iff.rfl),fun k h h'=>?_,fun k=>?_⟩
    ·rcases h' with h'|h'
     ·exact h3 k h' ((g4 k).2 (.inl h))
     ·exact D k h h'
    ·rw[l,g4];exact or_left_comm
   ·rintro⟨G,O,I,M,D,g4⟩
    obtain⟨C1,E,h1,H,h3,l⟩:=zV M
    refine uc (C1:=C1) (C2:=fun k=>G k∨E k) h1 ((J q).2 ⟨G,E,I,H,fun k h h'=>D k h ((l k).2 (.inr h')),fun k=>_root_.Iff.rfl⟩) (fun k h h'=>?_) (fun k=>?_)
    ·rcases h' with h'|h'
     ·exact D k h' ((l k).2 (.inl h))
     ·exact h3 k h h'
    ·rw[g4,l];exact or_left_comm
theorem Mc:mB ([]:List Asn) (fun _:Unit=>[mV enc nest e size (.slice none 0 0) ([]:List α)]) (fun _=>True):=by
 intro C w h
 refine⟨(),trivial,aP.one1.2 ⟨⟨[],rfl⟩,Cb (C1:=fun _=>False) (C2:=C) gZ.nil h (fun _ h=>h.elim) (fun k=>by simp)⟩⟩
theorem F6 {C:Nat→Prop} {w:World} (h:(mV enc nest e size v xs).P C w):∃a c,v=.slice a xs.length c:=by
 obtain⟨⟨zs,hz⟩,h⟩:=h
 obtain⟨C1,C2,h1,_⟩:=F4 h
 have:=gZ.len h1
 rw[←hz,ar];exact this
end
section
variable {F:Fence} {P:Program} {w0:World} {K:Nat→Prop} {N:Nat} {dfs:List Deferred} {ops:Array Oper} {Q:Exit→Act→World→Prop} {rest:List Oper} {σ:List (Nat×Value)} {L:List Asn}
 {d:Nat} {ty:TypeId} {pos:String} {aft:Array Edge} {g:Option (Nat×Bool)} {x:Operand} {k:Nat} {α η:Type} {enc:α×η→List Value} {nest:α×η→List Asn} {e:TypeId} {size:Nat} {vv:Value} {xs:List α}
theorem Md [br F] {l te:TypeId} (hg:gd ops σ g=some true) (hd:d<N) (hx:ev σ x=some vv) (hk:L[k]?=some (mV enc nest e size vv xs)) (ht:P.underlying l=some (.slice te))
  (h:TO F P w0 K N dfs ops Q rest ((d,.int .i64 xs.length)::σ) L):TO F P w0 K N dfs ops Q (⟨some d,.call { callee:=.builtin .len,args:=#[x],argTypes:=#[l] },ty,pos,aft,g⟩::rest) σ L :=
 jl hg hd (by simp) (fun a w ha D=>by
  obtain⟨C,hv,_⟩:=D.focus hk
  obtain⟨q,G,E⟩:=F6 hv
  have:=ha.ev hx
  simp[execOp,resolve,invoke,builtin,this,E,jk,run_underlying ht,an,goInt]) h
theorem iq {ε:Type} {_k:ε→List Value} {ys:List ε} (hk:L[k]?=some (vec _k e size vv ys)) (h:∀hd:Hd,vv=hd.v→TO F P w0 K N dfs ops Q rest σ L):TO F P w0 K N dfs ops Q rest σ L:=fun a w ha l=>by
 obtain⟨C,hv,_⟩:=l.focus hk
 obtain⟨q,D,he⟩:=gZ.len hv
 exact h ⟨q,ys.length,D⟩ he a w ha l
theorem Ce (hk:L[k]?=some (mV enc nest e size vv xs)) (h:∀hd:Hd,vv=hd.v→TO F P w0 K N dfs ops Q rest σ L):TO F P w0 K N dfs ops Q rest σ L:=fun a w ha l=>by
 obtain⟨C,hv,_⟩:=l.focus hk
 obtain⟨q,D,he⟩:=F6 hv
 exact h ⟨q,xs.length,D⟩ he a w ha l
theorem Me {b:Nat} {ε:Type} {_k:ε→List Value} {y:ε} (D:∀x,(_k x).length=size):mB [vec _k e size (.slice (some ⟨b,0,none⟩) 1 1) [y]] (fun _:Unit=>[cells b (_k y) e]) (fun _=>True):=by
 intro C w h
 obtain⟨h1,rfl⟩:=aP.one1.1 h
 refine⟨(),trivial,aP.one1.2 ⟨fun k=>by simp[bR,eq_comm],?_⟩⟩
 obtain⟨h2,h3⟩:=h1
 rcases h3 with⟨h3,_⟩|⟨g,cap,l,he,_,h5,J,I,H,E⟩
 ·cases h3
 ·cases he
  have e1:[y].flatMap _k=_k y:=by simp
  rw[e1] at E h2
  have G:l.toList.length=size:=by simpa using H
  have:l.toList=_k y:=by
   rw[←E,dX]
   simp[G]
  have q:l=(_k y).toArray:=by rw[←this]
  rw[h5,q]
end
section
variable {F:Fence} {P:Program} {w0:World} {K:Nat→Prop} {N:Nat} {dfs:List Deferred} {ops:Array Oper} {Q:Exit→Act→World→Prop} {rest:List Oper} {σ:List (Nat×Value)} {L:List Asn}
 {d:Nat} {ty:TypeId} {pos:String} {aft:Array Edge} {g:Option (Nat×Bool)} {x y:Operand} {t e:TypeId} {size:Nat}
theorem oH [br F] {n b o off:Nat} {i:Int} (h0:0≤i∧i<n) (ht:P.underlying t=some (.array n e)) (E:bx P e size) (hg:gd ops σ g=some true) (hd:d<N) (hx:ev σ x=some (.pointer (some ⟨b,o,none⟩))) (hy:ev σ y=some (.int .i64 i))
  (D:o+i.toNat*size=off)
  (h:TO F P w0 K N dfs ops Q rest ((d,.pointer (some ⟨b,off,none⟩))::σ) L):TO F P w0 K N dfs ops Q (⟨some d,.indexAddr t x y,ty,pos,aft,g⟩::rest) σ L:=by
 obtain⟨G,hu,q⟩:=E.some
 subst D;subst q
 obtain⟨m,rfl⟩:∃m:Nat,i=m:=⟨i.toNat,by omega⟩
 refine jl hg hd (by simp) (fun a w ha H=>?_) h
 have h1:=ha.ev hx;have h2:=ha.ev hy
 have l:m<n:=by omega
 simp[execOp,Instr.indexAt,h1,h2,asIntOf,run_underlying ht,an,l,sizeOf,typeInfo,hu,iz,eo]
end
theorem Cf {b n:Nat} {ε:Type} {_k:ε→List Value} {size:Nat} {e:TypeId} {ys:List ε} (D:ys.length=n):po (vec _k e size (.slice (some ⟨b,0,none⟩) n n) ys) (cells b (ys.flatMap _k) e):=by
 intro C w h
 subst D
 obtain⟨h1,rfl⟩:=h
 refine⟨fun k=>by simp[bR,eq_comm],?_⟩
 obtain⟨h2,h3⟩:=h1
 rcases h3 with⟨h3,_⟩|⟨g,cap,l,he,_,h5,J,I,G,E⟩
 ·cases h3
 ·cases he
  have H:l.toList.length=ys.length*size:=by simpa using G
  have:l.toList=ys.flatMap _k:=by
   rw[←E,dX]
   omega
  have q:l=(ys.flatMap _k).toArray:=by rw[←this]
  rw[h5,q]
theorem Mf {P:Program} {t e:TypeId} {α:Type} {enc:α→List Value} {size n:Nat} {xs:List α} {i:Int} {q:α} {v:Value} (ht:P.underlying t=some (.array n e)) (G:bx P e size) (I:xs.length=n) (l:∀x,(enc x).length=size) (E:zcx xs i=some q)
  (hv:∀w:World,(part e (xs.flatMap enc).toArray (i.toNat*size)).run P w=.ok v w) (w:World):(iT t (.agg (xs.flatMap enc).toArray) (.int .i64 i)).run P w=.ok v w:=by
 obtain⟨H,hu,D⟩:=G.some
 subst D
 obtain⟨h0,h1⟩:=xd E
 have h2:¬i<0:=by omega
 have h3:i<(n:Int):=by omega
 have:=hv w
 simp[iT,asIntOf,run_underlying ht,an,sizeOf,typeInfo,hu,h0,h3,this]
theorem F7 {α:Type} {enc:α→List Value} {size:Nat} (l:∀x,(enc x).length=size):∀ (xs:List α) (i:Nat) (q:α),xs[i]?=some q→((xs.flatMap enc).drop (i*size)).take size=enc q
 |[],i,q,h=>by simp at h
 |y::xs,0,q,h=>by
  simp at h;subst h
  rw[aK,od,jY,List.take_left' (l y)]
 |y::xs,i+1,q,h=>by
  have D:=F7 l xs i q (by simpa using h)
  rw[aK,show (i+1)*size=(enc y).length+i*size by rw[l,c6,jx,jN],←fa,gV]
  exact D
theorem Mg {P:Program} {e:TypeId} {α:Type} {enc:α→List Value} {xs:List α} {i size:Nat} {q:α} {w:World} (G:ol P e size) (l:∀x,(enc x).length=size) (E:xs[i]?=some q) :
  (part e (xs.flatMap enc).toArray (i*size)).run P w=.ok (.agg (enc q).toArray) w:=by
 obtain⟨dd,hu,hr,D⟩:=G
 obtain⟨I,hi,hsz⟩:=cS.1 D
 have h1:=F7 l xs i q E
 have h2:(xs.flatMap enc).toArray.extract (i*size) (i*size+size)=(enc q).toArray:=by
  apply fv.1
  rw[Array.toList_extract,List.extract_eq_take_drop]
  simpa using h1
 have h3:(isAgg e).run P w=.ok true w:=by
  cases dd<;>simp_all [isAgg,run_underlying hu,an,TypeDesc.isRow]
 have H:(sizeOf e).run P w=.ok size w:=by simp[sizeOf,typeInfo,hi,hsz,an]
 unfold part
 simp only[an,h3,kK,if_true,H]
 rw[h2];rfl
section
variable {F:Fence} {P:Program} {w0:World} {K:Nat→Prop} {N:Nat} {dfs:List Deferred} {Q:Exit→Act→World→Prop} {σ:List (Nat×Value)} {L:List Asn}
theorem Mh {id:Nat} {l:List Oper} (n:Nat) (Inv:(Nat→Prop)→Act→World→Prop) (hm:P.follows .mixedOrders=true)
  (ag:(l.zipIdx.all fun (o,i)=>(jo o).all fun j=>decide (j<i))=true) (hT:vf l n=true) (a3:n≤l.length)
  (h0:∀a w,At N dfs σ a→Holds w0 K L w→Inv (fun _=>False) a w)
  (U:∀i o,i<n→l[i]?=some o→∀D a w,¬D i→(∀j∈jo o,D j)→Clo l.toArray D→Inv D a w→wpListIn F 0 P l.toArray (_root_.Go.Exit.then (Inv (fun j=>D j∨j=i)) Q) [o] a w)
  (G:∀D a w,(∀j,j<n→D j)→Inv D a w→wpListIn F 0 P l.toArray Q (l.drop n) a w):TC F P w0 K N dfs Q (.region id l.toArray true) σ L:=by
 intro a w ha hw
 have W:=FK hT
 obtain⟨J,hJ⟩:∃J:(Nat→Prop)→Act→World→Prop,J=(fun D a w=>Clo l.toArray D∧((∃k,n<k∧(∀j,D j↔j<k)∧wpListIn F 0 P l.toArray Q (l.drop k) a w) ∨
  ((∀j,D j→j<n)∧Inv D a w))):=⟨_,rfl⟩
 refine BV hm (by simpa using ag) J (by subst hJ;exact⟨fun i o _ h=>h.elim,.inr ⟨fun _ h=>h.elim,h0 _ _ ha hw.drew⟩⟩) ?_ ?_
 ·have all:∀ (m:List Oper) (k:Nat),(∀i o,m[i]?=some o→l[k+i]?=some o)→fZ F 0 P l.toArray Q J m k:=by
   intro m
   induction m with
   |nil=>intro k _;trivial
   |cons q m ih=>
    intro k hl
    refine⟨?_,ih (k+1) (fun i o' Y=>by have:=hl (i+1) o' (by simpa using Y);rwa [show k+1+i=k+(i+1) by omega])⟩
    have V:l[k]?=some q:=hl 0 q rfl
    subst hJ
    rintro D a w hn hd ⟨M,T⟩
    have I:Clo l.toArray (fun j=>D j∨j=k):=M.add (by simpa using V) hd
    have a4:k<l.length:=(az.1 V).1
    have H:l.drop k=q::l.drop (k+1):=by
     obtain⟨h1,h2⟩:=az.1 V
     rw[←h2];exact bB h1
    rcases T with⟨m,Z,O,E⟩|⟨O,T⟩
    ·have ao:k=m:=by
      have h1:¬k<m:=fun h=>hn ((O k).2 h)
      have h2:=W D M k q (by omega) V hd
      by_cases h3:m<k
      ·have:=(O _).1 (h2 _ h3);omega
      ·omega
     subst ao
     rw[H] at E
     refine qm (fun a' w' h=>⟨I,.inl ⟨k+1,by omega,fun j=>?_,h⟩⟩) (zK E)
     show D j∨j=k↔_
     rw[O];omega
    ·by_cases hk:k<n
     ·refine qm (fun a' w' h=>⟨I,.inr ⟨fun j hj=>?_,h⟩⟩) (U k q hk V D a w hn hd M T)
      rcases hj with hj|rfl
      ·exact O j hj
      ·exact hk
     ·have hall:=W D M k q (by omega) V hd
      have aw:k=n:=by
       by_cases h:n<k
       ·have:=O _ (hall _ h);omega
       ·omega
      subst aw
      have E:=G D a w hall T
      rw[H] at E
      refine qm (fun a' w' h=>⟨I,.inl ⟨k+1,by omega,fun j=>?_,h⟩⟩) (zK E)
      refine⟨fun hj=>?_,fun hj=>?_⟩
      ·rcases hj with hj|rfl
       ·have:=O j hj;omega
       ·omega
      ·by_cases h:j=k
       ·exact .inr h
       ·exact .inl (hall j (by omega))
  exact all _ 0 (fun i o ho=>by simpa using ho)
 ·subst hJ
  rintro D a w O ⟨M,T⟩
  have hsz:l.toArray.size=l.length:=by simp
  rcases T with⟨m,Z,a1,E⟩|⟨a0,T⟩
  ·have:l.length≤m:=by
    by_cases h:m<l.length
    ·have:=(a1 m).1 (O _ (by rw[hsz];omega));omega
    ·omega
   rw[de this] at E
   exact E
  ·have a2:l.length≤n:=by
    by_cases h:n<l.length
    ·have:=a0 n (O _ (by rw[hsz];omega));omega
    ·omega
   have:=G D a w (fun j hj=>O j (by rw[hsz];omega)) T
   rw[de (by omega)] at this
   exact this
open Classical in
noncomputable def eD (D:Nat→Prop) (base:Asn):List (Nat×Asn)→Asn
 |[]=>base
 |(i,A)::r=>if D i then A else eD D base r
theorem il {D:Nat→Prop} {base A B:Asn} {i:Nat} {r:List (Nat×Asn)} (h:D i) (hA:A=B):eD D base ((i,A)::r)=B:=by unfold eD;rw[ax h,hA]
theorem dO {D:Nat→Prop} {base A B:Asn} {i:Nat} {r:List (Nat×Asn)} (h:¬D i) (hr:eD D base r=B):eD D base ((i,A)::r)=B:=by rw[eD,ap h];exact hr
theorem fi {D:Nat→Prop} {base:Asn}:eD D base []=base:=rfl
theorem ir {D:Nat→Prop} {i:Nat} {base:Asn}:∀ {r:List (Nat×Asn)},(r.map bv).contains i=false→eD (fun j=>D j∨j=i) base r=eD D base r
 |[],_=>rfl
 |(k,A)::r,h=>by
  simp only[av,gl,bI] at h
  have l:¬k=i:=by have:=h.1;simp at this;exact fun e=>this e.symm
  rw[eD,eD,ir h.2]
  by_cases hd:D k
  ·rw[ax (.inl hd),ax hd]
  ·rw[ap hd,ap (by rintro (h | h);exact hd h;exact l h)]
theorem oI {base:Asn}:∀ {r:List (Nat×Asn)},eD (fun _=>False) base r=base
 |[]=>rfl
 |(k,A)::r=>by rw[eD,ap (fun h=>h),oI]
theorem bZ {α:Type} {a q:α} {l l':List α} (h:a=q) (D:l=l'):a::l=q::l':=by rw[h,D]
theorem dV {D:Nat→Prop} {i t:Nat} {v l:Value} {r q:List (Nat×Nat×Value)} (h:D i→v=l) (hr:dl D r=dl D q):dl D ((i,t,v)::r)=dl D ((i,t,l)::q):=by
 simp only[dl,hr]
 by_cases hd:D i
 ·rw[ax hd,ax hd,h hd]
 ·rw[ap hd,ap hd]
def fp {β:Type} (F:Fence) (P:Program) (w0:World) (K:Nat→Prop) (N:Nat) (dfs:List Deferred) (Q:Exit→Act→World→Prop) (ops:Array Oper) (σ:List (Nat×Value)) (l:β→List (Nat×Nat×Value)) (q:(Nat→Prop)→β→List Asn):List Oper→Nat→Prop
 |[],_=>True
 |o::rest,i=>(∀ (D:Nat→Prop) (b:β),¬D i→(∀j∈jo o,D j)→Clo ops D →
   TO F P w0 K N dfs ops (_root_.Go.Exit.then (fun a w=>∃b,At N dfs (dl (fun j=>D j∨j=i) (l b)++σ) a∧Holds w0 K (q (fun j=>D j∨j=i) b) w) Q) [o] (dl D (l b)++σ) (q D b))∧fp F P w0 K N dfs Q ops σ l q rest (i+1)
theorem fp.nil {β:Type} {ops:Array Oper} {l:β→List (Nat×Nat×Value)} {q:(Nat→Prop)→β→List Asn} {i:Nat}:fp F P w0 K N dfs Q ops σ l q [] i:=trivial
theorem lA {β:Type} {ops:Array Oper} {l:β→List (Nat×Nat×Value)} {q:(Nat→Prop)→β→List Asn} {o:Oper} {rest:List Oper} {i:Nat} (h:∀ (D:Nat→Prop) (b:β),¬D i→(∀j∈jo o,D j)→Clo ops D →
   TO F P w0 K N dfs ops (_root_.Go.Exit.then (fun a w=>∃b,At N dfs (dl (fun j=>D j∨j=i) (l b)++σ) a∧Holds w0 K (q (fun j=>D j∨j=i) b) w) Q) [o] (dl D (l b)++σ) (q D b)) (E:fp F P w0 K N dfs Q ops σ l q rest (i+1)) :
  fp F P w0 K N dfs Q ops σ l q (o::rest) i:=⟨h,E⟩
theorem fp.get {β:Type} {ops:Array Oper} {q:β→List (Nat×Nat×Value)} {E:(Nat→Prop)→β→List Asn}:∀ {l:List Oper} {k:Nat},fp F P w0 K N dfs Q ops σ q E l k→∀i o,l[i]?=some o→∀ (D:Nat→Prop) (b:β),¬D (k+i)→(∀j∈jo o,D j)→Clo ops D →
   TO F P w0 K N dfs ops (_root_.Go.Exit.then (fun a w=>∃b,At N dfs (dl (fun j=>D j∨j=k+i) (q b)++σ) a∧Holds w0 K (E (fun j=>D j∨j=k+i) b) w) Q) [o] (dl D (q b)++σ) (E D b)
 |[],k,_,i,o,h=>by simp at h
 |x::l,k,h,0,o,ho=>by simp at ho;subst ho;exact h.1
 |x::l,k,h,i+1,o,ho=>by
  have:=fp.get h.2 i o (by simpa using ho)
  rwa [show k+1+i=k+(i+1) by omega] at this
theorem vo {id:Nat} {l:List Oper} {β:Type} (n:Nat) (b0:β) (q:β→List (Nat×Nat×Value)) (I:(Nat→Prop)→β→List Asn) (hm:P.follows .mixedOrders=true)
  (M:(l.zipIdx.all fun (o,i)=>(jo o).all fun j=>decide (j<i))=true) (V:vf l n=true) (J:n≤l.length)
  (hval:∀b,(q b).all (fun p=>decide (p.1<n))=true) (h0:I (fun _=>False) b0=L)
  (H:fp F P w0 K N dfs Q l.toArray σ q I (l.take n) 0)
  (E:∀ (D:Nat→Prop) b,(∀j,j<n→D j)→TO F P w0 K N dfs l.toArray Q (l.drop n) ((q b).map (fun p=>p.2)++σ) (I D b)):TC F P w0 K N dfs Q (.region id l.toArray true) σ L:=by
 refine Mh n (fun D a w=>∃b,At N dfs (dl D (q b)++σ) a∧Holds w0 K (I D b) w) hm M V J (fun a w ha G=>⟨b0,by rw[zH];exact ha,by rw[h0];exact G⟩) ?_ ?_
 ·rintro i o hi U D a w W hd O ⟨b,ha,G⟩
  have:=H.get i o (by rw[oy hi];exact U) D b (by rwa [bL]) hd O a w ha G
  rwa [bL] at this
 ·rintro D a w T ⟨b,ha,G⟩
  refine E D b T a w ?_ G
  rw[vd (fun p hp=>T _ (by have:=bd.1 (hval b) p hp;simpa using this))] at ha
  exact ha
theorem lL {β:Type} {ops:Array Oper} {l:β→List (Nat×Nat×Value)} {E:(Nat→Prop)→β→List Asn} {D:Nat→Prop} {b:β} (q:β) (m:Nat) {i t:Nat} {v:Value} {L':List Asn} (hu:iW ((l q).map (fun p=>p.2.1))=true) (hi:iW ((l q).map (fun p=>p.1))=true)
  (hm:(l q)[m]?=some (i,t,v)) (hc:dl D (l b)=dl D (l q)) (hL:E (fun j=>D j∨j=i) q=L') :
  TO F P w0 K N dfs ops (_root_.Go.Exit.then (fun a w=>∃b,At N dfs (dl (fun j=>D j∨j=i) (l b)++σ) a∧Holds w0 K (E (fun j=>D j∨j=i) b) w) Q) [] ((t,v)::(dl D (l b)++σ)) L':=fun a w ha G=>⟨q,by rw[hc] at ha;exact FF (vc hu) (vc hi) hm _ _ _ ha,by rw[hL];exact G⟩
end
section
variable {F:Fence} {P:Program} {w0:World} {K:Nat→Prop} {N:Nat} {dfs:List Deferred} {ops:Array Oper} {Q:Exit→Act→World→Prop} {rest:List Oper} {σ:List (Nat×Value)} {L L':List Asn}
theorem km (h:L=L') (l:TO F P w0 K N dfs ops Q rest σ L'):TO F P w0 K N dfs ops Q rest σ L:=by rw[h];exact l
theorem Cg {w:World}:∀n:Nat,aP (bF n cy) (fun _=>False) w
 |0=>fun _ h=>h
 |n+1=>⟨fun _=>False,fun _=>False,fun _ h=>h,Cg n,fun _ h=>h.elim,fun k=>by simp⟩
theorem vp {c:Code} (n:Nat) (q:TC F P w0 K N dfs Q c σ (L++bF n cy)):TC F P w0 K N dfs Q c σ L:=fun a w ha l=>by
 refine q a w ha ?_
 obtain⟨C,hL,hx⟩:=l
 exact⟨C,uc hL (Cg n) (fun _ _ h=>h) (fun k=>by simp),hx⟩
theorem pp {A:Asn} (p:Nat) (hA:L.getLast?=some A) (hp:L.dropLast[p]?=some cy) (G:TO F P w0 K N dfs ops Q rest σ (L.dropLast.set p A)):TO F P w0 K N dfs ops Q rest σ L:=fun a w ha E=>by
 refine G a w ha ?_
 obtain⟨C,hL,hx⟩:=E
 refine⟨C,?_,hx⟩
 have e:L=L.dropLast++[A]:=by
  rcases List.eq_nil_or_concat L with rfl|⟨M,B,rfl⟩
  ·simp at hA
  ·simp at hA;subst hA;simp
 rw[e] at hL
 obtain⟨C1,C2,h1,h2,h3,H⟩:=zV hL
 have D:=aP.one1.1 h2
 have q:p<L.dropLast.length:=(az.1 hp).1
 have l:L.dropLast.set p cy=L.dropLast:=by
  obtain⟨_,he⟩:=az.1 hp
  rw[←he];exact pM q
 exact aP.put q D (by rw[l];exact h1) (fun k a b=>h3 k b a) (fun k=>by rw[H];exact Or.comm)
end
theorem Mi (s:ae) (a:Nat):(s.extract a s.size).data.toList=s.data.toList.drop a:=by
 rw[extract_data];rw[dX];simp
theorem mW (r:Int):(ac r).data.toList=encodeRune r:=by
 unfold ac encodeRune
 rw[validRune_eq]
 by_cases hv:validRune r=true
 ·have q:(0≤r∧r<55296)∨(57343<r∧r≤1114111):=by simpa [validRune] using hv
  rw[hv]
  simp only[if_true]
  obtain⟨n,rfl⟩:∃n:Nat,r=n:=⟨r.toNat,by omega⟩
  simp only[bN]
  by_cases h1:n<128
  ·rw[encodeRuneZ_one (by omega) (by omega),ax h1];rfl
  ·by_cases h2:n<2048
   ·rw[encodeRuneZ_two (by omega) (by omega),ap h1,ax h2]
    simp only[av,dW]
    rw[show ((192:Int)+n / 64).toNat=192+n / 64 from by omega,show ((128:Int)+n % 64).toNat=128+n % 64 from by omega]
   ·by_cases h3:n<65536
    ·rw[encodeRuneZ_three (by omega),ap h1,ap h2,ax h3]
     simp only[av,dW]
     rw[show ((224:Int)+n / 4096).toNat=224+n / 4096 from by omega,show ((128:Int)+n / 64 % 64).toNat=128+n / 64 % 64 from by omega,show ((128:Int)+n % 64).toNat=128+n % 64 from by omega]
    ·rw[encodeRuneZ_four (by omega) (by omega),ap h1,ap h2,ap h3]
     simp only[av,dW]
     rw[show ((240:Int)+n / 262144).toNat=240+n / 262144 from by omega,show ((128:Int)+n / 4096 % 64).toNat=128+n / 4096 % 64 from by omega,show ((128:Int)+n / 64 % 64).toNat=128+n / 64 % 64 from by omega,show ((128:Int)+n % 64).toNat=128+n % 64 from by omega]
 ·have q:¬((0≤r∧r<55296)∨(57343<r∧r≤1114111)):=by simpa [validRune] using hv
  have l:validRune r=false:=by simpa using hv
  rw[l,encodeRuneZ_bad (by omega)]
  simp[Utf8.runeError]
theorem xg (r:Int):(ac r).size=(encodeRune r).length:=by
 rw[←mW];simp
theorem xh (r:Int):1≤(encodeRune r).length∧(encodeRune r).length≤4:=by
 have:=encodeRuneZ_length r;simpa [encodeRune] using this
structure Pc where
 i:Nat
 w:Nat
 r:Nat
 deriving DecidableEq
def Pc.broken (p:Pc):Bool:=p.r==65533&&p.w==1
def qY:Nat→Nat→List UInt8→List Pc
 |0,_,_=>[]
 |f+1,i,l=>if l=[] then [] else ⟨i,(decodeL l).2,(decodeL l).1⟩::qY f (i+(decodeL l).2) (l.drop (decodeL l).2)
def mX (i:Nat) (l:List UInt8):List Pc:=qY l.length i l
def eA (l:List UInt8):List Pc:=mX 0 l
theorem rZ (l:List UInt8):1≤(decodeL l).2:=decodeL_width l
theorem xi (l:List UInt8) (h:l≠[]):(decodeL l).2≤l.length:=decodeL_le l h
theorem Mj:∀ (f g i:Nat) (l:List UInt8),l.length≤f→l.length≤g→qY f i l=qY g i l:=by
 intro f
 induction f with
 |zero=>
  intro g i l h1 h2
  have:l=[]:=ck (by omega)
  subst this
  cases g<;>simp[qY]
 |succ f E=>
  intro g i l h1 h2
  cases g with
  |zero=>
   have:l=[]:=ck (by omega)
   subst this
   simp[qY]
  |succ g=>
   by_cases q:l=[]
   ·simp[qY,q]
   ·simp only[qY,q,if_false]
    have:=rZ l
    have D:0<l.length:=cU.2 q
    rw[E g _ _ (by simp;omega) (by simp;omega)]
theorem sa (i:Nat):mX i []=[]:=by simp[mX,qY]
theorem sb (i:Nat) (l:List UInt8) (h:l≠[]) :
  mX i l=⟨i,(decodeL l).2,(decodeL l).1⟩::mX (i+(decodeL l).2) (l.drop (decodeL l).2):=by
 have q:0<l.length:=cU.2 h
 unfold mX
 obtain⟨n,D⟩:∃n,l.length=n+1:=⟨l.length-1,by omega⟩
 rw[D]
 simp only[qY,h,if_false]
 have:=rZ l
 rw[Mj n (l.drop (decodeL l).2).length _ _ (by simp;omega) (bi _)]
theorem F8 (l:List UInt8) (h:l≠[]) (hb:¬((decodeL l).1=65533∧(decodeL l).2=1)):(encodeRune ((decodeL l).1:Nat)).length=(decodeL l).2:=by
 rw[encode_decode l h hb]
 have:=xi l h
 simp;omega
theorem Ch:encodeRune ((65533:Nat):Int)=[239,191,189]:=by decide
theorem Mk (l:List UInt8) (h:l≠[]) (hr:(decodeL l).1=65533) (q:(decodeL l).2≠1):l.take 3=[239,191,189]∧(decodeL l).2=3:=by
 have h1:=encode_decode l h (fun h=>q h.2)
 have h2:=F8 l h (fun h=>q h.2)
 rw[hr,Ch] at h1 h2
 simp at h2
 rw[←h2] at h1
 exact⟨h1.symm,h2.symm⟩
theorem Mn (l:List UInt8) (hr:(decodeL l).1=65533) (q:(decodeL l).2=1):l.take 3≠[239,191,189]:=by
 intro h3
 obtain⟨t,rfl⟩:∃t,l=239::191::189::t:=by
  rcases l with _|⟨a,_|⟨b,_|⟨c,t⟩⟩⟩<;>simp at h3
  exact⟨t,by simp[h3]⟩
 rw[decodeL_N] at q
 simp[decodeN] at q
theorem F9 (l:List UInt8):(decodeL l).1<55296∨(57343<(decodeL l).1∧(decodeL l).1≤1114111):=by
 rw[decodeL_N];exact decodeN_valid _ _ _ _ _ (UInt8.toNat_lt _)
structure xj (l:List UInt8) (r wd:Nat):Prop where
 eq:decodeL l=(r,wd)
 pos:1≤wd
 le:wd≤l.length
 valid:r<55296∨(57343<r∧r≤1114111)
 width:¬(r=65533∧wd=1)→(encodeRune ((r:Nat):Int)).length=wd
 bytes:¬(r=65533∧wd=1)→encodeRune ((r:Nat):Int)=l.take wd
 lost_ok:r=65533→wd≠1→l.take 3=[239,191,189]∧wd=3
 lost_bad:r=65533→wd=1→l.take 3≠[239,191,189]
theorem xk (l:List UInt8) (h:l≠[]):xj l (decodeL l).1 (decodeL l).2 :=
 ⟨rfl,rZ l,xi l h,F9 l,F8 l h,encode_decode l h,Mk l h,Mn l⟩
theorem Mo (P:Program) (wr:World) (l:Nat) (s:ae) (pos:Nat) (hit:wr.heap[l]?=some (.stringIter s pos)) (G:pos<s.size) :
  ∃ (r wd:Nat) (E:World),(∀ty,(Instr.next (.pointer (some ⟨l,0,none⟩)) true ty).run P wr=.ok (.tuple #[.bool true,.int .i64 pos,.int .i32 r]) E) ∧
   Fr (fun k=>k=l) wr E∧E.heap[l]?=some (.stringIter s (pos+wd))∧E.heap.size=wr.heap.size ∧
   xj (s.data.toList.drop pos) r wd∧mX pos (s.data.toList.drop pos)=⟨pos,wd,r⟩::mX (pos+wd) (s.data.toList.drop (pos+wd))∧pos+wd≤s.size∧1≤wd:=by
 have D:s.data.toList.drop pos≠[]:=by
  intro e;have:=aH fu e;simp at this;omega
 have hd:=decodeL_drop s pos
 have q:=xk _ D
 refine⟨(decodeL (s.data.toList.drop pos)).1,(decodeL (s.data.toList.drop pos)).2,wr.iterAt l s (pos+(decodeL (s.data.toList.drop pos)).2),?_,Fr.iterAt (Fr.refl (fun k=>k=l) wr) (.inl rfl) s _,iterAt_heap wr l s pos _ hit,iterAt_size ..,q,?_,?_,rZ _⟩
 ·intro ty
  rw[hd]
  exact run_next_any_at wr l s pos ty hit G
 ·rw[sb pos _ D,fa]
 ·have:=q.le;simp at this;omega
theorem Mr (P:Program) (wr:World) (l:Nat) (s:ae) (pos:Nat) (hit:wr.heap[l]?=some (.stringIter s pos)) (q:¬pos<s.size) :
  (∀ty,(Instr.next (.pointer (some ⟨l,0,none⟩)) true ty).run P wr=.ok (.tuple #[.bool false]) wr)∧mX pos (s.data.toList.drop pos)=[] :=
 ⟨fun ty=>run_next_end_at wr l s pos ty hit q,by rw[de (by simp;omega),sa]⟩
def eH (s:ae):List Int:=(eA s.data.toList).map fun p=>(p.r:Int)
theorem Ga (s:ae):∀ (n i:Nat) (acc:Array Value),s.size-i≤n→fA s n i acc=acc++((mX i (s.data.toList.drop i)).map fun p=>aC .i32 (p.r:Int)).toArray
 |0,i,acc,h=>by
  rw[de (by simp;omega),sa];simp[fA]
 |n+1,i,acc,h=>by
  unfold fA
  by_cases hi:i<s.size
  ·have l:s.data.toList.drop i≠[]:=by
    intro e;have:=aH fu e;simp at this;omega
   have hd:=decodeL_drop s i
   have h1:=rZ (s.data.toList.drop i)
   rw[ax hi]
   simp only
   rw[←hd,Ga s n _ _ (by omega),sb _ _ l,fa]
   simp
  ·rw[ap hi,de (by simp;omega),sa];simp
theorem xl (s:ae):fA s s.size 0 #[]=((eH s).map (aC .i32)).toArray:=by
 rw[Ga s s.size 0 #[] (by omega)]
 simp[eH,eA,Function.comp_def]
section
variable {F:Fence} {P:Program} {w0:World} {K:Nat→Prop} {N:Nat} {dfs:List Deferred} {ops:Array Oper} {Q:Exit→Act→World→Prop} {rest:List Oper} {σ:List (Nat×Value)} {L:List Asn}
 {d:Nat} {ty:TypeId} {pos:String} {aft:Array Edge} {g:Option (Nat×Bool)} {x:Operand} {t e:TypeId} {k:Nat} {vv:Value}
theorem Mt {ε:Type} {_k:ε→List Value} {size b cap:Nat} {l:Array Value} {ys:List ε} (q:∀x,(_k x).length=size) (ht:l.toList.take (ys.length*size)=ys.flatMap _k) (D:l.size=cap*size) (hc:ys.length≤cap) (hm:cap≤maxLen):po (obj b (.cells l e (0,0))) (vec _k e size (.slice (some ⟨b,0,none⟩) ys.length cap) ys):=by
 rintro C w ⟨h1,h2⟩
 have E:(ys.flatMap _k).length=ys.length*size:=ql q ys
 refine⟨⟨E,.inr ⟨b,cap,l,rfl,cm _,h2,hc,hm,D,ht⟩⟩,?_⟩
 funext j;simp[bR,h1,eq_comm]
theorem vq (s:ae):(eH s).length≤s.size:=by
 have h:=size_runesFrom s s.size 0 #[]
 rw[xl] at h
 simpa using h
theorem vt [br F] {src:TypeId} {s:ae} (M:s.size≤1073741824) (hg:gd ops σ g=some true) (hd:d<N) (hx:ev σ x=some (.string s)) (J:P.underlying src=some .string) (ht:P.underlying t=some (.slice e)) (he:P.underlying e=some (.int .i32))
  (h:∀G,TO F P w0 K N dfs ops Q rest ((d,G)::σ) (L++[vec (kl .i32) e 1 G (eH s)])) :
  TO F P w0 K N dfs ops Q (⟨some d,.convert src t x,ty,pos,aft,g⟩::rest) σ L:=by
 refine nS hg (by simp) fun a w ha I=>?_
 have O:=vq s
 have hr:=run_runes_of_string (P:=P) w src t e s J ht he (by rw[xl];simp;omega)
 refine⟨_,_,by simp only[execOp,ha.ev hx,an,hr];rfl,h _ _ _ (ha.put hd _) ?_⟩
 have hz:(fA s s.size 0 #[]).size=(eH s).length:=by rw[xl];simp
 rw[hz]
 have D:=grownCap_ge w (eH s).length 0 e
 have q:=grownCap_le_maxLen w (eH s).length 0 e (by simp only[maxLen];omega)
 generalize grownCap w (eH s).length 0 e=cap at D q
 have h2:=I.drew.alloc (.cells (fA s s.size 0 #[]++fb (cap-(eH s).length) (.int .i32 0)) e (0,0))
 have E:(eH s).flatMap (kl .i32)=(eH s).map (aC .i32):=by
  generalize eH s=l
  induction l with
  |nil=>rfl
  |cons x l H=>rw[aK,H];rfl
 have h3:=h2.ent (k:=L.length) (A:=obj w.drew.heap.size (.cells (fA s s.size 0 #[]++fb (cap-(eH s).length) (.int .i32 0)) e (0,0))) (by simp) (Mt (size:=1) (cap:=cap) (ys:=eH s) (jI (k:=.i32)) (by
  rw[xl,E];simp) (by rw[xl];simp;omega) D q)
 simpa using h3
def iL (l:List Int):ae:=runesBytes l
theorem Ci [br F] {src:TypeId} {xs:List Int} (hg:gd ops σ g=some true) (hd:d<N) (hx:ev σ x=some vv) (hk:L[k]?=some (vec (kl .i32) e 1 vv xs)) (D:P.underlying src=some (.slice e)) (he:P.underlying e=some (.int .i32)) (ht:P.underlying t=some .string)
  (h:TO F P w0 K N dfs ops Q rest ((d,.string (iL xs))::σ) L):TO F P w0 K N dfs ops Q (⟨some d,.convert src t x,ty,pos,aft,g⟩::rest) σ L :=
 jl hg hd (by simp) (fun a w ha E=>by
  obtain⟨C,hV⟩:=E.vec hk
  have hc:(convert src t vv).run P w=.ok (.string (iL xs)) w:=by
   rcases hV.shape with⟨rfl,rfl,_⟩|⟨q,cap,rfl,_⟩
   ·rw[run_convert_runes_string w src t e none 0 0 D he ht];simp[Conv.runesToString,iL,runesBytes]
   ·rw[run_convert_runes_string w src t e _ _ _ D he ht]
    refine run_runesToString w _ _ _ xs ?_
    have:=run_loadCells_list (P:=P) (w:=w) ⟨q,0,none⟩ (xs.map (aC .i32)) (by
     intro j v hj
     rw[bT,cS] at hj
     obtain⟨n,G,rfl⟩:=hj
     have l:(⟨q,0,none⟩:Addr).add j=⟨q,j,none⟩:=by unfold pH;split<;>simp_all
     rw[l]
     have:=hV.cell (i:=j) (j:=0) (x:=n) (u:=.int .i32 n) (jI (k:=.i32)) rfl G (by omega) rfl
     simpa using this)
    simpa using this
  simp only[execOp,ha.ev hx,an,hc];rfl) h
end
theorem Gb {α:Type} {enc:α→List Value} {size:Nat} {P:Program} (w:World) (t ty e:TypeId) (i:TypeInfo) (z:Value) (bytes:Nat) (ht:P.underlying t=some (.slice e)) (hi:P.info? e=some i) (hz:i.zero=some z)
  (q:i.size=size) (I:i.bytes=bytes) (O:z.cells.size=size) (hsz:0<size) (H:∀x,(enc x).length=size) (h1:∀x,∀u∈enc x,u.oneCell'=true)
  (v:Value) (L:List α) (C:Nat→Prop) (l:gZ enc e size v L C w) (ys:List α) (a:Addr) (c:Nat)
  (D:∀j u,(ys.flatMap enc)[j]?=some u→w.cell? (a.add j)=some u) (W:L.length+ys.length≤2147483648) (E:bytes≤65536) :
  ∃G w',(cR #[t,t] ty #[v,.slice (some a) ys.length c]).run P w=.ok G w'∧∃C',gZ enc e size G (L++ys) C' w'∧cz C C' w w':=by
 obtain⟨l,rfl⟩:=l
 have U:(ys.flatMap enc).length=ys.length*size:=ql H ys
 have M:∀u∈ys.flatMap enc,u.oneCell'=true:=by
  intro u hu
  obtain⟨x,hx,hu⟩:=gD.1 hu
  exact h1 x u hu
 have J:(L.length+ys.length)*bytes≤140737488355328:=by
  have:(L.length+ys.length)*bytes≤2147483648*65536:=Nat.mul_le_mul (by omega) E
  omega
 obtain⟨G,w',hr,r1,r2,_⟩:=run_append_own (P:=P) w 0 t ty e i z size bytes ht hi hz q I O hsz v L.length (L.flatMap enc) l a ys.length c (ys.flatMap enc) U D M (by simp[maxLen];omega) J (cm _)
 have T:=BU (P:=P) w 0 t ty e i z size bytes ht hi hz q I v L.length (L.flatMap enc) l a ys.length c (ys.flatMap enc) U D M (by simp[maxLen];omega) J hr
 have V:Rw enc w' 0 e size G (L++ys):=by
  unfold Rw;rw[aa,dZ];exact r1
 exact⟨G,w',hr,_,⟨V,rfl⟩,zD r2 T (fun g hg=>(fc V g hg).2)⟩
theorem Mu {P:Program} (w:World) (t ty e:TypeId) (i:TypeInfo) (ht:P.underlying t=some (.slice e)) (hi:P.info? e=some i) (b:Option Addr) (n cap c:Nat) (h:n≤cap) :
  (cR #[t,t] ty #[.slice b n cap,.slice none 0 c]).run P w=.ok (.slice b n cap) w:=by
 cases b<;>simp[cR,run_underlying ht,sizeOf,typeInfo,hi,iQ,h,kI,storeCells,an]
section
variable {F:Fence} {P:Program} {w0:World} {K:Nat→Prop} {N:Nat} {dfs:List Deferred} {ops:Array Oper} {Q:Exit→Act→World→Prop} {rest:List Oper} {σ:List (Nat×Value)} {L:List Asn}
 {d:Nat} {ty:TypeId} {pos:String} {aft:Array Edge} {g:Option (Nat×Bool)} {s x:Operand} {t e e2:TypeId} {k k2 j size:Nat} {vv v2 v:Value} {α:Type} {enc:α→List Value} {xs ys Ls:List α}
theorem Vw.cells {C:Nat→Prop} {w:World} (l:∀x,(enc x).length=size) (M:0<size) (h:gZ enc e2 size v2 Ls C w) (hV:Vw v2 Ls size j v ys) (H:ys≠[]):∃c,v=.slice (some ⟨gn v2,j*size,none⟩) ys.length c∧∀n u,(ys.flatMap enc)[n]?=some u→w.cell? ((⟨gn v2,j*size,none⟩:Addr).add n)=some u:=by
 have I:=fun (i:Nat) (q:α) (O:ys[i]?=some q)=>hV.get (i:=(i:Int)) (gw O)
 obtain⟨_,_,q',c,E,_,hp⟩:=hV
 have hp:=hp H
 subst hp
 refine⟨c,E,fun n u hu=>?_⟩
 have D:(⟨gn v2,j*size,none⟩:Addr).add n=⟨gn v2,j*size+n,none⟩:=by unfold pH;split<;>simp_all
 rw[D]
 have G:n<ys.length*size:=by
  have:=(az.1 hu).1;rwa [ql l ys] at this
 have hi:n / size<ys.length:=Nat.div_lt_of_lt_mul (by rwa [Nat.mul_comm] at G)
 have hr:n % size<size:=Nat.mod_lt _ M
 have J:n / size*size+n % size=n:=Nat.div_add_mod' n size
 have hy:ys[n / size]?=some ys[n / size]:=aO hi
 have h2:=BT l ys (n / size) (n % size) _ hy hr
 rw[J,hu] at h2
 have h3:=h.cellAt l (I _ _ hy) hr h2.symm
 have e1:(j+((n / size:Nat):Int).toNat)*size+n % size=j*size+n:=by
  rw[bN,c6];omega
 rwa [e1] at h3
theorem Cj [br F] (ht:P.underlying t=some (.slice e)) (hE:dH P e size) (E:∀x,(enc x).length=size) (h1:∀x,∀u∈enc x,u.oneCell'=true) (hV:Vw v2 Ls size j v ys) (hg:gd ops σ g=some true) (hd:d<N) (O:ev σ s=some vv) (hx:ev σ x=some v)
  (hk:L[k]?=some (vec enc e size vv xs)) (V:L[k2]?=some (vec enc e2 size v2 Ls)) (hn:xs.length+ys.length≤2147483648)
  (h:∀H,TO F P w0 K N dfs ops Q rest ((d,H)::σ) (L.set k (vec enc e size H (xs++ys)))) :
  TO F P w0 K N dfs ops Q (⟨some d,.call { callee:=.builtin .append,args:=#[s,x],argTypes:=#[t,t] },ty,pos,aft,g⟩::rest) σ L:=by
 obtain⟨i,Z,hi,hz,D,I,hsz,q⟩:=hE
 refine nS hg (by simp) fun a w ha hw=>?_
 obtain⟨C2,W⟩:=hw.vec V
 obtain⟨C,G,l⟩:=hw.focus hk
 by_cases J:ys=[]
 ·subst J
  obtain⟨_,_,q',c,U,_,_⟩:=hV
  subst U
  rw[aE] at h
  rcases q' with _|q'
  ·obtain⟨b,cap,hb⟩:=gZ.len G
   have M:xs.length≤cap:=by
    rcases G.shape with⟨h3,Y,_⟩|⟨gb,ag,h3,_,Y,_⟩
    ·rw[Y];exact cm _
    ·rw[hb] at h3;cases h3;exact Y
   have hr:=Mu (P:=P) w t ty e i ht hi b xs.length cap c M
   refine⟨vv,w,?_,h vv _ _ (ha.put hd _) (l _ C w (cz.refl _ _) G)⟩
   subst hb
   simp[execOp,resolve,invoke,builtin,ha.ev O,ha.ev hx,hr,an]
  ·obtain⟨H,w',hr,C',h2,h3⟩:=Gb (P:=P) w t ty e i Z i.bytes ht hi hz D rfl I hsz E h1 vv xs C G [] q' c (by simp) (by simpa using hn) q
   rw[aE] at h2
   refine⟨H,w',?_,h H _ _ (ha.put hd _) (l _ C' w' h3 h2)⟩
   have T:(cR #[t,t] ty #[vv,.slice (some q') 0 c]).run P w=.ok H w':=hr
   simp[execOp,resolve,invoke,builtin,ha.ev O,ha.ev hx,T,an]
 ·obtain⟨c,rfl,hc⟩:=Vw.cells E hsz W hV J
  obtain⟨H,w',hr,C',h2,h3⟩:=Gb (P:=P) w t ty e i Z i.bytes ht hi hz D rfl I hsz E h1 vv xs C G ys _ c hc hn q
  refine⟨H,w',?_,h H _ _ (ha.put hd _) (l _ C' w' h3 h2)⟩
  simp[execOp,resolve,invoke,builtin,ha.ev O,ha.ev hx,hr,an]
end
theorem Cl {α:Type} {enc:α→List Value} {size:Nat} (l:∀x,(enc x).length=size):∀ (xs:List α) (i:Nat),(xs.flatMap enc).take (i*size)=(xs.take i).flatMap enc
 |[],i=>by simp
 |y::xs,0=>by simp
 |y::xs,i+1=>by
  rw[aK,show (i+1)*size=(enc y).length+i*size by rw[l,c6,jx,jN],List.take_length_add_append,Cl l xs i,List.take_succ_cons,aK]
theorem Gc {α:Type} {enc:α→List Value} {size:Nat} (l:∀x,(enc x).length=size):∀ (xs:List α) (i:Nat),(xs.flatMap enc).drop (i*size)=(xs.drop i).flatMap enc
 |[],i=>by simp
 |y::xs,0=>by simp
 |y::xs,i+1=>by
  rw[aK,show (i+1)*size=(enc y).length+i*size by rw[l,c6,jx,jN],←fa,gV,Gc l xs i,List.drop_succ_cons]
theorem Mv {P:Program} (w:World) (M O ty e:TypeId) (i:TypeInfo) (ht:P.underlying M=some (.slice e)) (hi:P.info? e=some i) (g o q J:Nat) (a:Addr) (l E:Nat) (D:Array Value) (t:TypeId)
  (hg:w.heap[g]?=some (.cells D t (0,0))) (cs:List Value) (T:cs.length=tR l q*i.size) (H:∀j v,cs[j]?=some v→w.cell? (a.add j)=some v) (I:o+cs.length≤D.size) (h1:∀v∈cs,v.oneCell'=true) :
  (ky #[M,O] ty #[.slice (some ⟨g,o,none⟩) q J,.slice (some a) l E]).run P w=.ok (goInt (tR l q)) (w.setRow g (D.toList.take o++cs++D.toList.drop (o+cs.length)).toArray):=by
 have hf:=run_firstCells_some (P:=P) w i.size (tR l q) a l E cs T H
 have G:=run_storeCells_at P g o t cs 0 D w hg (by simpa using I) h1
 simp only[Nat.add_zero] at G
 unfold ky
 simp only[List.getElem?_toArray,an,el,run_underlying ht]
 simp[run_underlying ht,iQ,sizeOf,typeInfo,hi,hf,G,an]
theorem cz.setRow {w:World} {g:Nat} (cs:Array Value):cz (fun k=>k=g) (fun k=>k=g) w (w.setRow g cs) :=
 ⟨⟨by simp,by simp[World.setRow],by simp[World.setRow],by simp,fun k hk l=>setRow_other w g k cs l⟩,fun k hk=>.inl hk⟩
theorem gZ.over {α:Type} {enc:α→List Value} {size g cap:Nat} {e:TypeId} {w:World} {xs ys:List α} {C:Nat→Prop} (q:∀x,(enc x).length=size) (h:gZ enc e size (.slice (some ⟨g,0,none⟩) xs.length cap) xs C w) (j:Nat) (hj:j+ys.length≤xs.length) :
  ∃l:Array Value,w.heap[g]?=some (.cells l e (0,0))∧j*size+(ys.flatMap enc).length≤l.size∧C=(fun k=>k=g) ∧
   gZ enc e size (.slice (some ⟨g,0,none⟩) xs.length cap) (xs.take j++ys++xs.drop (j+ys.length)) C (w.setRow g (l.toList.take (j*size)++ys.flatMap enc++l.toList.drop (j*size+(ys.flatMap enc).length)).toArray):=by
 obtain⟨⟨h1,h2⟩,rfl⟩:=h
 rcases h2 with⟨h2,_⟩|⟨U,M,l,he,_,h5,J,T,H,O⟩
 ·cases h2
 ·cases he
  have hy:(ys.flatMap enc).length=ys.length*size:=ql q ys
  have hm:(j+ys.length)*size≤xs.length*size:=ik _ hj
  have hm2:xs.length*size≤cap*size:=ik _ J
  have G:(j+ys.length)*size=j*size+ys.length*size:=c6 _ _ _
  have D:j*size+(ys.flatMap enc).length≤l.size:=by rw[hy,H];omega
  refine⟨l,h5,D,by funext k;simp[bR,eq_comm],?_⟩
  have E:(xs.take j++ys++xs.drop (j+ys.length)).length=xs.length:=by simp;omega
  refine⟨?_,by funext k;simp[bR]⟩
  unfold Rw
  rw[E]
  refine⟨by rw[ql q,E],.inr ⟨g,cap,_,rfl,cm _,setRow_heap w g l _ e (0,0) h5,J,T,?_,?_⟩⟩
  ·rw[List.size_toArray,aa,aa,bw,aR,hy,dJ,H]
   rw[hy,H] at D
   omega
  ·have e1:l.toList.take (xs.length*size)=xs.flatMap enc:=O
   have I:(xs.flatMap enc).length=xs.length*size:=ql q xs
   have hc:l.toList=xs.flatMap enc++l.toList.drop (xs.length*size):=by rw[←e1,bO]
   have t1:l.toList.take (j*size)=(xs.take j).flatMap enc:=by
    rw[hc,List.take_append_of_le_length (by rw[I];omega),Cl q]
   have t2:l.toList.drop (j*size+(ys.flatMap enc).length)=(xs.drop (j+ys.length)).flatMap enc++l.toList.drop (xs.length*size):=by
    conv=>lhs;rw[hc]
    rw[hy,←G,List.drop_append_of_le_length (by rw[I];exact hm),Gc q]
   rw[t1,t2,dZ,dZ,←aB]
   rw[show (ph enc (List.take j xs)++ph enc ys++ph enc (List.drop (j+ys.length) xs)++List.drop (xs.length*size) l.toList).toArray.toList=_ from rfl]
   rw[List.take_left']
   have:=ql q (xs.take j++ys++xs.drop (j+ys.length))
   rw[E,dZ,dZ] at this
   exact this
def th {α:Type} (xs:List α) (j:Nat) (ys:List α):List α:=xs.take j++ys++xs.drop (j+ys.length)
theorem Mw {α:Type} (xs:List α) (j:Nat):th xs j []=xs:=by simp[th]
theorem Mx {P:Program} (w:World) (l D ty e:TypeId) (i:TypeInfo) (ht:P.underlying l=some (.slice e)) (hi:P.info? e=some i) (b s:Option Addr) (dl dc sl q:Nat) (h0:tR sl dl=0) :
  (ky #[l,D] ty #[.slice b dl dc,.slice s sl q]).run P w=.ok (goInt 0) w:=by
 cases b<;>cases s<;>simp[ky,run_underlying ht,sizeOf,typeInfo,hi,iQ,h0,kI,storeCells,loadCells,loadCellsFrom,an]
section
variable {F:Fence} {P:Program} {w0:World} {K:Nat→Prop} {N:Nat} {dfs:List Deferred} {ops:Array Oper} {Q:Exit→Act→World→Prop} {rest:List Oper} {σ:List (Nat×Value)} {L:List Asn}
 {d:Nat} {ty:TypeId} {pos:String} {aft:Array Edge} {g:Option (Nat×Bool)} {s x:Operand} {t t2 e e2:TypeId} {k k2 j j2 size:Nat} {vv v2 v u:Value} {α:Type} {enc:α→List Value} {xs ds ys Ls:List α}
theorem My [br F] (ht:P.underlying t=some (.slice e)) (hE:dH P e size) (l:∀x,(enc x).length=size) (h1:∀x,∀u∈enc x,u.oneCell'=true) (hV:Vw vv xs size j v ds) (hS:Vw v2 Ls size j2 u ys) (hg:gd ops σ g=some true) (hd:d<N) (hs:ev σ s=some v) (hx:ev σ x=some u)
  (hk:L[k]?=some (vec enc e size vv xs)) (Y:L[k2]?=some (vec enc e2 size v2 Ls))
  (h:TO F P w0 K N dfs ops Q rest ((d,.int .i64 ((min ys.length ds.length:Nat):Int))::σ) (L.set k (vec enc e size vv (th xs j (ys.take ds.length))))) :
  TO F P w0 K N dfs ops Q (⟨some d,.call { callee:=.builtin .copy,args:=#[s,x],argTypes:=#[t,t2] },ty,pos,aft,g⟩::rest) σ L:=by
 obtain⟨i,zv,hi,hz,G,ao,hsz,T⟩:=hE
 refine nS hg (by simp) fun a w ha hw=>?_
 obtain⟨C2,Z⟩:=hw.vec Y
 obtain⟨C,I,D⟩:=hw.focus hk
 by_cases h0:min ys.length ds.length=0
 ·have hy:ys.take ds.length=[]:=by
   rcases Nat.min_eq_zero_iff.1 h0 with h|h
   ·rw[List.length_eq_zero_iff.1 h];simp
   ·rw[h];simp
  obtain⟨_,_,q,c,hq,_,_⟩:=hV
  obtain⟨_,_,q2,c2,W,_,_⟩:=hS
  subst hq;subst W
  have hr:=Mx (P:=P) w t t2 ty e i ht hi q q2 ds.length c ys.length c2 h0
  rw[hy,Mw,h0] at h
  refine⟨.int .i64 0,w,?_,h _ _ (ha.put hd _) (D _ C w (cz.refl _ _) I)⟩
  simp[execOp,resolve,invoke,builtin,ha.ev hs,ha.ev hx,hr,an,goInt]
 ·have hds:ds≠[]:=by intro h;simp[h] at h0
  have U:ys≠[]:=by intro h;simp[h] at h0
  obtain⟨c2,rfl,hc⟩:=Vw.cells l hsz Z hS U
  obtain⟨hj,aw,q,c,rfl,_,hp⟩:=hV
  have hp:=hp hds
  subst hp
  have V:xs≠[]:=by
   intro h;subst h
   have:0<ds.length:=cU.2 hds
   rw[List.length_nil] at hj;omega
  obtain⟨cap,E⟩:=I.ptr V
  generalize gn vv=b at E
  subst E
  have J:(ys.take ds.length).length=min ys.length ds.length:=by rw[bw,Nat.min_comm]
  obtain⟨ag,O,M,hC,H⟩:=I.over l (ys:=ys.take ds.length) j (by rw[J];omega)
  have hr:=Mv (P:=P) w t t2 ty e i ht hi b (j*size) ds.length c ⟨gn v2,j2*size,none⟩ ys.length c2 ag e O ((ys.take ds.length).flatMap enc) (by rw[ql l,J,G])
   (fun n u hu=>hc n u (by
    rw[←Cl l,iI] at hu
    split at hu
    ·exact hu
    ·cases hu)) M (fun u hu=>by
    obtain⟨y,_,hy⟩:=gD.1 hu
    exact h1 y u hy)
  subst hC
  refine⟨_,_,by simp only[execOp,resolve,invoke,builtin,eR,av,dW,ha.ev hs,ha.ev hx,an,iF,kK,gn];simp only[gn] at hr;rw[hr];rfl,h _ _ (ha.put hd _) (D _ _ _ (cz.setRow _) H)⟩
end
theorem Gd {α:Type} (ys:List α) (i:Nat) (q:α):ys.set i q=ys.zipIdx.map (fun p=>if i=p.2 then q else p.1):=by
 apply lS
 intro n
 rw[sV,bT,kw]
 by_cases h:i=n
 ·subst h
  by_cases l:i<ys.length
  ·simp[l]
  ·simp[l,gU (Nat.le_of_not_lt l)]
 ·cases ys[n]?<;>simp[h]
def ti {α:Type} (x:α) (o:Option (List α)):Option (List α):=o.map (x :: ·)
theorem vu {α:Type} {x:α} {o:Option (List α)} {r:List α} (h:ti x o=some r):∃l,r=x::l∧o=some l:=by
 obtain⟨l,h1,h2⟩:=cS.1 h
 exact⟨l,h2.symm,h1⟩
theorem Cm {l:List Int} (h:∀x∈l,U8 x):l.map (fun x=>aC .u8 x)=strCells (jp l):=by
 have e:=F1 h
 conv=>lhs;rw[←e]
 simp[rY,strCells]
section
variable {F:Fence} {P:Program} {w0:World} {K:Nat→Prop} {N:Nat} {dfs:List Deferred} {ops:Array Oper} {Q:Exit→Act→World→Prop} {rest:List Oper} {c:Code} {ex:Exit} {σ:List (Nat×Value)} {L L' As R:List Asn} {A B:Asn} {k:Nat} {β:Type}
theorem lm (q:am L L' R) (h:TO F P w0 K N dfs ops Q rest σ L'):TO F P w0 K N dfs ops Q rest σ L:=fun a w ha l=>h a w ha (l.weaken q)
theorem Ge (hk:L[k]?=some A) (he:po A B) (h:TX w0 K N dfs Q ex σ (L.set k B)):TX w0 K N dfs Q ex σ L:=fun a w ha l=>h a w ha (l.ent hk he)
def TR (F:Fence) (P:Program) (w0:World) (K:Nat→Prop) (N:Nat) (dfs:List Deferred) (Q:Exit→Act→World→Prop) (c:Code) (m:Nat) (σ:List (Nat×Value)) (L:List Asn):Prop :=
 ∀a w,At N dfs σ a→Holds w0 K L w→oA F 0 P c Q m a w
theorem Gf (m:Nat) (h:TR F P w0 K N dfs Q c m σ L):TC F P w0 K N dfs Q (.loop c) σ L:=fun a w ha l=>wpIn_loop_rounds m (h a w ha l)
theorem ud {m:Nat} (h:TC F P w0 K N dfs (_root_.Go.Exit.then (oA F 0 P c Q m) Q) c σ L):TR F P w0 K N dfs Q c (m+1) σ L:=fun a w ha l=>h a w ha l
theorem xm {m:Nat} (h:TR F P w0 K N dfs Q c m σ L):TX w0 K N dfs (_root_.Go.Exit.then (oA F 0 P c Q m) Q) .normal σ L:=fun a w ha l=>h a w ha l
theorem Holds.fold1 {w:World} (h:Holds w0 K L w) (hk:L[k]?=some A) (E:am (L.set k cy) As R) (q:R[k]?=some cy) (H:∀C w,aP (A::As) C w→B.P C w):Holds w0 K (R.set k B) w:=by
 obtain⟨C,hL,hx⟩:=h
 obtain⟨C1,C2,h1,h2,h3,I⟩:=aP.take hk hL
 obtain⟨D,T,O,M,J,g4⟩:=E C2 w h2
 have l:R.set k cy=R:=by
  obtain⟨G,he⟩:=az.1 q
  rw[←he];exact pM G
 refine⟨C,aP.put (C1:=fun i=>C1 i∨D i) (C2:=T) (az.1 q).1 (H _ _ ⟨C1,D,h1,O,fun i a b=>h3 i a ((g4 i).2 (.inl b)),fun i=>_root_.Iff.rfl⟩) (by rw[l];exact M) (fun i a b=>?_) (fun i=>?_),hx⟩
 ·rcases a with a|a
  ·exact h3 i a ((g4 i).2 (.inr b))
  ·exact J i a b
 ·rw[I,g4,or_assoc]
theorem Holds.unfold1 {w:World} {I:β→Prop} {q:β→Asn} {Bs:β→List Asn} (h:Holds w0 K L w) (hk:L[k]?=some A) (E:∀C w,A.P C w→∃b,I b∧aP (q b::Bs b) C w):∃b,I b∧Holds w0 K (L.set k (q b)++Bs b) w:=by
 obtain⟨C,hL,hx⟩:=h
 obtain⟨C1,C2,h1,h2,h3,G⟩:=aP.take hk hL
 obtain⟨b,D,l,O,M,J,H,g4⟩:=E _ _ h1
 refine⟨b,D,C,uc (C1:=fun i=>l i∨C2 i) (C2:=O) (aP.put (C1:=l) (C2:=C2) (az.1 hk).1 M h2 (fun i a b=>h3 i ((g4 i).2 (.inl a)) b) (fun i=>_root_.Iff.rfl)) J (fun i a b=>?_) (fun i=>?_),hx⟩
 ·rcases a with a|a
  ·exact H i a b
  ·exact h3 i ((g4 i).2 (.inr b)) a
 ·rw[G,g4]
  constructor
  ·rintro ((a | a) | a)
   ·exact .inl (.inl a)
   ·exact .inr a
   ·exact .inl (.inr a)
  ·rintro ((a | a) | a)
   ·exact .inl (.inl a)
   ·exact .inr a
   ·exact .inl (.inr a)
theorem xn (hk:L[k]?=some A) (q:am (L.set k cy) As R) (D:R[k]?=some cy) (E:∀C w,aP (A::As) C w→B.P C w) (h:TO F P w0 K N dfs ops Q rest σ (R.set k B)):TO F P w0 K N dfs ops Q rest σ L:=fun a w ha l=>h a w ha (l.fold1 hk q D E)
theorem Mz (hk:L[k]?=some A) (q:am (L.set k cy) As R) (D:R[k]?=some cy) (E:∀C w,aP (A::As) C w→B.P C w) (h:TC F P w0 K N dfs Q c σ (R.set k B)):TC F P w0 K N dfs Q c σ L:=fun a w ha l=>h a w ha (l.fold1 hk q D E)
theorem tj (hk:L[k]?=some A) (q:am (L.set k cy) As R) (D:R[k]?=some cy) (E:∀C w,aP (A::As) C w→B.P C w) (h:TX w0 K N dfs Q ex σ (R.set k B)):TX w0 K N dfs Q ex σ L:=fun a w ha l=>h a w ha (l.fold1 hk q D E)
theorem qs {I:β→Prop} {l:β→Asn} {Bs:β→List Asn} (hk:L[k]?=some A) (E:∀C w,A.P C w→∃b,I b∧aP (l b::Bs b) C w) (h:∀b,I b→TO F P w0 K N dfs ops Q rest σ (L.set k (l b)++Bs b)):TO F P w0 K N dfs ops Q rest σ L:=fun a w ha q=>by
 obtain⟨b,D,hb⟩:=q.unfold1 hk E;exact h b D a w ha hb
end
section
variable {F:Fence} {P:Program} {w0:World} {K:Nat→Prop} {N:Nat} {dfs:List Deferred} {ops:Array Oper} {Q:Exit→Act→World→Prop} {rest:List Oper} {c:Code} {ex:Exit} {σ:List (Nat×Value)} {L As R:List Asn} {k:Nat}
 {α η:Type} {enc:α×η→List Value} {nest:α×η→List Asn} {e:TypeId} {size:Nat} {v:Value} {xs:List α} {zs zs':List (α×η)} {z z':α×η} {i:Nat} {x x':α} {h h':η}
def own (nest:α×η→List Asn) (zs:List (α×η)):Asn:=zhW (zs.flatMap nest)
theorem vx (C:Nat→Prop) (w:World) (h:(mV enc nest e size v xs).P C w):∃zs:List (α×η),zs.map bv=xs∧aP (vec enc e size v zs::[own nest zs]) C w:=by
 obtain⟨⟨zs,hz⟩,h⟩:=h;exact⟨zs,hz,h⟩
theorem xo (hz:zs.map bv=xs) (C:Nat→Prop) (w:World) (h:aP (vec enc e size v zs::[own nest zs]) C w):(mV enc nest e size v xs).P C w:=⟨⟨zs,hz⟩,h⟩
theorem xp (hz:zs[i]?=some z) (C:Nat→Prop) (w:World) (h:(own nest zs).P C w):∃_u:Unit,True∧aP (own nest (zs.eraseIdx i)::nest z) C w:=by
 obtain⟨C1,C2,h1,h2,h3,l⟩:=(F5 hz).1 h
 exact⟨(),trivial,C2,C1,h2,h1,fun k a b=>h3 k b a,fun k=>by rw[l];exact Or.comm⟩
theorem ue (hz:zs'[i]?=some z) (he:zs'.eraseIdx i=zs.eraseIdx i) (C:Nat→Prop) (w:World) (h:aP (own nest (zs.eraseIdx i)::nest z) C w):(own nest zs').P C w:=by
 obtain⟨C1,C2,h1,h2,h3,l⟩:=h
 exact (F5 hz).2 ⟨C2,C1,h2,by rw[he];exact h1,fun k a b=>h3 k b a,fun k=>by rw[l];exact Or.comm⟩
theorem Gg (C:Nat→Prop) (w:World) (h:aP (own nest zs::nest z) C w):(own nest (zs++[z])).P C w:=by
 obtain⟨C1,C2,h1,h2,h3,l⟩:=h
 show aP ((zs++[z]).flatMap nest) C w
 rw[dZ,aK,List.flatMap_nil,aE]
 exact uc h1 h2 h3 l
theorem xq {i:Int} (hz:zs.map bv=xs) (l:zcx xs i=some x):∃h,zcx zs i=some (x,h):=by
 subst hz
 unfold zcx at l ⊢
 split at l
 ·rename_i h0
  rw[ax h0]
  rw[bT] at l
  obtain⟨z,h1,h2⟩:=cS.1 l
  exact⟨z.2,by rw[h1,←h2]⟩
 ·cases l
theorem Cn (hz:zs.map bv=xs):zs.length=xs.length:=by rw[←hz,ar]
theorem MA (hz:zs.map bv=xs):(zs.set i (x',h)).map bv=xs.set i x':=by rw[List.map_set,hz]
theorem Gh (hz:zs.map bv=xs):(zs++[(x,h)]).map bv=xs++[x]:=by rw[List.map_append,hz];rfl
theorem MB (hz:zs[i]?=some z):(zs.set i z')[i]?=some z':=by
 have:=(az.1 hz).1;simp[this]
theorem MC:(zs.set i z').eraseIdx i=zs.eraseIdx i:=List.eraseIdx_set_eq
variable {d:Nat} {ty:TypeId} {pos:String} {aft:Array Edge} {g:Option (Nat×Bool)} {o:Operand}
theorem Co [br F] {l te:TypeId} {Ls:List (α×η)} {vv:Value} {j:Nat} (hz:zs.map bv=xs) (hV:Vw vv Ls size j v zs) (hg:gd ops σ g=some true) (hd:d<N) (hx:ev σ o=some v) (ht:P.underlying l=some (.slice te))
  (h:TO F P w0 K N dfs ops Q rest ((d,.int .i64 (xs.length:Int))::σ) L):TO F P w0 K N dfs ops Q (⟨some d,.call { callee:=.builtin .len,args:=#[o],argTypes:=#[l] },ty,pos,aft,g⟩::rest) σ L :=
 zbV hV hg hd hx ht (by rw[Cn hz];exact h)
theorem MD [br F] {b:ae} {l:TypeId} {te:TypeId} (hg:gd ops σ g=some true) (hd:d<N) (hx:ev σ o=some v) (hk:L[k]?=some (byt e v b)) (ht:P.underlying l=some (.slice te))
  (h:TO F P w0 K N dfs ops Q rest ((d,.int .i64 b.size)::σ) L):TO F P w0 K N dfs ops Q (⟨some d,.call { callee:=.builtin .len,args:=#[o],argTypes:=#[l] },ty,pos,aft,g⟩::rest) σ L :=
 jl hg hd (by simp) (fun a w ha D=>by
  obtain⟨C,hv,_⟩:=D.focus hk
  have G:∃q c,v=.slice q b.size c:=by
   rcases ki.shape hv with⟨rfl,rfl,_⟩|⟨q,cap,H,rfl,_⟩
   ·exact⟨none,0,rfl⟩
   ·exact⟨_,_,rfl⟩
  obtain⟨q,I,E⟩:=G
  have:=ha.ev hx
  simp[execOp,resolve,invoke,builtin,this,E,jk,run_underlying ht,an,goInt]) h
theorem xr (h:TC F P w0 K N dfs Q c σ (L++[byt e (.slice none 0 0) ⟨#[]⟩])):TC F P w0 K N dfs Q c σ L:=fun a w ha l=>
 h a w ha (l.grow (C':=fun _=>False) (cz.refl _ _) (aP.one (A:=byt e (.slice none 0 0) ⟨#[]⟩) ki.nil))
theorem ME (q:TC F P w0 K N dfs Q c σ (L++[mV enc nest e size (.slice none 0 0) ([]:List α)])):TC F P w0 K N dfs Q c σ L:=fun a w ha l=>
 q a w ha (l.grow (C':=fun _=>False) (cz.refl _ _) (by obtain⟨_,_,h⟩:=Mc (enc:=enc) (nest:=nest) (e:=e) (size:=size) (fun _=>False) w (fun _ h=>h);exact h))
theorem Gi (h:TO F P w0 K N dfs ops Q rest σ (L++[cy])):TO F P w0 K N dfs ops Q rest σ L:=fun a w ha l=>by
 refine h a w ha ?_
 obtain⟨C,hL,hx⟩:=l
 exact⟨C,uc hL (Cg 1) (fun _ _ h=>h) (fun k=>by simp),hx⟩
theorem Gj {ε:Type} {_k:ε→List Value} {q1 q2:ε} (he:_k q1=_k q2):∀ (ys:List ε) (i:Nat),(ys.set i q1).flatMap _k=(ys.set i q2).flatMap _k
 |[],i=>rfl
 |y::ys,0=>by simp[he]
 |y::ys,i+1=>by simp[Gj he ys i]
theorem Gk {ε:Type} {_k:ε→List Value} {ys zs:List ε} {q1 q2:ε} (hz:zs=ys.set i q1) (l:∀x,(_k x).length=size) (he:_k q1=_k q2):po (vec _k e size v zs) (vec _k e size v (ys.set i q2)):=by
 subst hz
 rintro C w ⟨h1,h3⟩
 refine⟨?_,h3⟩
 have hf:=Gj he ys i
 have q:(ys.set i q1).length=(ys.set i q2).length:=by simp
 unfold Rw at h1 ⊢
 rw[←hf,←q];exact h1
theorem MF {b:Nat} {ε:Type} {_k:ε→List Value} {y:ε} (l:∀x,(_k x).length=size):po (vec _k e size (.slice (some ⟨b,0,none⟩) 1 1) [y]) (cells b (_k y) e):=by
 intro C w h
 obtain⟨_,_,h'⟩:=Me (_k:=_k) (e:=e) (size:=size) (b:=b) (y:=y) l C w (aP.one1.2 h)
 exact aP.one1.1 h'
end
end Go.Proofs.YtifpjbgnikjglaaGreatDoor
