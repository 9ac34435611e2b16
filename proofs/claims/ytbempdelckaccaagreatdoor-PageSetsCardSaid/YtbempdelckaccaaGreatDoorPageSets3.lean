/-
  Texts laid together: LpR, LfR, Qr, LpC, Pa, LpT, Pb, Pc, Pd, Pe. Nothing is assumed.
-/
import Derived.Test.YtbempdelckaccaaGreatDoorPageSets2
set_option maxRecDepth 100000
set_option maxHeartbeats 4000000
namespace Go.Proofs.YtbempdelckaccaaGreatDoor
abbrev zI (x : Int) : Value := .int .i64 x
abbrev zP (x : Nat) : Value := .pointer (some ⟨x, 0, none⟩)
end Go.Proofs.YtbempdelckaccaaGreatDoor

namespace Go.Proofs.YtbempdelckaccaaGreatDoor
open Go.RowKit Go.Lib
set_option linter.unusedVariables false
set_option linter.unusedSimpArgs false
theorem za0 {σ:List (Nat×Value)}:∀ {σ':List (Nat×Value)},σ'.map (fun p=>σ.lookup p.1)=σ'.map (fun p=>some p.2)→Sbs σ σ'
  | [],_=>zio
  | (t,v)::σ',h=>zni (List.cons.inj h).1 (za0 (List.cons.inj h).2)
theorem zdh {α:Type} {a0 a1:α} {l l':List α} (h:l=l'):a0::a1::l=a0::a1::l':=by rw [h]
theorem zcK {α:Type} {a0 a1 a2:α} {l l':List α} (h:l=l'):a0::a1::a2::l=a0::a1::a2::l':=by rw [h]
theorem zfL {α:Type} {a0 a1 a2 a3:α} {l l':List α} (h:l=l'):a0::a1::a2::a3::l=a0::a1::a2::a3::l':=by rw [h]
theorem zog {α:Type} {a0 a1 a2 a3 a4:α} {l l':List α} (h:l=l'):a0::a1::a2::a3::a4::l=a0::a1::a2::a3::a4::l':=by rw [h]
theorem ztz {α:Type} {a0 a1 a2 a3 a4 a5:α} {l l':List α} (h:l=l'):a0::a1::a2::a3::a4::a5::l=a0::a1::a2::a3::a4::a5::l':=by rw [h]
theorem zwt {α:Type} {a0 a1 a2 a3 a4 a5 a6:α} {l l':List α} (h:l=l'):a0::a1::a2::a3::a4::a5::a6::l=a0::a1::a2::a3::a4::a5::a6::l':=by rw [h]
theorem zip {α:Type} {a0 a1 a2 a3 a4 a5 a6 a7:α} {l l':List α} (h:l=l'):a0::a1::a2::a3::a4::a5::a6::a7::l=a0::a1::a2::a3::a4::a5::a6::a7::l':=by rw [h]
theorem zwI {α:Type} {a0 a1 a2 a3 a4 a5 a6 a7 a8:α} {l l':List α} (h:l=l'):a0::a1::a2::a3::a4::a5::a6::a7::a8::l=a0::a1::a2::a3::a4::a5::a6::a7::a8::l':=by rw [h]
theorem zmh {α:Type} {a0 a1 a2 a3 a4 a5 a6 a7 a8 a9:α} {l l':List α} (h:l=l'):a0::a1::a2::a3::a4::a5::a6::a7::a8::a9::l=a0::a1::a2::a3::a4::a5::a6::a7::a8::a9::l':=by rw [h]
theorem zlm {α:Type} {a0 a1 a2 a3 a4 a5 a6 a7 a8 a9 a10:α} {l l':List α} (h:l=l'):a0::a1::a2::a3::a4::a5::a6::a7::a8::a9::a10::l=a0::a1::a2::a3::a4::a5::a6::a7::a8::a9::a10::l':=by rw [h]
theorem ztA {α:Type} {a0 a1 a2 a3 a4 a5 a6 a7 a8 a9 a10 a11:α} {l l':List α} (h:l=l'):a0::a1::a2::a3::a4::a5::a6::a7::a8::a9::a10::a11::l=a0::a1::a2::a3::a4::a5::a6::a7::a8::a9::a10::a11::l':=by rw [h]
theorem zu1 {D:Nat→Prop} {i0 t0 i1 t1:Nat} {v0 v1:Value} {r r':List (Nat×Nat×Value)} (h:dl D r=dl D r'):dl D ((i0,t0,v0)::(i1,t1,v1)::r)=dl D ((i0,t0,v0)::(i1,t1,v1)::r'):=zas (fun _=>rfl) (zas (fun _=>rfl) h)
theorem zuT {D:Nat→Prop} {i0 t0 i1 t1 i2 t2:Nat} {v0 v1 v2:Value} {r r':List (Nat×Nat×Value)} (h:dl D r=dl D r'):dl D ((i0,t0,v0)::(i1,t1,v1)::(i2,t2,v2)::r)=dl D ((i0,t0,v0)::(i1,t1,v1)::(i2,t2,v2)::r'):=zas (fun _=>rfl) (zas (fun _=>rfl) (zas (fun _=>rfl) h))
theorem znj {D:Nat→Prop} {i0 t0 i1 t1 i2 t2 i3 t3:Nat} {v0 v1 v2 v3:Value} {r r':List (Nat×Nat×Value)} (h:dl D r=dl D r'):dl D ((i0,t0,v0)::(i1,t1,v1)::(i2,t2,v2)::(i3,t3,v3)::r)=dl D ((i0,t0,v0)::(i1,t1,v1)::(i2,t2,v2)::(i3,t3,v3)::r'):=zas (fun _=>rfl) (zas (fun _=>rfl) (zas (fun _=>rfl) (zas (fun _=>rfl) h)))
theorem znk {D:Nat→Prop} {i0 t0 i1 t1 i2 t2 i3 t3 i4 t4:Nat} {v0 v1 v2 v3 v4:Value} {r r':List (Nat×Nat×Value)} (h:dl D r=dl D r'):dl D ((i0,t0,v0)::(i1,t1,v1)::(i2,t2,v2)::(i3,t3,v3)::(i4,t4,v4)::r)=dl D ((i0,t0,v0)::(i1,t1,v1)::(i2,t2,v2)::(i3,t3,v3)::(i4,t4,v4)::r'):=zas (fun _=>rfl) (zas (fun _=>rfl) (zas (fun _=>rfl) (zas (fun _=>rfl) (zas (fun _=>rfl) h))))
theorem ztB {D:Nat→Prop} {i0 t0 i1 t1 i2 t2 i3 t3 i4 t4 i5 t5:Nat} {v0 v1 v2 v3 v4 v5:Value} {r r':List (Nat×Nat×Value)} (h:dl D r=dl D r'):dl D ((i0,t0,v0)::(i1,t1,v1)::(i2,t2,v2)::(i3,t3,v3)::(i4,t4,v4)::(i5,t5,v5)::r)=dl D ((i0,t0,v0)::(i1,t1,v1)::(i2,t2,v2)::(i3,t3,v3)::(i4,t4,v4)::(i5,t5,v5)::r'):=zas (fun _=>rfl) (zas (fun _=>rfl) (zas (fun _=>rfl) (zas (fun _=>rfl) (zas (fun _=>rfl) (zas (fun _=>rfl) h)))))
theorem zjP {D:Nat→Prop} {i0 t0 i1 t1 i2 t2 i3 t3 i4 t4 i5 t5 i6 t6:Nat} {v0 v1 v2 v3 v4 v5 v6:Value} {r r':List (Nat×Nat×Value)} (h:dl D r=dl D r'):dl D ((i0,t0,v0)::(i1,t1,v1)::(i2,t2,v2)::(i3,t3,v3)::(i4,t4,v4)::(i5,t5,v5)::(i6,t6,v6)::r)=dl D ((i0,t0,v0)::(i1,t1,v1)::(i2,t2,v2)::(i3,t3,v3)::(i4,t4,v4)::(i5,t5,v5)::(i6,t6,v6)::r'):=zas (fun _=>rfl) (zas (fun _=>rfl) (zas (fun _=>rfl) (zas (fun _=>rfl) (zas (fun _=>rfl) (zas (fun _=>rfl) (zas (fun _=>rfl) h))))))
theorem zi6 {D:Nat→Prop} {i0 t0 i1 t1 i2 t2 i3 t3 i4 t4 i5 t5 i6 t6 i7 t7:Nat} {v0 v1 v2 v3 v4 v5 v6 v7:Value} {r r':List (Nat×Nat×Value)} (h:dl D r=dl D r'):dl D ((i0,t0,v0)::(i1,t1,v1)::(i2,t2,v2)::(i3,t3,v3)::(i4,t4,v4)::(i5,t5,v5)::(i6,t6,v6)::(i7,t7,v7)::r)=dl D ((i0,t0,v0)::(i1,t1,v1)::(i2,t2,v2)::(i3,t3,v3)::(i4,t4,v4)::(i5,t5,v5)::(i6,t6,v6)::(i7,t7,v7)::r'):=zas (fun _=>rfl) (zas (fun _=>rfl) (zas (fun _=>rfl) (zas (fun _=>rfl) (zas (fun _=>rfl) (zas (fun _=>rfl) (zas (fun _=>rfl) (zas (fun _=>rfl) h)))))))
theorem zwJ {D:Nat→Prop} {i0 t0 i1 t1 i2 t2 i3 t3 i4 t4 i5 t5 i6 t6 i7 t7 i8 t8:Nat} {v0 v1 v2 v3 v4 v5 v6 v7 v8:Value} {r r':List (Nat×Nat×Value)} (h:dl D r=dl D r'):dl D ((i0,t0,v0)::(i1,t1,v1)::(i2,t2,v2)::(i3,t3,v3)::(i4,t4,v4)::(i5,t5,v5)::(i6,t6,v6)::(i7,t7,v7)::(i8,t8,v8)::r)=dl D ((i0,t0,v0)::(i1,t1,v1)::(i2,t2,v2)::(i3,t3,v3)::(i4,t4,v4)::(i5,t5,v5)::(i6,t6,v6)::(i7,t7,v7)::(i8,t8,v8)::r'):=zas (fun _=>rfl) (zas (fun _=>rfl) (zas (fun _=>rfl) (zas (fun _=>rfl) (zas (fun _=>rfl) (zas (fun _=>rfl) (zas (fun _=>rfl) (zas (fun _=>rfl) (zas (fun _=>rfl) h))))))))
theorem zrZ {D:Nat→Prop} {i0 t0 i1 t1 i2 t2 i3 t3 i4 t4 i5 t5 i6 t6 i7 t7 i8 t8 i9 t9:Nat} {v0 v1 v2 v3 v4 v5 v6 v7 v8 v9:Value} {r r':List (Nat×Nat×Value)} (h:dl D r=dl D r'):dl D ((i0,t0,v0)::(i1,t1,v1)::(i2,t2,v2)::(i3,t3,v3)::(i4,t4,v4)::(i5,t5,v5)::(i6,t6,v6)::(i7,t7,v7)::(i8,t8,v8)::(i9,t9,v9)::r)=dl D ((i0,t0,v0)::(i1,t1,v1)::(i2,t2,v2)::(i3,t3,v3)::(i4,t4,v4)::(i5,t5,v5)::(i6,t6,v6)::(i7,t7,v7)::(i8,t8,v8)::(i9,t9,v9)::r'):=zas (fun _=>rfl) (zas (fun _=>rfl) (zas (fun _=>rfl) (zas (fun _=>rfl) (zas (fun _=>rfl) (zas (fun _=>rfl) (zas (fun _=>rfl) (zas (fun _=>rfl) (zas (fun _=>rfl) (zas (fun _=>rfl) h)))))))))
theorem ztC {D:Nat→Prop} {i0 t0 i1 t1 i2 t2 i3 t3 i4 t4 i5 t5 i6 t6 i7 t7 i8 t8 i9 t9 i10 t10:Nat} {v0 v1 v2 v3 v4 v5 v6 v7 v8 v9 v10:Value} {r r':List (Nat×Nat×Value)} (h:dl D r=dl D r'):dl D ((i0,t0,v0)::(i1,t1,v1)::(i2,t2,v2)::(i3,t3,v3)::(i4,t4,v4)::(i5,t5,v5)::(i6,t6,v6)::(i7,t7,v7)::(i8,t8,v8)::(i9,t9,v9)::(i10,t10,v10)::r)=dl D ((i0,t0,v0)::(i1,t1,v1)::(i2,t2,v2)::(i3,t3,v3)::(i4,t4,v4)::(i5,t5,v5)::(i6,t6,v6)::(i7,t7,v7)::(i8,t8,v8)::(i9,t9,v9)::(i10,t10,v10)::r'):=zas (fun _=>rfl) (zas (fun _=>rfl) (zas (fun _=>rfl) (zas (fun _=>rfl) (zas (fun _=>rfl) (zas (fun _=>rfl) (zas (fun _=>rfl) (zas (fun _=>rfl) (zas (fun _=>rfl) (zas (fun _=>rfl) (zas (fun _=>rfl) h))))))))))
theorem zcL {D:Nat→Prop} {i0 t0 i1 t1 i2 t2 i3 t3 i4 t4 i5 t5 i6 t6 i7 t7 i8 t8 i9 t9 i10 t10 i11 t11:Nat} {v0 v1 v2 v3 v4 v5 v6 v7 v8 v9 v10 v11:Value} {r r':List (Nat×Nat×Value)} (h:dl D r=dl D r'):dl D ((i0,t0,v0)::(i1,t1,v1)::(i2,t2,v2)::(i3,t3,v3)::(i4,t4,v4)::(i5,t5,v5)::(i6,t6,v6)::(i7,t7,v7)::(i8,t8,v8)::(i9,t9,v9)::(i10,t10,v10)::(i11,t11,v11)::r)=dl D ((i0,t0,v0)::(i1,t1,v1)::(i2,t2,v2)::(i3,t3,v3)::(i4,t4,v4)::(i5,t5,v5)::(i6,t6,v6)::(i7,t7,v7)::(i8,t8,v8)::(i9,t9,v9)::(i10,t10,v10)::(i11,t11,v11)::r'):=zas (fun _=>rfl) (zas (fun _=>rfl) (zas (fun _=>rfl) (zas (fun _=>rfl) (zas (fun _=>rfl) (zas (fun _=>rfl) (zas (fun _=>rfl) (zas (fun _=>rfl) (zas (fun _=>rfl) (zas (fun _=>rfl) (zas (fun _=>rfl) (zas (fun _=>rfl) h)))))))))))
def zuU (lk:Nat→Option Value):Operand→Option Value
  | .tmp t=>lk t
  | .const v=>some v
  | .func f=>some (.func (.func f) #[] #[])
  | .global _=>none
def zwu (lk:Nat→Option Value) (ops:Array Oper):Option (Nat×Bool)→Option Bool
  | none=>some true
  | some (j,b)=>match (ops[j]?).bind (·.dst) with
    | some t=>match lk t with
      | some (.bool c)=>some (c==b)
      | some (.tuple _)=>some false
      | _=>none
    | none=>none
def zu2 (lk:Nat→Option Value) (N:Nat) (ops:Array Oper) (o:Oper):Option (Nat×Value) :=
  match o.dst with
  | none=>none
  | some d=>match Nat.blt d N with
    | false=>none
    | true=>match zwu lk ops o.guard with
      | none=>none
      | some false=>some (d,undef)
      | some true=>match o.op with
        | .move x=>match zuU lk x with
          | some v=>some (d,v)
          | none=>none
        | .assign x=>match zuU lk x with
          | some v=>some (d,v)
          | none=>none
        | .pick x y z=>match zuU lk x with
          | some (.bool true)=>match zuU lk y with
            | some v=>some (d,v)
            | none=>none
          | some (.bool false)=>match zuU lk z with
            | some v=>some (d,v)
            | none=>none
          | _=>none
        | _=>none
theorem zi7 {lk:Nat→Option Value} {S:List (Nat×Value)} (hl:∀ t v,lk t=some v→S.lookup t=some v) {x:Operand} {v:Value} (h:zuU lk x=some v):ev S x=some v:=by
  cases x with
  | tmp t=>exact hl t v h
  | const c=>exact h
  | func f=>exact h
  | global g=>exact h
theorem ztD {lk:Nat→Option Value} {S:List (Nat×Value)} {ops:Array Oper} (hl:∀ t v,lk t=some v→S.lookup t=some v) {g:Option (Nat×Bool)} {r:Bool} (h:zwu lk ops g=some r):gd ops S g=some r:=by
  cases g with
  | none=>exact h
  | some p =>
    obtain ⟨j,b⟩:=p
    unfold zwu at h; unfold gd
    dsimp only at h ⊢
    cases ht:(ops[j]?).bind (·.dst) with
    | none=>rw [ht] at h; cases h
    | some t =>
      rw [ht] at h; dsimp only at h ⊢
      cases hk:lk t with
      | none=>rw [hk] at h; cases h
      | some v=>rw [hk] at h; rw [hl t v hk]; exact h
theorem zmi {F:Fence} [WideF F] {P:Program} {w0:World} {K:Nat→Prop} {N:Nat} {dfs:List Deferred} {ops:Array Oper} {Q:Exit→Act→World→Prop} {rest:List Oper} {lk:Nat→Option Value} {S:List (Nat×Value)} {L:List Asn} {o:Oper} {t:Nat} {v:Value}
    (hl:∀ t v,lk t=some v→S.lookup t=some v) (e:zu2 lk N ops o=some (t,v)) (h:TO F P w0 K N dfs ops Q rest ((t,v)::S) L):TO F P w0 K N dfs ops Q (o::rest) S L:=by
  obtain ⟨dst,op,ty,pos,aft,g⟩:=o
  unfold zu2 at e
  cases dst with
  | none=>cases e
  | some d =>
    dsimp only at e
    cases hb:Nat.blt d N with
    | false=>rw [hb] at e; cases e
    | true =>
    have hd:d<N:=Nat.lt_of_lt_of_le (Nat.lt_succ_self d) (Nat.le_of_ble_eq_true hb)
    rw [hb] at e; dsimp only at e
    cases hg:zwu lk ops g with
    | none=>rw [hg] at e; cases e
    | some gb =>
      rw [hg] at e
      have hg':=ztD hl hg
      cases gb with
      | false=>cases e; exact zuM hg' hd h
      | true =>
        cases op <;> dsimp only at e <;> first | (cases e; done) | skip
        · split at e
          · cases e; exact zeE hg' hd (zi7 hl (by assumption)) h
          · cases e
        · split at e
          · cases e; exact zgX hg' hd (zi7 hl (by assumption)) h
          · cases e
        · split at e
          · split at e
            · cases e; exact zrL (b:=true) hg' hd (zi7 hl (by assumption)) (zi7 hl (by assumption)) h
            · cases e
          · split at e
            · cases e; exact zrL (b:=false) hg' hd (zi7 hl (by assumption)) (zi7 hl (by assumption)) h
            · cases e
          · cases e
def zwK (N:Nat) (ops:Array Oper):Nat→List Oper→List (Nat×Value)→Option (List Oper×List (Nat×Value))
  | 0,r,σ=>some (r,σ)
  | n+1,o::r,σ=>match zu2 (fun t=>σ.lookup t) N ops o with
    | some p=>zwK N ops n r (p::σ)
    | none=>none
  | _+1,[],_=>none
theorem zyR {F:Fence} [WideF F] {P:Program} {w0:World} {K:Nat→Prop} {N:Nat} {dfs:List Deferred} {ops:Array Oper} {Q:Exit→Act→World→Prop} {L:List Asn} (n:Nat):∀ {rest rest':List Oper} {σ σ':List (Nat×Value)},
    zwK N ops n rest σ=some (rest',σ')→TO F P w0 K N dfs ops Q rest' σ' L→TO F P w0 K N dfs ops Q rest σ L:=by
  induction n with
  | zero=>intro rest rest' σ σ' e h; cases e; exact h
  | succ n ih =>
    intro rest rest' σ σ' e h
    cases rest with
    | nil=>cases e
    | cons o r =>
      simp only [zwK] at e
      split at e
      · exact zmi (fun _ _ h=>h) (by assumption) (ih e h)
      · cases e
def zu3 (deps:List Nat) (σ:List (Nat×Value)) (t:Nat):List (Nat×Nat×Value)→Option Value
  | []=>σ.lookup t
  | (i,t',v)::r=>match Nat.beq t t' with
    | true=>match deps.contains i with
      | true=>some v
      | false=>none
    | false=>zu3 deps σ t r
theorem zmj {D:Nat→Prop} {deps:List Nat} {σ:List (Nat×Value)} (hd:∀ j∈deps,D j) (t:Nat) (v:Value):∀ {vals:List (Nat×Nat×Value)},zu3 deps σ t vals=some v→(dl D vals++σ).lookup t=some v
  | [],h=>h
  | (i,t',v')::r,h=>by
    unfold zu3 at h
    cases hb:Nat.beq t t' with
    | true =>
      rw [hb] at h; dsimp only at h
      have e:t=t':=Nat.eq_of_beq_eq_true hb
      subst e
      split at h
      · cases h
        have hD:D i:=hd i (by simpa using (by assumption:deps.contains i=true))
        simp only [dl]
        rw [if_pos hD]
        simp
      · cases h
    | false =>
      rw [hb] at h; dsimp only at h
      have ih:=zmj (σ:=σ) hd t v h
      have hn:(t==t')=false:=by
        have:t≠t':=Nat.ne_of_beq_eq_false hb
        simpa using this
      simp only [dl]
      split
      · simp only [List.cons_append,List.lookup,hn]; exact ih
      · exact ih
def zr8 (N:Nat) (ops:Array Oper) (σ:List (Nat×Value)) (vals:List (Nat×Nat×Value)):Nat→List Oper→Nat→Option (List Oper×Nat×List (Nat×Nat×Value))
  | 0,r,i=>some (r,i,[])
  | n+1,o::r,i=>match zu2 (fun t=>zu3 (zdd o) σ t vals) N ops o with
    | some p=>match zr8 N ops σ vals n r (i+1) with
      | some q=>some (q.1,q.2.1,(i,p.1,p.2)::q.2.2)
      | none=>none
    | none=>none
  | _+1,[],_=>none
section
variable {F:Fence} {P:Program} {w0:World} {K:Nat→Prop} {N:Nat} {dfs:List Deferred} {Q:Exit→Act→World→Prop} {σ:List (Nat×Value)} {L:List Asn} {ops:Array Oper}
theorem ziq {vals:List (Nat×Nat×Value)} {n m i i':Nat} {o:Oper} {r rest':List Oper} (e:zr8 N ops σ vals (n+1) (o::r) i=some (rest',i',(vals.drop m).take (n+1))) :
    ∃ t v,zu2 (fun t=>zu3 (zdd o) σ t vals) N ops o=some (t,v)∧vals[m]?=some (i,t,v)∧zr8 N ops σ vals n r (i+1)=some (rest',i',(vals.drop (m+1)).take n):=by
  simp only [zr8] at e
  split at e
  · rename_i p hp
    split at e
    · rename_i q hq
      obtain ⟨q1,q2,q3⟩:=q
      simp only [Option.some.injEq,Prod.mk.injEq] at e
      obtain ⟨rfl,rfl,e⟩:=e
      cases hdr:vals.drop m with
      | nil=>rw [hdr] at e; simp at e
      | cons x xs =>
        rw [hdr,List.take_succ_cons,List.cons.injEq] at e
        have hm:vals[m]?=some x:=by
          have:(vals.drop m)[0]?=some x:=by rw [hdr]; rfl
          simpa using this
        refine ⟨p.1,p.2,hp,by rw [hm,← e.1],?_⟩
        have:vals.drop (m+1)=xs:=by rw [← List.drop_drop,hdr]; rfl
        rw [this,← e.2]; exact hq
    · cases e
  · cases e
theorem zyP [WideF F] {vals:List (Nat×Nat×Value)} (n m:Nat):∀ {l rest':List Oper} {i i':Nat},zr8 N ops σ vals n l i=some (rest',i',(vals.drop m).take n) →
    DrawPre F P w0 K N dfs Q ops σ L vals rest' i'→DrawPre F P w0 K N dfs Q ops σ L vals l i:=by
  induction n generalizing m with
  | zero=>intro l rest' i i' e h; cases e; exact h
  | succ n ih =>
    intro l rest' i i' e h
    cases l with
    | nil=>cases e
    | cons o r =>
      obtain ⟨t,v,h1,h2,h3⟩:=ziq e
      exact zac (fun D hn hd hcl hu hi=>zmi (fun t v h=>zmj hd t v h) h1 (zaf m hu hi h2)) (ih (m+1) h3 h)
theorem zyE [WideF F] {vals:List (Nat×Nat×Value)} {x:Nat} (n m:Nat):∀ {l rest':List Oper} {i i':Nat},zr8 N ops σ vals n l i=some (rest',i',(vals.drop m).take n) →
    DrawPreX F P w0 K N dfs Q ops σ L vals x rest' i'→DrawPreX F P w0 K N dfs Q ops σ L vals x l i:=by
  induction n generalizing m with
  | zero=>intro l rest' i i' e h; cases e; exact h
  | succ n ih =>
    intro l rest' i i' e h
    cases l with
    | nil=>cases e
    | cons o r =>
      obtain ⟨t,v,h1,h2,h3⟩:=ziq e
      exact zai (fun D hn hd hcl hu hi=>zmi (fun t v h=>zmj hd t v h) h1 (zaf m hu hi h2)) (ih (m+1) h3 h)
def zyQ {β:Type} (S:List Nat) (LL:(Nat→Prop)→β→List Asn):Prop:=∀ i,S.contains i=false→∀ D b,LL (fun j=>D j∨j=i) b=LL D b
theorem zjY {D:Nat→Prop} {i:Nat} {base:Asn} {r:List (Nat×Asn)} {S:List Nat} (hs:(r.map Prod.fst).all (fun x=>S.contains x)=true) (h:S.contains i=false):eD (fun j=>D j∨j=i) base r=eD D base r:=by
  refine zap ?_
  cases hc:(r.map Prod.fst).contains i with
  | false=>rfl
  | true =>
    have h1:i∈r.map Prod.fst:=by simpa using hc
    have h2:=List.all_eq_true.1 hs i h1
    have h3:S.contains i=true:=h2
    rw [h] at h3; cases h3
theorem zwL {β:Type} {vals:β→List (Nat×Nat×Value)} {LL:(Nat→Prop)→β→List Asn} (hb:¬ Nonempty β):∀ (l:List Oper) (i:Nat),DrawG F P w0 K N dfs Q ops σ vals LL l i
  | [],_=>trivial
  | o::r,i=>⟨fun D b=>absurd ⟨b⟩ hb,zwL hb r (i+1)⟩
theorem zyq {β:Type} {vals:β→List (Nat×Nat×Value)} {LL:(Nat→Prop)→β→List Asn} {S:List Nat} {o:Oper} {rest:List Oper} {i:Nat} (hq:zyQ S LL) (hs:S.contains i=false)
    (hu:∀ b,zcX ((vals b).map (fun p=>p.2.1))=true) (hi:∀ b,zcX ((vals b).map (fun p=>p.1))=true)
    (h:∀ (D:Nat→Prop) (b:β),¬ D i→(∀ j∈zdd o,D j)→Clo ops D→zcX ((vals b).map (fun p=>p.2.1))=true→zcX ((vals b).map (fun p=>p.1))=true →
      TO F P w0 K N dfs ops (Exit.then (fun a w=>At N dfs (dl (fun j=>D j∨j=i) (vals b)++σ) a∧Holds w0 K (LL D b) w) Q) [o] (dl D (vals b)++σ) (LL D b))
    (hr:DrawG F P w0 K N dfs Q ops σ vals LL rest (i+1)):DrawG F P w0 K N dfs Q ops σ vals LL (o::rest) i :=
  zaB (fun D b hn hd hcl a w ha hw=>by
    have h0:=h D b hn hd hcl (hu b) (hi b) a w ha hw
    exact zbZ (fun a' w' h2=>⟨b,h2.1,by rw [hq i hs D b]; exact h2.2⟩) h0) hr
theorem zmg [WideF F] {β:Type} {vals:β→List (Nat×Nat×Value)} {LL:(Nat→Prop)→β→List Asn} {S:List Nat} (hq:zyQ S LL)
    (hu:∀ b,zcX ((vals b).map (fun p=>p.2.1))=true) (hi:∀ b,zcX ((vals b).map (fun p=>p.1))=true) (n m:Nat):∀ {l rest':List Oper} {i i':Nat},
    (∀ b,zr8 N ops σ (vals b) n l i=some (rest',i',((vals b).drop m).take n))→(List.range n).all (fun j=>!S.contains (i+j))=true →
    DrawG F P w0 K N dfs Q ops σ vals LL rest' i'→DrawG F P w0 K N dfs Q ops σ vals LL l i:=by
  induction n generalizing m with
  | zero =>
    intro l rest' i i' e hs h
    by_cases hb:Nonempty β
    · obtain ⟨b⟩:=hb
      have e:=e b
      simp only [zr8,Option.some.injEq,Prod.mk.injEq] at e
      obtain ⟨rfl,rfl,_⟩:=e
      exact h
    · exact zwL hb _ _
  | succ n ih =>
    intro l rest' i i' e hs h
    by_cases hb:Nonempty β
    · obtain ⟨b0⟩:=hb
      cases l with
      | nil=>exact absurd (e b0) (by simp [zr8])
      | cons o r =>
        have hs0:S.contains i=false:=by
          have:=List.all_eq_true.1 hs 0 (by simp)
          simpa using this
        have hs1:(List.range n).all (fun j=>!S.contains (i+1+j))=true:=by
          refine List.all_eq_true.2 fun j hj => ?_
          have:=List.all_eq_true.1 hs (j+1) (by simp at hj ⊢; omega)
          rwa [show i+(j+1)=i+1+j by omega] at this
        refine zyq hq hs0 hu hi (fun D b hn hd hcl hu' hi' => ?_) (ih (m+1) (fun b => ?_) hs1 h)
        · obtain ⟨t,v,h1,h2,h3⟩:=ziq (e b)
          exact zmi (fun t v h=>zmj hd t v h) h1 (zaf m hu' hi' h2)
        · obtain ⟨t,v,h1,h2,h3⟩:=ziq (e b)
          exact h3
    · exact zwL hb _ _
end
section
variable {F:Fence} {P:Program} {w0:World} {K:Nat→Prop} {N:Nat} {dfs:List Deferred} {Q:Exit→Act→World→Prop} {σ:List (Nat×Value)} {L:List Asn} {ops:Array Oper}
theorem zi5 {β:Type} {vals:β→List (Nat×Nat×Value)} {LL:(Nat→Prop)→β→List Asn} {S:List Nat} {o:Oper} {rest:List Oper} {i:Nat} (hq:zyQ S LL) (hs:S.contains i=false)
    (hu:∀ b,zcX ((vals b).map (fun p=>p.2.1))=true) (hi:∀ b,zcX ((vals b).map (fun p=>p.1))=true)
    (h:∀ (D:Nat→Prop) (b:β),¬ D i→(∀ j∈zdd o,D j)→Clo ops D→zcX ((vals b).map (fun p=>p.2.1))=true→zcX ((vals b).map (fun p=>p.1))=true→∃ L',LL D b=L' ∧
      TO F P w0 K N dfs ops (Exit.then (fun a w=>At N dfs (dl (fun j=>D j∨j=i) (vals b)++σ) a∧Holds w0 K L' w) Q) [o] (dl D (vals b)++σ) L')
    (hr:DrawG F P w0 K N dfs Q ops σ vals LL rest (i+1)):DrawG F P w0 K N dfs Q ops σ vals LL (o::rest) i :=
  zyq hq hs hu hi (fun D b hn hd hcl hu hi=>by obtain ⟨L',e,h0⟩:=h D b hn hd hcl hu hi; rw [e]; exact h0) hr
end
section
variable {R:Type} {F:Fence} {P:Program} {w0:World} {K:Nat→Prop} {N:Nat} {dfs:List Deferred} {ops:Array Oper} {Q:Exit→Act→World→Prop} {rest:List Oper} {σ:List (Nat×Value)} {L:List Asn} {x:Operand} {c c1 c2:Code} {p q:Option R} {r:R} {b:Bool}
theorem zyB (hc:ev σ x=some (.bool b)) (h:zay b p q=some r) (ht:p=some r→TC F P w0 K N dfs Q c1 σ L) (hf:q=some r→TC F P w0 K N dfs Q c2 σ L):TC F P w0 K N dfs Q (.cond x c1 c2) σ L:=zpB hc (fun e=>ht (zf0 e h)) (fun e=>hf (zf1 e h))
theorem zaU [WideF F] {b:BinOp} {t yt ty:TypeId} {d:Nat} {pos:String} {aft:Array Edge} {g:Option (Nat×Bool)} {x y:Operand} {v v1 v2:Value} (e:(gd ops σ g,decide (d<N),ev σ x,ev σ y)=(some true,true,some v1,some v2))
    (hb:∀ w:World,(do eqGuard b t x y v1 v2; binOp b t v1 v2:Sem Value).run P w=.ok v w) (h:TO F P w0 K N dfs ops Q rest ((d,v)::σ) L) :
    TO F P w0 K N dfs ops Q (⟨some d,.binOp b t x y yt,ty,pos,aft,g⟩::rest) σ L:=by
  simp only [Prod.mk.injEq] at e
  exact zbz e.1 (of_decide_eq_true e.2.1) e.2.2.1 e.2.2.2 hb h
theorem zyN (h:TC F P w0 K N dfs Q c σ L):TO F P w0 K N dfs ops (Exit.then (c.wpIn F 0 P Q) Q) [] σ L:=zaO (zaH h)
theorem zyG {id:Nat} {l:List Oper} (h:TO F P w0 K N dfs l.toArray (Exit.then (c.wpIn F 0 P Q) Q) l σ L):TC F P w0 K N dfs Q (.seq (.region id l.toArray false) c) σ L:=zaI (zav h)
theorem zyH {id:Nat} {l:List Oper} (h:TO F P w0 K N dfs l.toArray (Exit.then (c.wpIn F 0 P Q) Q) l σ L):TO F P w0 K N dfs ops (Exit.then ((Code.seq (.region id l.toArray false) c).wpIn F 0 P Q) Q) [] σ L:=zaO (zaH (zaI (zav h)))
theorem zyS {s:Nat} (hs:σ.lookup s=some (.bool b)) (h:zay b p q=some r) (ht:p=some r→TO F P w0 K N dfs ops Q rest ((s,.bool true)::σ) L) (hf:q=some r→TO F P w0 K N dfs ops Q rest ((s,.bool false)::σ) L):TO F P w0 K N dfs ops Q rest σ L:=zsW hs (fun e=>ht (zf0 e h)) (fun e=>hf (zf1 e h))
theorem zyO (h:zay b p q=some r) (ht:p=some r→TO F P w0 K N dfs ops Q rest σ L) (hf:q=some r→TO F P w0 K N dfs ops Q rest σ L):TO F P w0 K N dfs ops Q rest σ L:=zfG (b:=b) (fun e=>ht (zf0 e h)) (fun e=>hf (zf1 e h))
theorem zyC (h:zay b p q=some r) (ht:p=some r→TC F P w0 K N dfs Q c σ L) (hf:q=some r→TC F P w0 K N dfs Q c σ L):TC F P w0 K N dfs Q c σ L:=zcW (b:=b) (fun e=>ht (zf0 e h)) (fun e=>hf (zf1 e h))
abbrev zyj (F:Fence) (P:Program) (w0:World) (K:Nat→Prop) (N:Nat) (dfs:List Deferred) (ops:Array Oper) (Q:Exit→Act→World→Prop) (rest:List Oper) (σ:List (Nat×Value)) (L:List Asn):Prop:=TO F P w0 K N dfs ops Q rest σ L
end
abbrev zr0 (x:Gapi_Layout):List Value:=[zI x.Width,zI x.Height,zI x.Turn,zI x.Every]
abbrev zr1 (x:Gapi_Cell):List Value:=[zI x.Span_From,zI x.Span_To,zI x.Columns]
abbrev zr2 (x:Gapi_Piece):List Value:=[zI x.At,zI x.Width,.int .i32 x.Rune,.bool x.Broken]
abbrev zr3 (x:Gapi_Row):List Value:=[zI x.Line,zI x.Stanza,zI x.Part,zI x.Indent,zI x.Number,.string x.Text]
abbrev zr4 (x:Gapi_Verse):List Value:=[.string x.Text,zI x.Indent,zI x.Stanza,zI x.In,zI x.Span_From,zI x.Span_To]
abbrev zr5 (x:Gapi_Span):List Value:=[zI x.From,zI x.To]
abbrev zr6 (x:Gapi_Spot):List Value:=[zI x.Err,zI x.At]
abbrev zr7 (x:Gpage_best):List Value:=[zI x.cost,zI x.rows,zI x.to_]
abbrev zv0 (v:Value):=vec (zqb (.i64)) 3 1 v
abbrev zv1 (v:Value):=vec zbf 33 6 v
abbrev zv2 (v:Value):=vec zeL 40 3 v
abbrev zv3 (v:Value):=vec zdL 157 4 v
abbrev zv4 (v:Value):=vec zen 155 5 v
abbrev zv5 (v:Value):=vec zqa 9 1 v
abbrev zv6 (v:Value):=vec zbF 76 6 v
abbrev zv7 (v:Value):=vec zdS 38 2 v
abbrev zv8 (v:Value):=vec zh7 176 3 v
abbrev zv9 (v:Value):=vec zej 146 5 v
abbrev zs0 (v:Value):=vec zek 187 3 v
def zfg (r1:Int):Option Int :=
zbk (fun (j1:Option Int) =>
zay ((r1:Int) != 65533) (
zay (decide (Utf8.encode r1=(⟨#[239,191,189]⟩:ByteArray))) (
some 0
) (
j1
)
) (
j1
)
) (
some ((Utf8.encode r1).size:Int)
)
theorem zlr {r1:Int} {r:Int} (h:zfg r1=some r):FnP Tryz.prog 102 [.int .i32 r1] (zI r):=by
 unfold zfg at h
 refine FnP.intro Tryz.func102 rfl Tryz.ntmps102 (by simp) ?_
 intro w0 K
 obtain ⟨j1,hj1,h⟩:=zbG h
 refine zaX (β:=Unit) 1 rfl (fun b=>j1=some r) (fun b=>[]) (fun b=>[(0,.int .i32 r1)]) (fun b=>[]) (fun cut => ?_) ?_
 ·
  refine zyG (zyR 1 rfl (zyN (cut (zyG (zyR 1 rfl (zaU rfl zbS (zyR 1 rfl ?_)))))))
  refine zyS (s:=5) rfl h (fun h => ?_) (fun h => ?_)
  ·
   refine zyR 1 rfl (zrN rfl dc rfl (zn8 Tryz.underlying21 Tryz.underlying9) (zaU rfl zhR (zyR 1 rfl (zyN ?_))))
   refine zyB rfl h (fun h => ?_) (fun h => ?_)
   ·
    refine zyG (zyR 1 rfl (zyN (zaG (zao ?_))))
    cases h
    exact zaK (rs:=[.tmp 2]) () (.inl rfl) Tryz.results102 (.cons (.tmp rfl) .nil) rfl Splits.nil
   refine zar ?_
   exact zal () h rfl (za0 rfl) Splits.nil
  refine zyR 4 rfl (zyN (zaS rfl (zar ?_)))
  exact zal () h rfl (za0 rfl) Splits.nil
 rintro _ h
 rw [hj1] at h
 refine zyG (zyR 1 rfl (zrN rfl dc rfl (zn8 Tryz.underlying21 Tryz.underlying9) (zcg rfl dc rfl Tryz.underlying9 (zyR 1 rfl (zyN (zaG ?_))))))
 cases h
 exact zaK (rs:=[.tmp 2]) () (.inl rfl) Tryz.results102 (.cons (.tmp rfl) .nil) rfl Splits.nil
def zeG (s1:ByteArray) (at1:Int) (j1:Option Gapi_Piece) (ag1:Option Gapi_Piece):Option Gapi_Piece :=
zay (decide (0<(pcs (zb8 s1 at1 (s1.size:Int)).data.toList).length)) (
zah ((pcs (zb8 s1 at1 (s1.size:Int)).data.toList)[0]?) fun (p1:Pc) =>
zbk (fun (j2:Int→Option Gapi_Piece) =>
zah (zfg (p1.r:Int)) fun (r1:Int) =>
zay (((p1.r:Int):Int)==65533) (
grd (I64 ((s1.size:Int) - at1)) <|
zay (decide ((((s1.size:Int) - at1):Int)<3)) (
some (⟨at1,1,65533,true⟩:Gapi_Piece)
) (
grd (I64 (at1+3)) <|
grd (0≤(at1:Int)∧(at1:Int)≤(at1+3)∧(at1+3:Int)≤(s1.size:Int)) <|
zay (!decide (zb8 s1 at1 (at1+3)=(⟨#[239,191,189]⟩:ByteArray))) (
some (⟨at1,1,65533,true⟩:Gapi_Piece)
) (
j2 r1
)
)
) (
j2 r1
)
) (fun (n2:Int) =>
some (⟨at1,n2,(p1.r:Int),false⟩:Gapi_Piece)
)
) (
j1
)
def ze7 (s1:ByteArray) (at1:Int):Option Gapi_Piece :=
zbk (fun (j1:Option Gapi_Piece) =>
grd (0≤(at1:Int)∧(at1:Int)≤(s1.size:Int)∧((s1.size:Int):Int)≤(s1.size:Int)) <|
zaE none (zeG s1 at1 j1) zbN
) (
some (⟨0,0,0,false⟩:Gapi_Piece)
)
theorem zmB {s1:ByteArray} {at1:Int} {r:Gapi_Piece} (h:ze7 s1 at1=some r):FnP Tryz.prog 70 [.string s1,zI at1] (.agg (zr2 r).toArray):=by
 unfold ze7 at h
 refine FnP.intro Tryz.func70 rfl Tryz.ntmps70 (by simp) ?_
 intro w0 K
 obtain ⟨j1,hj1,h⟩:=zbG h
 refine zaX (β:=Nat) 1 rfl (fun b=>j1=some r) (fun b=>[]) (fun b=>[(4,zP b)]) (fun b=>[cells b [zI 0,zI 0,.int .i32 0,.bool false] 85]) (fun cut => ?_) ?_
 ·
  refine zyG ?_
  refine zbE ztE rfl dc (fun b2 => ?_)
  refine zyN (cut (zyG (zyR 2 rfl ?_)))
  obtain ⟨hg1,h⟩:=zbr h
  refine zdG rfl dc rfl rfl rfl (zce (i:=at1) (j:=(s1.size:Int)) Tryz.underlying9 (.inr rfl) (.inl ⟨rfl,rfl⟩) hg1) ?_
  refine zfF Tryz.underlying9 rfl dc rfl (fun b3 => ?_)
  refine zyN (zaF ?_)
  refine zbj (β:=Nat) (fun b=>zaE none (zeG s1 at1 j1) b=some r) (fun b=>[]) (fun b=>[(0,.string s1),(1,zI at1),(4,zP b2),(11,zP b3)]) (fun b=>[cells b2 [zI 0,zI 0,.int .i32 0,.bool false] 85,obj b3 (.stringIter (zb8 s1 at1 (s1.size:Int)) (zfW (zb8 s1 at1 (s1.size:Int)) 0))]) (fun b=>b) zbN h rfl (za0 rfl) (zad [0,1] kr rfl) ?_
  rintro n1 h
  cases n1 with
  | zero=>exact zdp h
  | succ n1 =>
   obtain ⟨ag1,hag1⟩:∃ ag,ag=zaE none (zeG s1 at1 j1) n1:=⟨_,rfl⟩
   have h:zeG s1 at1 j1 ag1=some r:=by rw [hag1]; exact h
   unfold zeG at h
   refine zyG ?_
   refine zfG (b:=decide (0<(pcs (zb8 s1 at1 (s1.size:Int)).data.toList).length)) (fun hb1 => ?_) (fun hb1 => ?_)
   ·
    have h:=zf0 hb1 h
    obtain ⟨p1,hq1,h⟩:=zbi h
    refine zf9 (k:=1) (m:=0) (p:=p1) rfl dc rfl rfl hq1 (zaN rfl dc rfl rfl (zyN (zaI (za5 rfl (zar (zaH (zaF ?_)))))))
    obtain ⟨j2,hj2,h⟩:=zbG h
    refine zaX (β:=Int) 2 rfl (fun b=>j2 b=some r) (fun b=>[]) (fun b=>[(1,zI at1),(4,zP b2),(6,.int .i32 (p1.r:Int)),(7,zI b)]) (fun b=>[cells b2 [zI 0,zI 0,.int .i32 0,.bool false] 85]) (fun cut => ?_) ?_
    ·
     refine zyG (zaN rfl dc rfl rfl (zyR 1 rfl (zyH (zyR 1 rfl ?_))))
     obtain ⟨r1,hq2,h⟩:=zbi h
     refine zbD (v:=zI r1) (vs:=[.int .i32 (p1.r:Int)]) rfl dc rfl rfl rfl zwb (zlr hq2) (zyR 1 rfl (zyN (cut (zyG (zyR 1 rfl (zaU rfl zaT (zyR 1 rfl ?_)))))))
     refine zyS (s:=19) rfl h (fun h => ?_) (fun h => ?_)
     ·
      refine zyR 1 rfl (zcg rfl dc rfl Tryz.underlying9 (zyR 1 rfl ?_))
      obtain ⟨hg2,h⟩:=zbr h
      refine zaU rfl (zbt (r:=(s1.size:Int) - at1) (IntWalk.i64_in _ hg2)) (zaU rfl zbc (zyR 1 rfl ?_))
      refine zyS (s:=25) rfl h (fun h => ?_) (fun h => ?_)
      ·
       refine zyR 8 rfl (zyN (za5 rfl (zyG (zyR 1 rfl ?_))))
       refine zba (v:=.agg #[zI at1,zI 1,.int .i32 65533,.bool true]) (ps:=[(0,.tmp 34),(1,.const (zI 1)),(2,.const (.int .i32 65533)),(3,.const (.bool true))]) rfl dc rfl (fun _=>by kernel_rfl) ?_
       refine za6 (k:=0) (vs:=[zI at1,zI 1,.int .i32 65533,.bool true]) (l':=[zI at1,zI 1,.int .i32 65533,.bool true]) zmr rfl rfl rfl rfl rfl (show _≤_ by simp) rfl rfl ?_
       refine zyN (zaG (zao (zat (zao (zat (zao ?_))))))
       cases h
       exact zaK (rs:=[.cell 4 85]) () (.inl rfl) Tryz.results70 (.cons (.cells zhi (k:=0) rfl rfl rfl) .nil) rfl Splits.nil
      refine zyR 3 rfl ?_
      obtain ⟨hg3,h⟩:=zbr h
      refine zaU rfl (zaR (r:=at1+3) (IntWalk.i64_in _ hg3)) ?_
      obtain ⟨hg4,h⟩:=zbr h
      refine zdG rfl dc rfl rfl rfl (zce (i:=at1) (j:=at1+3) Tryz.underlying9 (.inr rfl) (.inr rfl) hg4) (zaU rfl zsS (zyR 2 rfl (zyN ?_)))
      refine zyB rfl h (fun h => ?_) (fun h => ?_)
      ·
       refine zyG (zyR 1 rfl ?_)
       refine zba (v:=.agg #[zI at1,zI 1,.int .i32 65533,.bool true]) (ps:=[(0,.tmp 34),(1,.const (zI 1)),(2,.const (.int .i32 65533)),(3,.const (.bool true))]) rfl dc rfl (fun _=>by kernel_rfl) ?_
       refine za6 (k:=0) (vs:=[zI at1,zI 1,.int .i32 65533,.bool true]) (l':=[zI at1,zI 1,.int .i32 65533,.bool true]) zmr rfl rfl rfl rfl rfl (show _≤_ by simp) rfl rfl ?_
       refine zyN (zaG (zao (zat (zao (zat (zao ?_))))))
       cases h
       exact zaK (rs:=[.cell 4 85]) () (.inl rfl) Tryz.results70 (.cons (.cells zhi (k:=0) rfl rfl rfl) .nil) rfl Splits.nil
      refine zar ?_
      exact zal r1 h rfl (za0 rfl) (zad [0] kr rfl)
     refine zyR 14 rfl ?_
     refine zyN (zaS rfl (zar ?_))
     exact zal r1 h rfl (za0 rfl) (zad [0] kr rfl)
    rintro n2 h
    rw [hj2] at h
    refine zyG (zyR 3 rfl ?_)
    refine zba (v:=.agg #[zI at1,zI n2,.int .i32 (p1.r:Int),.bool false]) (ps:=[(0,.tmp 36),(1,.tmp 37),(2,.tmp 38)]) rfl dc rfl (fun _=>by kernel_rfl) ?_
    refine za6 (k:=0) (vs:=[zI at1,zI n2,.int .i32 (p1.r:Int),.bool false]) (l':=[zI at1,zI n2,.int .i32 (p1.r:Int),.bool false]) zmr rfl rfl rfl rfl rfl (show _≤_ by simp) rfl rfl (zyN (zaG (zat (zao (zat (zao ?_))))))
    cases h
    exact zaK (rs:=[.cell 4 85]) () (.inl rfl) Tryz.results70 (.cons (.cells zhi (k:=0) rfl rfl rfl) .nil) rfl Splits.nil
   have h:=zf1 hb1 h
   refine zga (k:=1) (m:=0) rfl dc rfl rfl (Nat.le_of_not_lt (of_decide_eq_false hb1)) (zaN rfl dc rfl rfl (zyN (zaI (zaS rfl (za3 (zan (zan (zax ?_))))))))
   exact zal b2 h rfl (za0 rfl) (zad [0] kr rfl)
 rintro b1 h
 rw [hj1] at h
 refine zyG ?_
 refine zba (v:=.agg #[zI 0,zI 0,.int .i32 0,.bool false]) (ps:=[]) rfl dc rfl (fun _=>by kernel_rfl) ?_
 refine za6 (k:=0) (vs:=[zI 0,zI 0,.int .i32 0,.bool false]) (l':=[zI 0,zI 0,.int .i32 0,.bool false]) zmr rfl rfl rfl rfl rfl (show _≤_ by simp) rfl rfl (zyN (zaG ?_))
 cases h
 exact zaK (rs:=[.cell 4 85]) () (.inl rfl) Tryz.results70 (.cons (.cells zhi (k:=0) rfl rfl rfl) .nil) rfl Splits.nil
def zcE (c0:ByteArray) (ag1:Nat→Option (List Gapi_Piece)) (m3:Nat):Option (List Gapi_Piece) :=
zay (decide (m3<(pcs c0.data.toList).length)) (
zah ((pcs c0.data.toList)[m3]?) fun (p1:Pc) =>
zah (ze7 c0 (p1.i:Int)) fun (r1:Gapi_Piece) =>
zhH r1 <|
ag1 (m3+1)
) (
some []
)
def zef (c0:ByteArray):Option (List Gapi_Piece) :=
zaE (fun _=>none) (zcE c0) zbN 0
theorem ziw {b_c0:Nat} {c0:ByteArray} {xs:(List Gapi_Piece)} (h:zef c0=some xs):Itr Tryz.prog 69 [zP b_c0] (fun q:Gapi_Piece=>[.agg (zr2 q).toArray]) xs [(b_c0,.cells #[.string c0] 9 (0,0))]:=by
 unfold zef at h
 refine Itr.intro Tryz.func69 rfl Tryz.ntmps69 (by simp) ?_
 intro l w0 K I X hRo hy
 obtain ⟨r0,hx0⟩:∃ r,xs=[]++r:=⟨xs,rfl⟩
 have hr0:xs=r0:=hx0
 rw [hr0] at h
 refine zyG (zk9 (i:=0) hRo zp7 rfl dc rfl rfl rfl ?_)
 refine zfF Tryz.underlying9 rfl dc rfl (fun b1 => ?_)
 refine zyN (zaF ?_)
 refine zbj (β:=Nat×Nat×(List Gapi_Piece)×(List Gapi_Piece)) (fun b=>zaE (fun _=>none) (zcE c0) b.1 b.2.1=some b.2.2.2∧xs=b.2.2.1++b.2.2.2) (fun b=>[]) (fun b=>[(0,.func (.yield l) #[] #[]),(1,zP b_c0),(5,zP b1)]) (fun b=>[I b.2.2.1,obj b1 (.stringIter c0 (zfW c0 b.2.1))]) (fun b=>b.1) (zbN,0,([]:List Gapi_Piece),r0) ⟨h,hx0⟩ rfl (za0 rfl) (zad [0,1] kr rfl) ?_
 rintro ⟨n1,m3,acc3,rr3⟩ ⟨h,hx3⟩
 cases n1 with
 | zero=>exact zdp h
 | succ n1 =>
  obtain ⟨ag1,hag1⟩:∃ ag,ag=zaE (fun _=>none) (zcE c0) n1:=⟨_,rfl⟩
  have h:zcE c0 ag1 m3=some rr3:=by rw [hag1]; exact h
  unfold zcE at h
  refine zyG ?_
  refine zfG (b:=decide (m3<(pcs c0.data.toList).length)) (fun hb1 => ?_) (fun hb1 => ?_)
  ·
   have h:=zf0 hb1 h
   obtain ⟨p1,hq1,h⟩:=zbi h
   refine zf9 (k:=1) (m:=m3) (p:=p1) rfl dc rfl rfl hq1 (zaN rfl dc rfl rfl (zyN (zaI (za5 rfl (zar (zaH (zaF (zyG (zaN rfl dc rfl rfl (zyR 1 rfl (zaO ?_)))))))))))
   refine zaH (zyG (zyR 1 rfl (zk9 (i:=0) hRo zp7 rfl dc rfl rfl rfl (zyR 1 rfl ?_))))
   obtain ⟨r1,hq2,h⟩:=zbi h
   refine zbD (v:=.agg (zr2 r1).toArray) (vs:=[.string c0,zI (p1.i:Int)]) rfl dc rfl rfl rfl zxi (zmB hq2) ?_
   obtain ⟨rr4,hr1,h⟩:=zk2 h
   have hx4:xs=acc3++r1::rr4:=by rw [hx3,hr1]
   refine zfs hy rfl dc rfl hx4 rfl (k:=0) rfl ?_ ?_
   ·
    have hx5:xs=(acc3++[r1])++rr4:=by rw [hx4]; simp
    refine zee rfl dc rfl zcN (zyN (zaS rfl (zar (zag ?_))))
    subst hag1
    exact za1 (n1,m3+1,acc3++[r1],rr4) ⟨h,hx5⟩ (Nat.lt_succ_self _) rfl (za0 rfl) (zad [0,1] kr rfl)
   refine zee rfl dc rfl zcN (zyN (za5 rfl (zaG (zat (zao (zat ?_))))))
   exact zng (ds:=[]) acc3 r1 rr4 hx4 (.inl rfl) Splits.nil Tryz.results69 (zad [0] kr rfl)
  have h:=zf1 hb1 h
  refine zga (k:=1) (m:=m3) rfl dc rfl rfl (Nat.le_of_not_lt (of_decide_eq_false hb1)) (zaN rfl dc rfl rfl (zyN (zaI (zaS rfl (za3 (zan (zan (zax ?_))))))))
  cases h
  exact znf (ds:=[]) (.inr rfl) Splits.nil Tryz.results69 (congrArg I (hx3.trans (List.append_nil _))) (zad [0] kr rfl)
def zgE (s1:ByteArray):Option ByteArray :=
some s1
theorem zkr {s1:ByteArray} {r:ByteArray} (h:zgE s1=some r):Fn Tryz.prog 34 [.string s1] [] (fun v0:Nat=>.func (.func 69) #[] #[zP v0]) (fun v0=>[cells v0 [.string r] 9]):=by
 unfold zgE at h
 refine Fn.intro Tryz.func34 rfl Tryz.ntmps34 (by simp) ?_
 intro w0 K
 refine zyG ?_
 refine zea rfl dc rfl (fun b1 => ?_)
 refine zyR 1 rfl (zyH (zin (x1:=[]) (x2:=[.tmp 1]) rfl dc rfl rfl (zyR 1 rfl (zyN (zaG ?_)))))
 cases h
 exact zaK (rs:=[.tmp 2]) b1 (.inl rfl) Tryz.results34 (.cons (.tmp rfl) .nil) rfl (zad [0] kr rfl)
end Go.Proofs.YtbempdelckaccaaGreatDoor


namespace Go.Proofs.YtbempdelckaccaaGreatDoor
open Go.RowKit Go.Lib
set_option linter.unusedVariables false
set_option linter.unusedSimpArgs false
theorem zrr (r:Int) (hv:0≤r∧(r<55296∨(57343<r∧r≤1114111))) (hr:¬ r=65533):¬ Utf8.encode r=⟨#[239,191,189]⟩:=by
 intro h
 obtain ⟨n,rfl⟩:=Int.eq_ofNat_of_zero_le hv.1
 have h1:encodeRune ((n:Nat):Int)=[239,191,189]:=by rw [← zkY,h]
 have h2:=zm7 n (by omega) []
 have h3:=zm7 65533 (by omega) []
 rw [h1] at h2
 rw [zpu] at h3
 rw [h2] at h3
 have:=(Prod.mk.inj h3).1
 omega
theorem ztW (r:Int) (hv:vr r):zfg r=some ((Utf8.encode r).size:Int):=by
 unfold zfg
 refine zbs ?_
 by_cases h:r=65533
 ·exact zaw (bne_eq_false_iff_eq.2 h) rfl
 ·exact zaC (bne_iff_ne.2 h) (zaw (decide_eq_false (zrr r (by unfold vr at hv; omega) h)) rfl)
theorem zwV (s:ByteArray) (a:Nat) (ha:a<s.size) (hsz:s.size≤9223372036854775000):ze7 s (a:Int)=some (pcG ⟨a,(decodeL (s.data.toList.drop a)).2,(decodeL (s.data.toList.drop a)).1⟩):=by
 unfold ze7
 obtain ⟨F,hF,_⟩:=zoz 1 (by omega)
 rw [hF]
 refine zbs (zbl ⟨by omega,by omega,by omega⟩ ?_)
 rw [zb5]
 generalize zaE _ _ F=ag
 unfold zeG
 have hne:s.data.toList.drop a≠[]:=by
  intro h; have:=congrArg List.length h; simp at this; omega
 have hok:=zsP _ hne
 have hlen:(s.data.toList.drop a).length=s.size - a:=by simp
 have hle:=hok.le
 have e:(zb8 s (a:Int) (s.size:Int)).data.toList=s.data.toList.drop a:=by unfold zb8; exact zus s a
 have hp:pcs (zb8 s (a:Int) (s.size:Int)).data.toList=⟨0,(decodeL (s.data.toList.drop a)).2,(decodeL (s.data.toList.drop a)).1⟩::zdI (0+(decodeL (s.data.toList.drop a)).2) ((s.data.toList.drop a).drop (decodeL (s.data.toList.drop a)).2):=by
  rw [e]; unfold pcs; rw [zcF _ _ hne]
 have hvr:vr ((decodeL (s.data.toList.drop a)).1:Int):=by have:=hok.valid; unfold vr; omega
 refine zaC (decide_eq_true (by rw [hp]; simp)) (zaJ (by rw [hp]; rfl) (zbs (zaJ (ztW _ hvr) ?_)))
 simp only
 unfold pcG Pc.broken
 have hw:=hok.width
 have hl3:=hok.lost_ok
 have hl1:=hok.lost_bad
 generalize decodeL (s.data.toList.drop a)=d at *
 rcases d with ⟨r,w⟩
 simp only at *
 by_cases hr:r=65533
 ·subst hr
  refine zaC (by decide) (zbl ⟨by omega,by omega⟩ ?_)
  by_cases h3:(s.size:Int) - a<3
  ·refine zaC (decide_eq_true h3) ?_
   have hw1:w=1:=by
    by_cases hw1:w=1
    ·exact hw1
    ·have:=(hl3 rfl hw1).2; omega
   subst hw1; rfl
  ·have e3:=zgU s a 3
   refine zaw (decide_eq_false h3) (zbl ⟨by omega,by omega⟩ (zbl ⟨by omega,by omega,by omega⟩ ?_))
   by_cases hw1:w=1
   ·refine zaC ?_ (by subst hw1; rfl)
    rw [decide_eq_false]
    ·rfl
    ·intro h
     exact hl1 rfl hw1 (by rw [← e3]; exact congrArg (fun b:ByteArray=>b.data.toList) h)
   ·obtain ⟨h4,h5⟩:=hl3 rfl hw1
    refine zaw ?_ ?_
    ·rw [decide_eq_true]
     ·rfl
     ·apply ByteArray.ext; apply Array.toList_inj.1; rw [show ((a:Int)+3)=(a:Int)+(3:Nat) from rfl,e3,h4]
    ·rw [zkX,hw (by omega)]
     subst h5; rfl
 ·refine zaw (by rw [beq_eq_false_iff_ne]; omega) ?_
  rw [zkX,hw (by omega)]
  have:(r==65533&&w==1)=false:=by simp [hr]
  rw [this]
theorem zue (s:ByteArray) (hs:s.size≤2147483648):zef s=some ((pcs s.data.toList).map pcG):=by
 unfold zef
 have hc:(pcs s.data.toList).length≤s.size:=by have:=zom s; unfold zmC at this; simpa using this
 have key:∀ (n k:Nat),k≤(pcs s.data.toList).length→(pcs s.data.toList).length - k<n→zaE (fun _=>none) (zcE s) n k=some (((pcs s.data.toList).drop k).map pcG):=by
  intro n
  induction n with
  | zero=>intro k _ h; omega
  | succ n ih =>
   intro k hk hn
   rw [zb5]
   generalize zaE (fun _=>none) (zcE s) n=ag at ih ⊢
   unfold zcE
   by_cases h:k<(pcs s.data.toList).length
   ·have hx:(pcs s.data.toList)[k]?=some (pcs s.data.toList)[k]:=List.getElem?_eq_getElem h
    have hm:=List.mem_of_getElem? hx
    generalize (pcs s.data.toList)[k]=p at hx hm
    obtain ⟨g1,g2,hok⟩:=zgk s.data.toList p hm
    have hlen:s.data.toList.length=s.size:=by rw [Array.length_toList]; rfl
    have hw:=hok.pos
    have hr:ze7 s (p.i:Int)=some (pcG p):=by
     have:=zwV s p.i (by omega) (by omega)
     rw [this]
     have he:=hok.eq
     rw [he]
    refine zaC (decide_eq_true h) (zaJ hx (zaJ hr ?_))
    rw [ih (k+1) (by omega) (by omega)]
    have hd:(pcs s.data.toList).drop k=p::(pcs s.data.toList).drop (k+1):=by
     obtain ⟨hlt,he⟩:=List.getElem?_eq_some_iff.1 hx
     rw [← he]; exact List.drop_eq_getElem_cons hlt
    rw [hd]; rfl
   ·have:k=(pcs s.data.toList).length:=by omega
    subst this
    exact zaw (decide_eq_false (by omega)) (by rw [List.drop_length]; rfl)
 have:=key zbN 0 (Nat.zero_le _) (by unfold zbN; omega)
 simpa using this
end Go.Proofs.YtbempdelckaccaaGreatDoor

namespace Go.Proofs.YtbempdelckaccaaGreatDoor
open Go.RowKit Go.Lib
set_option linter.unusedVariables false
set_option linter.unusedSimpArgs false
def zde (r1:Int) (j1:Option Bool) (ag1:Bool→Nat→Option Bool) (within3:Bool) (m3:Nat):Option Bool :=
zay (decide (m3<(pcs (⟨#[225,132,128,225,133,159,226,186,128,227,128,190,227,129,129,228,182,191,228,184,128,234,147,143,234,176,128,237,158,163,239,164,128,239,171,191,239,184,176,239,185,175,239,188,128,239,189,160,239,191,160,239,191,166,240,159,140,128,240,159,153,143,240,159,164,128,240,159,167,191,240,160,128,128,240,191,191,189]⟩:ByteArray).data.toList).length)) (
zah ((pcs (⟨#[225,132,128,225,133,159,226,186,128,227,128,190,227,129,129,228,182,191,228,184,128,234,147,143,234,176,128,237,158,163,239,164,128,239,171,191,239,184,176,239,185,175,239,188,128,239,189,160,239,191,160,239,191,166,240,159,140,128,240,159,153,143,240,159,164,128,240,159,167,191,240,160,128,128,240,191,191,189]⟩:ByteArray).data.toList)[m3]?) fun (p1:Pc) =>
zbk (fun (j2:Bool→Bool→Option Bool) =>
zay (!within3) (
zay (decide ((r1:Int)<(p1.r:Int))) (
some within3
) (
zay (within3) (
zay (decide ((r1:Int)≤(p1.r:Int))) (
some within3
) (
j2 true (decide ((r1:Int)≤(p1.r:Int)))
)
) (
j2 false false
)
)
) (
zay (within3) (
zay (decide ((r1:Int)≤(p1.r:Int))) (
some within3
) (
j2 true (decide ((r1:Int)≤(p1.r:Int)))
)
) (
j2 false false
)
)
) (fun (x1:Bool) (x2:Bool) =>
ag1 (!within3) (m3+1)
)
) (
j1
)
def zeo (r1:Int):Option Bool :=
zbk (fun (j1:Option Bool) =>
zaE (fun _ _=>none) (zde r1 j1) zbN false 0
) (
some false
)
theorem zk4 {r1:Int} {r:Bool} (h:zeo r1=some r):FnP Tryz.prog 72 [.int .i32 r1] (.bool r):=by
 unfold zeo at h
 refine FnP.intro Tryz.func72 rfl Tryz.ntmps72 (by simp) ?_
 intro w0 K
 obtain ⟨j1,hj1,h⟩:=zbG h
 refine zaX (β:=Unit) 2 rfl (fun b=>j1=some r) (fun b=>[]) (fun b=>[]) (fun b=>[]) (fun cut => ?_) ?_
 ·
  refine zyG (zyR 1 rfl (zyH (zyR 1 rfl (zyN (cut (zyG ?_))))))
  refine zfF Tryz.underlying9 rfl dc rfl (fun b1 => ?_)
  refine zyN (zaF ?_)
  refine zbj (β:=Nat×Bool×Nat) (fun b=>zaE (fun _ _=>none) (zde r1 j1) b.1 b.2.1 b.2.2=some r) (fun b=>[]) (fun b=>[(0,.int .i32 r1),(3,.bool b.2.1),(6,zP b1)]) (fun b=>[obj b1 (.stringIter (⟨#[225,132,128,225,133,159,226,186,128,227,128,190,227,129,129,228,182,191,228,184,128,234,147,143,234,176,128,237,158,163,239,164,128,239,171,191,239,184,176,239,185,175,239,188,128,239,189,160,239,191,160,239,191,166,240,159,140,128,240,159,153,143,240,159,164,128,240,159,167,191,240,160,128,128,240,191,191,189]⟩:ByteArray) (zfW (⟨#[225,132,128,225,133,159,226,186,128,227,128,190,227,129,129,228,182,191,228,184,128,234,147,143,234,176,128,237,158,163,239,164,128,239,171,191,239,184,176,239,185,175,239,188,128,239,189,160,239,191,160,239,191,166,240,159,140,128,240,159,153,143,240,159,164,128,240,159,167,191,240,160,128,128,240,191,191,189]⟩:ByteArray) b.2.2))]) (fun b=>b.1) (zbN,false,0) (by exact h) rfl (za0 rfl) (zad [0] kr rfl) ?_
  rintro ⟨n1,within3,m3⟩ h
  cases n1 with
  | zero=>exact zdp h
  | succ n1 =>
   obtain ⟨ag1,hag1⟩:∃ ag,ag=zaE (fun _ _=>none) (zde r1 j1) n1:=⟨_,rfl⟩
   have h:zde r1 j1 ag1 within3 m3=some r:=by rw [hag1]; exact h
   unfold zde at h
   refine zyG ?_
   refine zfG (b:=decide (m3<(pcs (⟨#[225,132,128,225,133,159,226,186,128,227,128,190,227,129,129,228,182,191,228,184,128,234,147,143,234,176,128,237,158,163,239,164,128,239,171,191,239,184,176,239,185,175,239,188,128,239,189,160,239,191,160,239,191,166,240,159,140,128,240,159,153,143,240,159,164,128,240,159,167,191,240,160,128,128,240,191,191,189]⟩:ByteArray).data.toList).length)) (fun hb1 => ?_) (fun hb1 => ?_)
   ·
    have h:=zf0 hb1 h
    obtain ⟨p1,hq1,h⟩:=zbi h
    refine zf9 (k:=0) (m:=m3) (p:=p1) rfl dc rfl rfl hq1 (zaN rfl dc rfl rfl (zyN (zaI (za5 rfl (zar (zaH (zaF ?_)))))))
    obtain ⟨j2,hj2,h⟩:=zbG h
    refine zaX (β:=Bool×Bool) 1 rfl (fun b=>j2 b.1 b.2=some r) (fun b=>[]) (fun b=>[(0,.int .i32 r1),(3,.bool within3),(6,zP b1),(18,.bool within3),(19,.bool b.1),(23,.bool b.2)]) (fun b=>[obj b1 (.stringIter (⟨#[225,132,128,225,133,159,226,186,128,227,128,190,227,129,129,228,182,191,228,184,128,234,147,143,234,176,128,237,158,163,239,164,128,239,171,191,239,184,176,239,185,175,239,188,128,239,189,160,239,191,160,239,191,166,240,159,140,128,240,159,153,143,240,159,164,128,240,159,167,191,240,160,128,128,240,191,191,189]⟩:ByteArray) (zfW (⟨#[225,132,128,225,133,159,226,186,128,227,128,190,227,129,129,228,182,191,228,184,128,234,147,143,234,176,128,237,158,163,239,164,128,239,171,191,239,184,176,239,185,175,239,188,128,239,189,160,239,191,160,239,191,166,240,159,140,128,240,159,153,143,240,159,164,128,240,159,167,191,240,160,128,128,240,191,191,189]⟩:ByteArray) (m3+1)))]) (fun cut => ?_) ?_
    ·
     refine zyG (zaN rfl dc rfl rfl (zyR 1 rfl (zyN (cut (zyG (zyR 1 rfl (zee rfl dc rfl zcN (zyR 1 rfl ?_))))))))
     refine zyS (s:=12) rfl h (fun h => ?_) (fun h => ?_)
     ·
      refine zyR 2 rfl (zaU rfl zbc (zyR 2 rfl ?_))
      refine zyS (s:=17) rfl h (fun h => ?_) (fun h => ?_)
      ·
       refine zyR 7 rfl (zyN (za5 rfl (zyG (zyR 2 rfl ?_))))
       refine zyN (zaG (zao (zat (zao (zat (zao ?_))))))
       cases h
       exact zaK (rs:=[.tmp 2]) () (.inl rfl) Tryz.results72 (.cons (.tmp rfl) .nil) rfl Splits.nil
      refine zyR 2 rfl ?_
      refine zyS (s:=19) rfl h (fun h => ?_) (fun h => ?_)
      ·
       refine zyR 2 rfl (zaU rfl zdJ (zyR 2 rfl (zyN ?_)))
       refine zyB rfl h (fun h => ?_) (fun h => ?_)
       ·
        refine zyG (zyR 2 rfl (zyN (zaG (zao (zat (zao (zat (zao ?_))))))))
        cases h
        exact zaK (rs:=[.tmp 2]) () (.inl rfl) Tryz.results72 (.cons (.tmp rfl) .nil) rfl Splits.nil
       refine zar ?_
       exact zal (true,decide ((r1:Int)≤(p1.r:Int))) h rfl (za0 rfl) (zad [0] kr rfl)
      refine zyR 5 rfl (zyN (zaS rfl (zar ?_)))
      exact zal (false,false) h rfl (za0 rfl) (zad [0] kr rfl)
     refine zyR 7 rfl ?_
     refine zyS (s:=19) rfl h (fun h => ?_) (fun h => ?_)
     ·
      refine zyR 2 rfl (zaU rfl zdJ (zyR 2 rfl (zyN ?_)))
      refine zyB rfl h (fun h => ?_) (fun h => ?_)
      ·
       refine zyG (zyR 2 rfl (zyN (zaG (zao (zat (zao (zat (zao ?_))))))))
       cases h
       exact zaK (rs:=[.tmp 2]) () (.inl rfl) Tryz.results72 (.cons (.tmp rfl) .nil) rfl Splits.nil
      refine zar ?_
      exact zal (true,decide ((r1:Int)≤(p1.r:Int))) h rfl (za0 rfl) (zad [0] kr rfl)
     refine zyR 5 rfl (zyN (zaS rfl (zar ?_)))
     exact zal (false,false) h rfl (za0 rfl) (zad [0] kr rfl)
    rintro ⟨x1,x2⟩ h
    rw [hj2] at h
    refine zav (zyR 1 rfl (zee rfl dc rfl zcN (zyR 1 rfl (zaO (zag ?_)))))
    subst hag1
    exact za1 (n1,!within3,m3+1) h (Nat.lt_succ_self _) rfl (za0 rfl) (zad [0] kr rfl)
   have h:=zf1 hb1 h
   refine zga (k:=0) (m:=m3) rfl dc rfl rfl (Nat.le_of_not_lt (of_decide_eq_false hb1)) (zaN rfl dc rfl rfl (zyN (zaI (zaS rfl (za3 (zan (zan (zax ?_))))))))
   exact zal () h rfl (zio) Splits.nil
 rintro _ h
 rw [hj1] at h
 refine zyG (zyR 1 rfl (zyN (zaG ?_)))
 cases h
 exact zaK (rs:=[.tmp 2]) () (.inl rfl) Tryz.results72 (.cons (.tmp rfl) .nil) rfl Splits.nil
def zbP (p1:Gapi_Piece):Option Int :=
grd (I32 p1.Rune) <|
zay (((zdA p1.Broken p1.Rune):Int)==11) (
some 1
) (
zbk (fun (j1:Bool→Option Int) =>
zay (((zdA p1.Broken p1.Rune):Int)==2) (
j1 (((zdA p1.Broken p1.Rune):Int)==2)
) (
zay (((zdA p1.Broken p1.Rune):Int)==4) (
j1 (((zdA p1.Broken p1.Rune):Int)==4)
) (
j1 (((zdA p1.Broken p1.Rune):Int)==9)
)
)
) (fun (x1:Bool) =>
zay (x1) (
some 0
) (
zah (zeo p1.Rune) fun (r1:Bool) =>
zay (r1) (
some 2
) (
some 1
)
)
)
)
theorem zfr {p1:Gapi_Piece} {r:Int} (h:zbP p1=some r):FnP Tryz.prog 37 [.agg (zr2 p1).toArray] (zI r):=by
 unfold zbP at h
 refine FnP.intro Tryz.func37 rfl Tryz.ntmps37 (by simp) ?_
 intro w0 K
 refine zyG ?_
 refine zea rfl dc rfl (fun b1 => ?_)
 refine zyR 1 rfl (zyN (zaI (zyG (zbd (k:=0) (cs:=(zr2 p1)) zhi rfl dc rfl rfl rfl rfl ?_))))
 obtain ⟨hg1,h⟩:=zbr h
 refine zbD (v:=zI (zdA p1.Broken p1.Rune)) (vs:=[.agg (zr2 p1).toArray]) rfl dc rfl rfl rfl zuz (zwZ p1.At p1.Width p1.Rune p1.Broken hg1.1 hg1.2) (zyN (zaF (zyG (zaU rfl zaT (zyR 1 rfl (zyN ?_))))))
 refine zyB rfl h (fun h => ?_) (fun h => ?_)
 ·
  refine zyG (zyR 1 rfl (zyN (zaG (zat (zao ?_)))))
  cases h
  exact zaK (rs:=[.tmp 2]) () (.inl rfl) Tryz.results37 (.cons (.tmp rfl) .nil) rfl Splits.nil
 obtain ⟨j1,hj1,h⟩:=zbG h
 refine zaX (β:=Bool) 0 rfl (fun b=>j1 b=some r) (fun b=>[]) (fun b=>[(1,zP b1),(7,.bool b)]) (fun b=>[cells b1 (zr2 p1) 85]) (fun cut => ?_) ?_
 ·
  refine cut (zyG (zaU rfl zaT (zyR 1 rfl (zyN ?_))))
  refine zyB rfl h (fun h => ?_) (fun h => ?_)
  ·
   refine zar ?_
   exact zal (((zdA p1.Broken p1.Rune):Int)==2) h rfl (za0 rfl) (zad [0] kr rfl)
  refine zyG (zaU rfl zaT (zyR 1 rfl (zyN ?_)))
  refine zyB rfl h (fun h => ?_) (fun h => ?_)
  ·
   refine zar ?_
   exact zal (((zdA p1.Broken p1.Rune):Int)==4) h rfl (za0 rfl) (zad [0] kr rfl)
  refine zav (zaU rfl zaT (zyR 1 rfl (zaO ?_)))
  exact zal (((zdA p1.Broken p1.Rune):Int)==9) h rfl (za0 rfl) (zad [0] kr rfl)
 rintro x1 h
 rw [hj1] at h
 refine zyB rfl h (fun h => ?_) (fun h => ?_)
 ·
  refine zyG (zyR 1 rfl (zyN (zaG (zat (zao ?_)))))
  cases h
  exact zaK (rs:=[.tmp 2]) () (.inl rfl) Tryz.results37 (.cons (.tmp rfl) .nil) rfl Splits.nil
 refine zar (zag (zaH (zaI (zyG (zab zkS rfl dc rfl (show _=2 from rfl) (zau (k:=0) ziv rfl dc rfl rfl rfl ?_))))))
 obtain ⟨r1,hq1,h⟩:=zbi h
 refine zbD (v:=.bool r1) (vs:=[.int .i32 p1.Rune]) rfl dc rfl rfl rfl zxh (zk4 hq1) (zyN ?_)
 refine zyB rfl h (fun h => ?_) (fun h => ?_)
 ·
  refine zyG (zyR 1 rfl (zyN (zaG (zao ?_))))
  cases h
  exact zaK (rs:=[.tmp 2]) () (.inl rfl) Tryz.results37 (.cons (.tmp rfl) .nil) rfl Splits.nil
 refine zar (zaH (zyG (zyR 1 rfl (zyN (zaG ?_)))))
 cases h
 exact zaK (rs:=[.tmp 2]) () (.inl rfl) Tryz.results37 (.cons (.tmp rfl) .nil) rfl Splits.nil
def zdF (head1:Int) (behind1:Gapi_Piece) (p1:Gapi_Piece):Option Bool :=
zay (p1.Broken) (
some false
) (
grd (I32 p1.Rune) <|
zay (((zdA p1.Broken p1.Rune):Int)==2) (
some true
) (
zay ((p1.Rune:Int)==8205) (
some true
) (
zay ((head1:Int)==10) (
zay (((zdA p1.Broken p1.Rune):Int)==10) (
some ((behind1.Rune:Int)==8205)
) (
some false
)
) (
some false
)
)
)
)
theorem zhf {head1:Int} {behind1:Gapi_Piece} {p1:Gapi_Piece} {r:Bool} (h:zdF head1 behind1 p1=some r):FnP Tryz.prog 36 [zI head1,.agg (zr2 behind1).toArray,.agg (zr2 p1).toArray] (.bool r):=by
 unfold zdF at h
 refine FnP.intro Tryz.func36 rfl Tryz.ntmps36 (by simp) ?_
 intro w0 K
 refine zyG ?_
 refine zea rfl dc rfl (fun b1 => ?_)
 refine zea rfl dc rfl (fun b2 => ?_)
 refine zyR 1 rfl (zyN (zaI (zyG (zab zuq rfl dc rfl (show _=3 from rfl) (zau (k:=1) zqJ rfl dc rfl rfl rfl (zyN ?_))))))
 refine zyB rfl h (fun h => ?_) (fun h => ?_)
 ·
  refine zyG (zyR 1 rfl (zyN (zaG (zao ?_))))
  cases h
  exact zaK (rs:=[.tmp 6]) () (.inl rfl) Tryz.results36 (.cons (.tmp rfl) .nil) rfl Splits.nil
 refine zar (zaH (zyG (zbd (k:=1) (cs:=(zr2 p1)) zhi rfl dc rfl rfl rfl rfl ?_)))
 obtain ⟨hg1,h⟩:=zbr h
 refine zbD (v:=zI (zdA p1.Broken p1.Rune)) (vs:=[.agg (zr2 p1).toArray]) rfl dc rfl rfl rfl zuz (zwZ p1.At p1.Width p1.Rune p1.Broken hg1.1 hg1.2) (zyR 1 rfl (zyH (zyR 1 rfl (zaU rfl zaT (zyR 1 rfl ?_)))))
 refine zyS (s:=14) rfl h (fun h => ?_) (fun h => ?_)
 ·
  refine zyR 14 rfl ?_
  refine zyR 4 rfl (zyN (zaG ?_))
  cases h
  exact zaK (rs:=[.tmp 6]) () (.inl rfl) Tryz.results36 (.cons (.tmp rfl) .nil) rfl Splits.nil
 refine zab zkS rfl dc rfl (show _=2 from rfl) (zau (k:=1) ziv rfl dc rfl rfl rfl (zaU rfl zaT (zyR 2 rfl ?_)))
 refine zyS (s:=19) rfl h (fun h => ?_) (fun h => ?_)
 ·
  refine zyR 13 rfl (zaO ?_)
  refine zaH (zaG ?_)
  cases h
  exact zaK (rs:=[.tmp 6]) () (.inl rfl) Tryz.results36 (.cons (.tmp rfl) .nil) rfl Splits.nil
 refine zyR 1 rfl (zaU rfl zaT (zyR 1 rfl ?_))
 refine zyS (s:=22) rfl h (fun h => ?_) (fun h => ?_)
 ·
  refine zyR 1 rfl (zaU rfl zaT (zyR 2 rfl ?_))
  refine zyS (s:=26) rfl h (fun h => ?_) (fun h => ?_)
  ·
   refine zab zkS rfl dc rfl (show _=2 from rfl) (zau (k:=0) ziv rfl dc rfl rfl rfl (zaU rfl zaT (zyR 3 rfl (zyN (zaG ?_)))))
   cases h
   exact zaK (rs:=[.tmp 6]) () (.inl rfl) Tryz.results36 (.cons (.tmp rfl) .nil) rfl Splits.nil
  refine zyR 6 rfl (zyN (zaG ?_))
  cases h
  exact zaK (rs:=[.tmp 6]) () (.inl rfl) Tryz.results36 (.cons (.tmp rfl) .nil) rfl Splits.nil
 refine zyR 10 rfl (zyN (zaG ?_))
 cases h
 exact zaK (rs:=[.tmp 6]) () (.inl rfl) Tryz.results36 (.cons (.tmp rfl) .nil) rfl Splits.nil
def zcd (x1:Gapi_Piece) (ag1:Int→Int→Int→Int→Int→Int→Int→Bool→Bool→Option (List Gapi_Cell)) (now13:Int) (now14:Int) (now15:Int) (head4:Int) (last13:Int) (last14:Int) (last15:Int) (last16:Bool) (open5:Bool):Option (List Gapi_Cell) :=
zbk (fun (j2:Option (List Gapi_Cell)) =>
grd (I32 x1.Rune) <|
zay (!open5) (
j2
) (
zay ((last15:Int)==13) (
zay ((x1.Rune:Int)==10) (
grd (I64 (x1.At+x1.Width)) <|
ag1 now13 (x1.At+x1.Width) now15 head4 x1.At x1.Width x1.Rune x1.Broken open5
) (
zay ((head4:Int) != 11) (
zay ((head4:Int) != 4) (
zay ((head4:Int) != 9) (
zah (zdF head4 (⟨last13,last14,last15,last16⟩:Gapi_Piece) x1) fun (r2:Bool) =>
zay (r2) (
grd (I64 (x1.At+x1.Width)) <|
zah (zbP x1) fun (r3:Int) =>
ag1 now13 (x1.At+x1.Width) (max now15 r3) head4 x1.At x1.Width x1.Rune x1.Broken open5
) (
zhH (⟨now13,now14,now15⟩:Gapi_Cell) <|
j2
)
) (
zhH (⟨now13,now14,now15⟩:Gapi_Cell) <|
j2
)
) (
zhH (⟨now13,now14,now15⟩:Gapi_Cell) <|
j2
)
) (
zhH (⟨now13,now14,now15⟩:Gapi_Cell) <|
j2
)
)
) (
zay ((head4:Int) != 11) (
zay ((head4:Int) != 4) (
zay ((head4:Int) != 9) (
zah (zdF head4 (⟨last13,last14,last15,last16⟩:Gapi_Piece) x1) fun (r4:Bool) =>
zay (r4) (
grd (I64 (x1.At+x1.Width)) <|
zah (zbP x1) fun (r5:Int) =>
ag1 now13 (x1.At+x1.Width) (max now15 r5) head4 x1.At x1.Width x1.Rune x1.Broken open5
) (
zhH (⟨now13,now14,now15⟩:Gapi_Cell) <|
j2
)
) (
zhH (⟨now13,now14,now15⟩:Gapi_Cell) <|
j2
)
) (
zhH (⟨now13,now14,now15⟩:Gapi_Cell) <|
j2
)
) (
zhH (⟨now13,now14,now15⟩:Gapi_Cell) <|
j2
)
)
)
) (
grd (I64 (x1.At+x1.Width)) <|
zah (zbP x1) fun (r6:Int) =>
ag1 x1.At (x1.At+x1.Width) r6 (zdA x1.Broken x1.Rune) x1.At x1.Width x1.Rune x1.Broken true
)
def zel (c0:ByteArray):Option (List Gapi_Cell) :=
zbk (fun (j1:Int→Int→Int→Bool→Option (List Gapi_Cell)) =>
zah (zgE c0) fun (r1:ByteArray) =>
zah (zef r1) fun (its1:(List Gapi_Piece)) =>
zbk (fun (dn1:Int→Int→Int→Int→Int→Int→Int→Bool→Bool→Option (List Gapi_Cell)) =>
zev dn1 (zcd) its1 0 0 0 0 0 0 0 false false
) (fun (now13:Int) (now14:Int) (now15:Int) (head4:Int) (last13:Int) (last14:Int) (last15:Int) (last16:Bool) (open5:Bool) =>
j1 now13 now14 now15 open5
)
) (fun (now1:Int) (now2:Int) (now3:Int) (zdj:Bool) =>
zay (zdj) (
zhH (⟨now1,now2,now3⟩:Gapi_Cell) <|
some []
) (
some []
)
)
theorem ziZ {b_c0:Nat} {c0:ByteArray} {xs:(List Gapi_Cell)} (h:zel c0=some xs):Itr Tryz.prog 33 [zP b_c0] (fun q:Gapi_Cell=>[.agg (zr1 q).toArray]) xs [(b_c0,.cells #[.string c0] 9 (0,0))]:=by
 unfold zel at h
 refine Itr.intro Tryz.func33 rfl Tryz.ntmps33 (by simp) ?_
 intro l w0 K I X hRo hy
 obtain ⟨r0,hx0⟩:∃ r,xs=[]++r:=⟨xs,rfl⟩
 have hr0:xs=r0:=hx0
 rw [hr0] at h
 refine znh ?_
 refine zyG ?_
 refine zea rfl dc rfl (fun b1 => ?_)
 refine zyN ?_
 refine zkg (β:=Unit) (l:=0) (fun _=>False) (fun _=>[]) (fun _=>[]) rfl ?_ ?_
 ·
  obtain ⟨j1,hj1,h⟩:=zbG h
  refine zaX (β:=Int×Int×Int×Bool×(List Gapi_Cell)×(List Gapi_Cell)×Nat×Nat×(List Nat)) 5 rfl (fun b=>j1 b.1 b.2.1 b.2.2.1 b.2.2.2.1=some b.2.2.2.2.2.1∧xs=b.2.2.2.2.1++b.2.2.2.2.2.1) (fun b=>zhw b.2.2.2.2.2.2.2.2) (fun b=>[(2,zP b1),(3,zP b.2.2.2.2.2.2.1),(6,zP b.2.2.2.2.2.2.2.1)]) (fun b=>[I b.2.2.2.2.1,cells b1 [.func (.yield l) #[] #[]] 82,cells b.2.2.2.2.2.2.1 [zI b.1,zI b.2.1,zI b.2.2.1] 40,cells b.2.2.2.2.2.2.2.1 [.bool b.2.2.2.1] 4,zlj ((b.2.2.2.2.2.2.2.2:List Nat).map zpf)]) (fun cut => ?_) ?_
  ·
   refine zyG ?_
   refine zbE ztG rfl dc (fun b4 => ?_)
   refine zyH ?_
   refine zbE zwM rfl dc (fun b5 => ?_)
   refine zyH ?_
   refine zbE ztE rfl dc (fun b6 => ?_)
   refine zyH ?_
   refine zbE zya rfl dc (fun b7 => ?_)
   refine zbb (k:=6) (l':=[.bool false]) zww rfl rfl rfl rfl rfl (fun _ _=>rfl) rfl ?_
   refine zyN (zaI (zkh (zaH (cut (zyG (zk9 (i:=0) hRo zp7 rfl dc rfl rfl rfl ?_))))))
   obtain ⟨r1,hq1,h⟩:=zbi h
   refine zes (vs:=[.string c0]) rfl dc rfl rfl rfl zxz (zkr hq1) Splits.nil ?_
   rintro b8
   refine zyN (zaF ?_)
   obtain ⟨its1,hq2,h⟩:=zbi h
   obtain ⟨dn1,hdn1,h⟩:=zbG h
   refine zpA (α:=Gapi_Piece) (β:=Int×Int×Int×Int×Int×Int×Int×Bool×Bool×(List Gapi_Cell)×(List Gapi_Cell)) (γ:=(List Gapi_Cell×Gapi_Cell×List Gapi_Cell)) (δ:=Nat) (ps:=[11]) hRo rfl zxj (ziw hq2) (fun pre b=>(∀ post,its1=pre++post→zev dn1 (zcd) post b.1 b.2.1 b.2.2.1 b.2.2.2.1 b.2.2.2.2.1 b.2.2.2.2.2.1 b.2.2.2.2.2.2.1 b.2.2.2.2.2.2.2.1 b.2.2.2.2.2.2.2.2.1=some b.2.2.2.2.2.2.2.2.2.2)∧xs=b.2.2.2.2.2.2.2.2.2.1++b.2.2.2.2.2.2.2.2.2.2) (fun pre b=>[I b.2.2.2.2.2.2.2.2.2.1,cells b1 [.func (.yield l) #[] #[]] 82,cells b4 [zI b.1,zI b.2.1,zI b.2.2.1] 40,cells b5 [zI b.2.2.2.1] 83,cells b6 [zI b.2.2.2.2.1,zI b.2.2.2.2.2.1,.int .i32 b.2.2.2.2.2.2.1,.bool b.2.2.2.2.2.2.2.1] 85,cells b7 [.bool b.2.2.2.2.2.2.2.2.1] 4]) (fun c pre g=>(fun g=>c=Code.ret∧xs=g.1++g.2.1::g.2.2) g) (fun c pre g=>(fun g=>[X (g.1++[g.2.1])]) g) (fun pre x b j=>[(2,zP b1),(3,zP b4),(4,zP b5),(5,zP b6),(6,zP b7),(10,.func (.func 69) #[] #[zP b8]),(7,zP j)]) (fun pre x b j=>[I b.2.2.2.2.2.2.2.2.2.1,cells b1 [.func (.yield l) #[] #[]] 82,cells b4 [zI b.1,zI b.2.1,zI b.2.2.1] 40,cells b5 [zI b.2.2.2.1] 83,cells b6 [zI b.2.2.2.2.1,zI b.2.2.2.2.2.1,.int .i32 b.2.2.2.2.2.2.1,.bool b.2.2.2.2.2.2.2.1] 85,cells b7 [.bool b.2.2.2.2.2.2.2.2.1] 4,cells j (zr2 x) 85]) (0,0,0,0,0,0,0,false,false,([]:List Gapi_Cell),r0) ⟨fun post e=>(by rw [List.nil_append] at e; subst e; exact h),hx0⟩ (zad [0,2,3,4,5,6] kr rfl) ⟨.inl ⟨7,rfl⟩,trivial⟩ (fun _=>rfl) dc ?_ ?_ ?_ ?_
   ·
    rintro lp rc pre x1 post ⟨now13,now14,now15,head4,last13,last14,last15,last16,open5,acc4,rr4⟩ w1 K1 hxs1 hext hro hinv
    have hy:=hy.later hext
    refine zav ?_
    refine zbE ztE rfl dc (fun b9 => ?_)
    refine za6 (k:=6) (vs:=(zr2 x1)) (l':=(zr2 x1)) zmr rfl rfl rfl rfl rfl (show _≤_ by simp) rfl rfl ?_
    refine zaO ?_
    exact fun a w ha hw=>⟨b9,(za0 rfl) _ _ _ ha,hw.weaken (zad [0,1,2,3,4,5,6] kr rfl)⟩
   ·
    rintro lp rc pre x1 post1 ⟨now13,now14,now15,head4,last13,last14,last15,last16,open5,acc4,rr4⟩ jb1 w1 K1 hxs1 hext hro hinv
    have hy:=hy.later hext
    obtain ⟨hinv,hx4⟩:=hinv
    have h:=hinv (x1::post1) hxs1
    obtain ⟨ag1,hag1⟩:∃ ag,ag=zev dn1 (zcd) post1:=⟨_,rfl⟩
    have h:zcd x1 ag1 now13 now14 now15 head4 last13 last14 last15 last16 open5=some rr4:=by rw [hag1]; exact h
    unfold zcd at h
    refine zaF ?_
    obtain ⟨j2,hj2,h⟩:=zbG h
    refine zaX (β:=(List Gapi_Cell)×(List Gapi_Cell)) 1 rfl (fun b=>j2=some b.2∧xs=b.1++b.2) (fun b=>[]) (fun b=>[(2,zP b1),(3,zP b4),(4,zP b5),(5,zP b6),(6,zP b7),(7,zP jb1),(8,zI (zdA x1.Broken x1.Rune)),(10,.func (.func 69) #[] #[zP b8])]) (fun b=>[I b.1,cells b1 [.func (.yield l) #[] #[]] 82,cells b4 [zI now13,zI now14,zI now15] 40,cells b5 [zI head4] 83,cells b6 [zI last13,zI last14,.int .i32 last15,.bool last16] 85,cells b7 [.bool open5] 4,cells jb1 (zr2 x1) 85]) (fun cut => ?_) ?_
    ·
     refine zyG (zbd (k:=6) (cs:=(zr2 x1)) zhi rfl dc rfl rfl rfl rfl ?_)
     obtain ⟨hg1,h⟩:=zbr h
     refine zbD (v:=zI (zdA x1.Broken x1.Rune)) (vs:=[.agg (zr2 x1).toArray]) rfl dc rfl rfl rfl zuz (zwZ x1.At x1.Width x1.Rune x1.Broken hg1.1 hg1.2) (zyR 1 rfl (zyN (cut (zaF (zyG (zau (k:=5) zqJ rfl dc rfl rfl rfl (zee rfl dc rfl zcN (zyR 1 rfl (zyN ?_)))))))))
     refine zyB rfl h (fun h => ?_) (fun h => ?_)
     ·
      refine zar (zag ?_)
      exact zal (acc4,rr4) ⟨h,hx4⟩ rfl (za0 rfl) (zad [0,1,2,3,4,5,6] kr rfl)
     refine zyG (zab zkS rfl dc rfl (show _=2 from rfl) (zau (k:=4) ziv rfl dc rfl rfl rfl (zaU rfl zaT (zyR 1 rfl ?_))))
     refine zyS (s:=25) rfl h (fun h => ?_) (fun h => ?_)
     ·
      refine zab zkS rfl dc rfl (show _=2 from rfl) (zau (k:=6) ziv rfl dc rfl rfl rfl (zaU rfl zaT (zyR 2 rfl (zyN ?_))))
      refine zyB rfl h (fun h => ?_) (fun h => ?_)
      ·
       refine zyG (zab zkT rfl dc rfl (show _=0 from rfl) (zau (k:=6) zbp rfl dc rfl rfl rfl (zab zmV rfl dc rfl (show _=1 from rfl) (zau (k:=6) zbp rfl dc rfl rfl rfl ?_))))
       obtain ⟨hg2,h⟩:=zbr h
       refine zaU rfl (zaR (r:=x1.At+x1.Width) (IntWalk.i64_in _ hg2)) (zab zfD rfl dc rfl (show _=0 from rfl) (zab zdZ rfl dc rfl (show _=1 from rfl) ?_))
       refine zbb (k:=2) (l':=[zI now13,zI (x1.At+x1.Width),zI now15]) zcs rfl rfl rfl rfl rfl (fun _ _=>rfl) rfl ?_
       refine zyH (zbd (k:=6) (cs:=(zr2 x1)) zhi rfl dc rfl rfl rfl rfl (za6 (k:=4) (vs:=(zr2 x1)) (l':=(zr2 x1)) zmr rfl rfl rfl rfl rfl (show _≤_ by simp) rfl rfl ?_))
       refine zyN (za3 (zcH dc (zan (zax ?_))))
       exact zhS (now13,x1.At+x1.Width,now15,head4,x1.At,x1.Width,x1.Rune,x1.Broken,open5,acc4,rr4) ⟨fun post2 e2=>(by have e9:=zgM hxs1 e2; subst e9; subst hag1; exact h),hx4⟩ (zad [0,1,2,3,4,5] kr rfl)
      refine zyG (zau (k:=3) znv rfl dc rfl rfl rfl (zaU rfl zbS (zyR 1 rfl ?_)))
      refine zyS (s:=41) rfl h (fun h => ?_) (fun h => ?_)
      ·
       refine zau (k:=3) znv rfl dc rfl rfl rfl (zaU rfl zbS (zyR 2 rfl ?_))
       refine zyS (s:=45) rfl h (fun h => ?_) (fun h => ?_)
       ·
        refine zau (k:=3) znv rfl dc rfl rfl rfl (zaU rfl zbS (zyR 2 rfl ?_))
        refine zyS (s:=49) rfl h (fun h => ?_) (fun h => ?_)
        ·
         refine zau (k:=3) znv rfl dc rfl rfl rfl (zbd (k:=4) (cs:=[zI last13,zI last14,.int .i32 last15,.bool last16]) zhi rfl dc rfl rfl rfl rfl (zbd (k:=6) (cs:=(zr2 x1)) zhi rfl dc rfl rfl rfl rfl ?_))
         obtain ⟨r2,hq3,h⟩:=zbi h
         refine zbD (v:=.bool r2) (vs:=[zI head4,.agg #[zI last13,zI last14,.int .i32 last15,.bool last16],.agg (zr2 x1).toArray]) rfl dc rfl rfl rfl zvV (zhf (behind1:=(⟨last13,last14,last15,last16⟩:Gapi_Piece)) (p1:=x1) hq3) (zyR 2 rfl (zyN ?_))
         refine zyB rfl h (fun h => ?_) (fun h => ?_)
         ·
          refine zyG (zab zkT rfl dc rfl (show _=0 from rfl) (zau (k:=6) zbp rfl dc rfl rfl rfl (zab zmV rfl dc rfl (show _=1 from rfl) (zau (k:=6) zbp rfl dc rfl rfl rfl ?_))))
          obtain ⟨hg3,h⟩:=zbr h
          refine zaU rfl (zaR (r:=x1.At+x1.Width) (IntWalk.i64_in _ hg3)) (zab zfD rfl dc rfl (show _=0 from rfl) (zab zdZ rfl dc rfl (show _=1 from rfl) ?_))
          refine zbb (k:=2) (l':=[zI now13,zI (x1.At+x1.Width),zI now15]) zcs rfl rfl rfl rfl rfl (fun _ _=>rfl) rfl ?_
          refine zyN (zaI ?_)
          obtain ⟨r3,hq4,h⟩:=zbi h
          refine zbn 4 [(0,62,.pointer (some ⟨b4,2,none⟩)),(1,63,zI now15),(2,64,.agg (zr2 x1).toArray),(3,65,zI r3)] mixed kr kr dc (by rfl) kr kr (zac ?_ (zac ?_ (zac ?_ (zac ?_ DrawPre.nil)))) ?_
          · exact fun D n d c u i=>zab zhz rfl dc (zbe (by rfl) rfl) (show _=2 from rfl) (zaf 0 u i rfl)
          · exact fun D n d c u i=>zau (k:=2) zbp rfl dc (zaa (m:=0) u rfl (d 0 dc)) rfl rfl (zaf 1 u i rfl)
          · exact fun D n d c u i=>zbd (k:=6) (cs:=(zr2 x1)) zhi rfl dc (zbe (by rfl) rfl) rfl rfl rfl (zaf 2 u i rfl)
          · exact fun D n d c u i=>zbD (v:=zI r3) (vs:=[.agg (zr2 x1).toArray]) rfl dc rfl (evL.cons (zaa (m:=2) u rfl (d 2 dc)) evL.nil) rfl zuy (zfr (p1:=x1) hq4) (zaf 3 u i rfl)
          refine zk8 rfl dc rfl rfl (zab zhz rfl dc rfl (show _=2 from rfl) ?_)
          refine zbb (k:=2) (l':=[zI now13,zI (x1.At+x1.Width),zI (max now15 r3)]) zcs rfl rfl rfl rfl rfl (fun _ _=>rfl) rfl ?_
          refine zyH (zbd (k:=6) (cs:=(zr2 x1)) zhi rfl dc rfl rfl rfl rfl (za6 (k:=4) (vs:=(zr2 x1)) (l':=(zr2 x1)) zmr rfl rfl rfl rfl rfl (show _≤_ by simp) rfl rfl (zyN (za3 (zcH dc (zan (zax ?_)))))))
          exact zhS (now13,x1.At+x1.Width,max now15 r3,head4,x1.At,x1.Width,x1.Rune,x1.Broken,open5,acc4,rr4) ⟨fun post2 e2=>(by have e9:=zgM hxs1 e2; subst e9; subst hag1; exact h),hx4⟩ (zad [0,1,2,3,4,5] kr rfl)
         refine zyG (zau (k:=1) zmy rfl dc rfl rfl rfl (zbd (k:=2) (cs:=[zI now13,zI now14,zI now15]) zh9 rfl dc rfl rfl rfl rfl ?_))
         obtain ⟨rr6,hr1,h⟩:=zk2 h
         have hx6:xs=acc4++(⟨now13,now14,now15⟩:Gapi_Cell)::rr6:=by rw [hx4,hr1]
         refine zfs hy rfl dc rfl hx6 rfl (k:=0) rfl ?_ ?_
         ·
          have hx7:xs=(acc4++[(⟨now13,now14,now15⟩:Gapi_Cell)])++rr6:=by rw [hx6]; simp
          refine zee rfl dc rfl zcN (zyN (zaS rfl (zar (zag ?_))))
          exact zal (acc4++[(⟨now13,now14,now15⟩:Gapi_Cell)],rr6) ⟨h,hx7⟩ rfl (za0 rfl) (zad [0,1,2,3,4,5,6] kr rfl)
         refine zee rfl dc rfl zcN (zyN (za5 rfl (zaG (zat (zao (zat ?_))))))
         exact zeD (acc4,(⟨now13,now14,now15⟩:Gapi_Cell),rr6) (show _∧_ from ⟨rfl,hx6⟩) (zad [0] kr rfl)
        refine zyR 6 rfl (zyN (zaS rfl (zyG (zau (k:=1) zmy rfl dc rfl rfl rfl (zbd (k:=2) (cs:=[zI now13,zI now14,zI now15]) zh9 rfl dc rfl rfl rfl rfl ?_)))))
        obtain ⟨rr7,hr2,h⟩:=zk2 h
        have hx8:xs=acc4++(⟨now13,now14,now15⟩:Gapi_Cell)::rr7:=by rw [hx4,hr2]
        refine zfs hy rfl dc rfl hx8 rfl (k:=0) rfl ?_ ?_
        ·
         have hx9:xs=(acc4++[(⟨now13,now14,now15⟩:Gapi_Cell)])++rr7:=by rw [hx8]; simp
         refine zee rfl dc rfl zcN (zyN (zaS rfl (zar (zag ?_))))
         exact zal (acc4++[(⟨now13,now14,now15⟩:Gapi_Cell)],rr7) ⟨h,hx9⟩ rfl (za0 rfl) (zad [0,1,2,3,4,5,6] kr rfl)
        refine zee rfl dc rfl zcN (zyN (za5 rfl (zaG (zat (zao (zat ?_))))))
        exact zeD (acc4,(⟨now13,now14,now15⟩:Gapi_Cell),rr7) (show _∧_ from ⟨rfl,hx8⟩) (zad [0] kr rfl)
       refine zyR 10 rfl (zyN (zaS rfl (zaI ?_)))
       refine zav (zau (k:=1) zmy rfl dc rfl rfl rfl (zbd (k:=2) (cs:=[zI now13,zI now14,zI now15]) zh9 rfl dc rfl rfl rfl rfl ?_))
       obtain ⟨rr8,hr3,h⟩:=zk2 h
       have hx10:xs=acc4++(⟨now13,now14,now15⟩:Gapi_Cell)::rr8:=by rw [hx4,hr3]
       refine zfs hy rfl dc rfl hx10 rfl (k:=0) rfl ?_ ?_
       ·
        have hx11:xs=(acc4++[(⟨now13,now14,now15⟩:Gapi_Cell)])++rr8:=by rw [hx10]; simp
        refine zee rfl dc rfl zcN (zyN (zaS rfl (zar (zag ?_))))
        exact zal (acc4++[(⟨now13,now14,now15⟩:Gapi_Cell)],rr8) ⟨h,hx11⟩ rfl (za0 rfl) (zad [0,1,2,3,4,5,6] kr rfl)
       refine zee rfl dc rfl zcN (zyN (za5 rfl (zaG (zat (zao (zat ?_))))))
       exact zeD (acc4,(⟨now13,now14,now15⟩:Gapi_Cell),rr8) (show _∧_ from ⟨rfl,hx10⟩) (zad [0] kr rfl)
      refine zyR 14 rfl ?_
      refine zyN (zaS rfl (zyG (zau (k:=1) zmy rfl dc rfl rfl rfl (zbd (k:=2) (cs:=[zI now13,zI now14,zI now15]) zh9 rfl dc rfl rfl rfl rfl ?_))))
      obtain ⟨rr9,hr4,h⟩:=zk2 h
      have hx12:xs=acc4++(⟨now13,now14,now15⟩:Gapi_Cell)::rr9:=by rw [hx4,hr4]
      refine zfs hy rfl dc rfl hx12 rfl (k:=0) rfl ?_ ?_
      ·
       have hx13:xs=(acc4++[(⟨now13,now14,now15⟩:Gapi_Cell)])++rr9:=by rw [hx12]; simp
       refine zee rfl dc rfl zcN (zyN (zaS rfl (zar (zag ?_))))
       exact zal (acc4++[(⟨now13,now14,now15⟩:Gapi_Cell)],rr9) ⟨h,hx13⟩ rfl (za0 rfl) (zad [0,1,2,3,4,5,6] kr rfl)
      refine zee rfl dc rfl zcN (zyN (za5 rfl (zaG (zat (zao (zat ?_))))))
      exact zeD (acc4,(⟨now13,now14,now15⟩:Gapi_Cell),rr9) (show _∧_ from ⟨rfl,hx12⟩) (zad [0] kr rfl)
     refine zyR 5 rfl (zyN (zaS rfl (zyG (zau (k:=3) znv rfl dc rfl rfl rfl (zaU rfl zbS (zyR 1 rfl ?_))))))
     refine zyS (s:=41) rfl h (fun h => ?_) (fun h => ?_)
     ·
      refine zau (k:=3) znv rfl dc rfl rfl rfl (zaU rfl zbS (zyR 2 rfl ?_))
      refine zyS (s:=45) rfl h (fun h => ?_) (fun h => ?_)
      ·
       refine zau (k:=3) znv rfl dc rfl rfl rfl (zaU rfl zbS (zyR 2 rfl ?_))
       refine zyS (s:=49) rfl h (fun h => ?_) (fun h => ?_)
       ·
        refine zau (k:=3) znv rfl dc rfl rfl rfl (zbd (k:=4) (cs:=[zI last13,zI last14,.int .i32 last15,.bool last16]) zhi rfl dc rfl rfl rfl rfl (zbd (k:=6) (cs:=(zr2 x1)) zhi rfl dc rfl rfl rfl rfl ?_))
        obtain ⟨r4,hq5,h⟩:=zbi h
        refine zbD (v:=.bool r4) (vs:=[zI head4,.agg #[zI last13,zI last14,.int .i32 last15,.bool last16],.agg (zr2 x1).toArray]) rfl dc rfl rfl rfl zvV (zhf (behind1:=(⟨last13,last14,last15,last16⟩:Gapi_Piece)) (p1:=x1) hq5) (zyR 2 rfl (zyN ?_))
        refine zyB rfl h (fun h => ?_) (fun h => ?_)
        ·
         refine zyG (zab zkT rfl dc rfl (show _=0 from rfl) (zau (k:=6) zbp rfl dc rfl rfl rfl (zab zmV rfl dc rfl (show _=1 from rfl) (zau (k:=6) zbp rfl dc rfl rfl rfl ?_))))
         obtain ⟨hg4,h⟩:=zbr h
         refine zaU rfl (zaR (r:=x1.At+x1.Width) (IntWalk.i64_in _ hg4)) (zab zfD rfl dc rfl (show _=0 from rfl) (zab zdZ rfl dc rfl (show _=1 from rfl) ?_))
         refine zbb (k:=2) (l':=[zI now13,zI (x1.At+x1.Width),zI now15]) zcs rfl rfl rfl rfl rfl (fun _ _=>rfl) rfl ?_
         refine zyN (zaI ?_)
         obtain ⟨r5,hq6,h⟩:=zbi h
         refine zbn 4 [(0,62,.pointer (some ⟨b4,2,none⟩)),(1,63,zI now15),(2,64,.agg (zr2 x1).toArray),(3,65,zI r5)] mixed kr kr dc (by rfl) kr kr (zac ?_ (zac ?_ (zac ?_ (zac ?_ DrawPre.nil)))) ?_
         · exact fun D n d c u i=>zab zhz rfl dc (zbe (by rfl) rfl) (show _=2 from rfl) (zaf 0 u i rfl)
         · exact fun D n d c u i=>zau (k:=2) zbp rfl dc (zaa (m:=0) u rfl (d 0 dc)) rfl rfl (zaf 1 u i rfl)
         · exact fun D n d c u i=>zbd (k:=6) (cs:=(zr2 x1)) zhi rfl dc (zbe (by rfl) rfl) rfl rfl rfl (zaf 2 u i rfl)
         · exact fun D n d c u i=>zbD (v:=zI r5) (vs:=[.agg (zr2 x1).toArray]) rfl dc rfl (evL.cons (zaa (m:=2) u rfl (d 2 dc)) evL.nil) rfl zuy (zfr (p1:=x1) hq6) (zaf 3 u i rfl)
         refine zk8 rfl dc rfl rfl (zab zhz rfl dc rfl (show _=2 from rfl) ?_)
         refine zbb (k:=2) (l':=[zI now13,zI (x1.At+x1.Width),zI (max now15 r5)]) zcs rfl rfl rfl rfl rfl (fun _ _=>rfl) rfl ?_
         refine zyH (zbd (k:=6) (cs:=(zr2 x1)) zhi rfl dc rfl rfl rfl rfl (za6 (k:=4) (vs:=(zr2 x1)) (l':=(zr2 x1)) zmr rfl rfl rfl rfl rfl (show _≤_ by simp) rfl rfl (zyN (za3 (zcH dc (zan (zax ?_)))))))
         exact zhS (now13,x1.At+x1.Width,max now15 r5,head4,x1.At,x1.Width,x1.Rune,x1.Broken,open5,acc4,rr4) ⟨fun post2 e2=>(by have e9:=zgM hxs1 e2; subst e9; subst hag1; exact h),hx4⟩ (zad [0,1,2,3,4,5] kr rfl)
        refine zyG (zau (k:=1) zmy rfl dc rfl rfl rfl (zbd (k:=2) (cs:=[zI now13,zI now14,zI now15]) zh9 rfl dc rfl rfl rfl rfl ?_))
        obtain ⟨rr10,hr5,h⟩:=zk2 h
        have hx14:xs=acc4++(⟨now13,now14,now15⟩:Gapi_Cell)::rr10:=by rw [hx4,hr5]
        refine zfs hy rfl dc rfl hx14 rfl (k:=0) rfl ?_ ?_
        ·
         have hx15:xs=(acc4++[(⟨now13,now14,now15⟩:Gapi_Cell)])++rr10:=by rw [hx14]; simp
         refine zee rfl dc rfl zcN (zyN (zaS rfl (zar (zag ?_))))
         exact zal (acc4++[(⟨now13,now14,now15⟩:Gapi_Cell)],rr10) ⟨h,hx15⟩ rfl (za0 rfl) (zad [0,1,2,3,4,5,6] kr rfl)
        refine zee rfl dc rfl zcN (zyN (za5 rfl (zaG (zat (zao (zat ?_))))))
        exact zeD (acc4,(⟨now13,now14,now15⟩:Gapi_Cell),rr10) (show _∧_ from ⟨rfl,hx14⟩) (zad [0] kr rfl)
       refine zyR 6 rfl (zyN (zaS rfl (zyG (zau (k:=1) zmy rfl dc rfl rfl rfl (zbd (k:=2) (cs:=[zI now13,zI now14,zI now15]) zh9 rfl dc rfl rfl rfl rfl ?_)))))
       obtain ⟨rr11,hr6,h⟩:=zk2 h
       have hx16:xs=acc4++(⟨now13,now14,now15⟩:Gapi_Cell)::rr11:=by rw [hx4,hr6]
       refine zfs hy rfl dc rfl hx16 rfl (k:=0) rfl ?_ ?_
       ·
        have hx17:xs=(acc4++[(⟨now13,now14,now15⟩:Gapi_Cell)])++rr11:=by rw [hx16]; simp
        refine zee rfl dc rfl zcN (zyN (zaS rfl (zar (zag ?_))))
        exact zal (acc4++[(⟨now13,now14,now15⟩:Gapi_Cell)],rr11) ⟨h,hx17⟩ rfl (za0 rfl) (zad [0,1,2,3,4,5,6] kr rfl)
       refine zee rfl dc rfl zcN (zyN (za5 rfl (zaG (zat (zao (zat ?_))))))
       exact zeD (acc4,(⟨now13,now14,now15⟩:Gapi_Cell),rr11) (show _∧_ from ⟨rfl,hx16⟩) (zad [0] kr rfl)
      refine zyR 10 rfl (zyN (zaS rfl (zaI ?_)))
      refine zav (zau (k:=1) zmy rfl dc rfl rfl rfl (zbd (k:=2) (cs:=[zI now13,zI now14,zI now15]) zh9 rfl dc rfl rfl rfl rfl ?_))
      obtain ⟨rr12,hr7,h⟩:=zk2 h
      have hx18:xs=acc4++(⟨now13,now14,now15⟩:Gapi_Cell)::rr12:=by rw [hx4,hr7]
      refine zfs hy rfl dc rfl hx18 rfl (k:=0) rfl ?_ ?_
      ·
       have hx19:xs=(acc4++[(⟨now13,now14,now15⟩:Gapi_Cell)])++rr12:=by rw [hx18]; simp
       refine zee rfl dc rfl zcN (zyN (zaS rfl (zar (zag ?_))))
       exact zal (acc4++[(⟨now13,now14,now15⟩:Gapi_Cell)],rr12) ⟨h,hx19⟩ rfl (za0 rfl) (zad [0,1,2,3,4,5,6] kr rfl)
      refine zee rfl dc rfl zcN (zyN (za5 rfl (zaG (zat (zao (zat ?_))))))
      exact zeD (acc4,(⟨now13,now14,now15⟩:Gapi_Cell),rr12) (show _∧_ from ⟨rfl,hx18⟩) (zad [0] kr rfl)
     refine zyR 14 rfl ?_
     refine zyN (zaS rfl (zyG (zau (k:=1) zmy rfl dc rfl rfl rfl (zbd (k:=2) (cs:=[zI now13,zI now14,zI now15]) zh9 rfl dc rfl rfl rfl rfl ?_))))
     obtain ⟨rr13,hr8,h⟩:=zk2 h
     have hx20:xs=acc4++(⟨now13,now14,now15⟩:Gapi_Cell)::rr13:=by rw [hx4,hr8]
     refine zfs hy rfl dc rfl hx20 rfl (k:=0) rfl ?_ ?_
     ·
      have hx21:xs=(acc4++[(⟨now13,now14,now15⟩:Gapi_Cell)])++rr13:=by rw [hx20]; simp
      refine zee rfl dc rfl zcN (zyN (zaS rfl (zar (zag ?_))))
      exact zal (acc4++[(⟨now13,now14,now15⟩:Gapi_Cell)],rr13) ⟨h,hx21⟩ rfl (za0 rfl) (zad [0,1,2,3,4,5,6] kr rfl)
     refine zee rfl dc rfl zcN (zyN (za5 rfl (zaG (zat (zao (zat ?_))))))
     exact zeD (acc4,(⟨now13,now14,now15⟩:Gapi_Cell),rr13) (show _∧_ from ⟨rfl,hx20⟩) (zad [0] kr rfl)
    rintro ⟨acc5,rr5⟩ ⟨h,hx5⟩
    rw [hj2] at h
    refine zaI ?_
    refine let vals1:(Unit)→List (Nat×Nat×Value):=fun b=>[(0,69,zI (zdA x1.Broken x1.Rune)),(1,70,.agg (zr2 x1).toArray)]; let LL1:(Nat→Prop)→(Unit)→List Asn:=fun D b=>[I acc5,cells b1 [.func (.yield l) #[] #[]] 82,cells b4 [zI now13,zI now14,zI now15] 40,eD D (cells b5 [zI head4] 83) [(3,cells b5 [zI (zdA x1.Broken x1.Rune)] 83)],cells b6 [zI last13,zI last14,.int .i32 last15,.bool last16] 85,eD D (cells b7 [.bool open5] 4) [(2,cells b7 [.bool true] 4)],cells jb1 (zr2 x1) 85]; ?_
    have zhq:zyQ [2,3] LL1:=fun i h D b=>zae rfl (zae rfl (zae rfl (zae (zjY rfl h) (zae rfl (zae (zjY rfl h) rfl)))))
    refine zd3 (β:=Unit) 4 () vals1 LL1 mixed kr kr dc (fun _=>rfl) (zcK (zae zb7 (zae rfl (zae zb7 rfl)))) (zmg zhq (fun _=>rfl) (fun _=>rfl) 1 0 (fun _=>rfl) rfl (zi5 zhq rfl (fun _=>rfl) (fun _=>rfl) ?_ (zaB ?_ (zaB ?_ DrawG.nil)))) ?_
    · exact fun D b n d c u i=>⟨_,(zwt rfl),zbd (k:=6) (cs:=(zr2 x1)) zhi rfl dc (zbe (by rfl) rfl) rfl rfl rfl (zaf 1 u i rfl)⟩
    ·
     intro D b hn hd hcl
     refine zaL (zcK (zae (zak (fun hD=>hn (hcl 3 _ rfl hD 2 dc)) zaq) (zae rfl (zae (zak hn zaq) rfl)))) ?_
     refine zbb (k:=5) (l':=[.bool true]) zww rfl (zbe (by rfl) rfl) rfl rfl rfl (fun _ _=>rfl) rfl ?_
     exact zhT (b:=b) () (by rfl) (zu1 rfl) (zcK (zae ((zap (by rfl)).trans (zak (fun hD=>hn (hcl 3 _ rfl hD 2 dc)) zaq)) (zae rfl (zae (zaM (Or.inr rfl) rfl) rfl))))
    ·
     intro D b hn hd hcl
     refine zaL (zcK (zae (zak hn zaq) (zae rfl (zae (zaM (hd 2 dc) rfl) rfl)))) ?_
     refine zbb (k:=3) (l':=[zI (zdA x1.Broken x1.Rune)]) zwP rfl (zbe (by rfl) rfl) (zaa (m:=0) rfl rfl (hd 0 dc)) rfl rfl (fun _ _=>rfl) rfl ?_
     exact zhT (b:=b) () (by rfl) (zu1 rfl) (zcK (zae (zaM (Or.inr rfl) rfl) (zae rfl (zae ((zap (by rfl)).trans (zaM (hd 2 dc) rfl)) rfl))))
    intro D b hall
    refine zaL (zcK (zae (zaM (hall 3 dc) rfl) (zae rfl (zae (zaM (hall 2 dc) rfl) rfl)))) (za6 (k:=4) (vs:=(zr2 x1)) (l':=(zr2 x1)) zmr rfl rfl rfl rfl rfl (show _≤_ by simp) rfl rfl (zyN ?_))
    obtain ⟨hg5,h⟩:=zbr h
    obtain ⟨r6,hq7,h⟩:=zbi h
    refine zbn 10 [(0,71,zP jb1),(1,72,zI x1.At),(2,73,zP jb1),(3,74,zI x1.At),(4,75,.pointer (some ⟨jb1,1,none⟩)),(5,76,zI x1.Width),(6,77,zI (x1.At+x1.Width)),(7,78,.agg #[zI x1.At,zI (x1.At+x1.Width)]),(8,79,.agg (zr2 x1).toArray),(9,80,zI r6)] mixed kr kr dc (by rfl) kr kr (zac ?_ (zac ?_ (zac ?_ (zac ?_ (zac ?_ (zac ?_ (zac ?_ (zac ?_ (zac ?_ (zac ?_ DrawPre.nil)))))))))) ?_
    · exact fun D n d c u i=>zab zkT rfl dc (zbe (by rfl) rfl) (show _=0 from rfl) (zaf 0 u i rfl)
    · exact fun D n d c u i=>zau (k:=6) zbp rfl dc (zaa (m:=0) u rfl (d 0 dc)) rfl rfl (zaf 1 u i rfl)
    · exact fun D n d c u i=>zab zkT rfl dc (zbe (by rfl) rfl) (show _=0 from rfl) (zaf 2 u i rfl)
    · exact fun D n d c u i=>zau (k:=6) zbp rfl dc (zaa (m:=2) u rfl (d 2 dc)) rfl rfl (zaf 3 u i rfl)
    · exact fun D n d c u i=>zab zmV rfl dc (zbe (by rfl) rfl) (show _=1 from rfl) (zaf 4 u i rfl)
    · exact fun D n d c u i=>zau (k:=6) zbp rfl dc (zaa (m:=4) u rfl (d 4 dc)) rfl rfl (zaf 5 u i rfl)
    · exact fun D n d c u i=>zbz rfl dc (zaa (m:=3) u rfl (d 3 dc)) (zaa (m:=5) u rfl (d 5 dc)) (zaR (r:=x1.At+x1.Width) (IntWalk.i64_in _ hg5)) (zaf 6 u i rfl)
    · exact fun D n d c u i=>zba (v:=.agg #[zI x1.At,zI (x1.At+x1.Width)]) (ps:=[(0,.tmp 72),(1,.tmp 77)]) rfl dc (evP.cons (zaa (m:=1) u rfl (d 1 dc)) (evP.cons (zaa (m:=6) u rfl (d 6 dc)) evP.nil)) (fun _=>by kernel_rfl) (zaf 7 u i rfl)
    · exact fun D n d c u i=>zbd (k:=6) (cs:=(zr2 x1)) zhi rfl dc (zbe (by rfl) rfl) rfl rfl rfl (zaf 8 u i rfl)
    · exact fun D n d c u i=>zbD (v:=zI r6) (vs:=[.agg (zr2 x1).toArray]) rfl dc rfl (evL.cons (zaa (m:=8) u rfl (d 8 dc)) evL.nil) rfl zuy (zfr (p1:=x1) hq7) (zaf 9 u i rfl)
    refine zba (v:=.agg #[zI x1.At,zI (x1.At+x1.Width),zI r6]) (ps:=[(0,.tmp 78),(1,.tmp 80)]) rfl dc rfl (fun _=>by kernel_rfl) ?_
    refine za6 (k:=2) (vs:=[zI x1.At,zI (x1.At+x1.Width),zI r6]) (l':=[zI x1.At,zI (x1.At+x1.Width),zI r6]) zho rfl rfl rfl rfl rfl (show _≤_ by simp) rfl rfl ?_
    refine zaO (zag ?_)
    exact zhS (x1.At,x1.At+x1.Width,r6,zdA x1.Broken x1.Rune,x1.At,x1.Width,x1.Rune,x1.Broken,true,acc5,rr5) ⟨fun post2 e2=>(by have e9:=zgM hxs1 e2; subst e9; subst hag1; exact h),hx5⟩ (zad [0,1,2,3,4,5] kr rfl)
   ·
    rintro dm1 ⟨now13,now14,now15,head4,last13,last14,last15,last16,open5,acc4,rr4⟩ hinv
    obtain ⟨hinv,hx4⟩:=hinv
    have h:dn1 now13 now14 now15 head4 last13 last14 last15 last16 open5=some rr4:=hinv [] (List.append_nil _).symm
    rw [hdn1] at h
    refine zim (k:=14) (j:=1) rfl rfl dc ?_
    refine zag ?_
    exact zal (now13,now14,now15,open5,acc4,rr4,b4,b7,dm1::([]:List Nat)) ⟨h,hx4⟩ rfl (za0 rfl) (zad [8,9,10,13,1] kr rfl)
   rintro dm1 c pre x1 post g hxs hX
   obtain ⟨ta1,tq1,tr1⟩:=g
   obtain ⟨rfl,hx22⟩:=(show _∧_ from hX)
   refine zoT (k:=9) (j:=1) rfl rfl dc ?_
   refine zaG (zat (zao (zd9 (by simp) ?_)))
   exact zng (ds:=(dm1::([]:List Nat))) ta1 tq1 tr1 hx22 (.inl rfl) (zfd (k:=1) rfl) Tryz.results33 (zad [8] kr rfl)
  rintro ⟨now1,now2,now3,zdj,acc1,rr1,b2,b3,ds1⟩ ⟨h,hx1⟩
  rw [hj1] at h
  refine zyG (zau (k:=3) zqJ rfl dc rfl rfl rfl (zyN ?_))
  refine zyB rfl h (fun h => ?_) (fun h => ?_)
  ·
   refine zav (zau (k:=1) zmy rfl dc rfl rfl rfl (zbd (k:=2) (cs:=[zI now1,zI now2,zI now3]) zh9 rfl dc rfl rfl rfl rfl ?_))
   obtain ⟨rr14,hr9,h⟩:=zk2 h
   have hx23:xs=acc1++(⟨now1,now2,now3⟩:Gapi_Cell)::rr14:=by rw [hx1,hr9]
   refine zfs hy rfl dc rfl hx23 rfl (k:=0) rfl ?_ ?_
   ·
    have hx24:xs=(acc1++[(⟨now1,now2,now3⟩:Gapi_Cell)])++rr14:=by rw [hx23]; simp
    refine zaO (zd9 (by simp) ?_)
    cases h
    exact znf (ds:=ds1) (.inr rfl) (zfd (k:=4) rfl) Tryz.results33 (congrArg I (hx24.trans (List.append_nil _))) (zad [0] kr rfl)
   refine zaO (zd9 (by simp) ?_)
   exact zng (ds:=ds1) acc1 (⟨now1,now2,now3⟩:Gapi_Cell) rr14 hx23 (.inr rfl) (zfd (k:=4) rfl) Tryz.results33 (zad [0] kr rfl)
  refine zar (zd9 (by simp) ?_)
  cases h
  exact znf (ds:=ds1) (.inr rfl) (zfd (k:=4) rfl) Tryz.results33 (congrArg I (hx1.trans (List.append_nil _))) (zad [0] kr rfl)
 exact fun b hb=>hb.elim
def zgH (s1:ByteArray):Option ByteArray :=
some s1
theorem zk5 {s1:ByteArray} {r:ByteArray} (h:zgH s1=some r):Fn Tryz.prog 11 [.string s1] [] (fun v0:Nat=>.func (.func 33) #[] #[zP v0]) (fun v0=>[cells v0 [.string r] 9]):=by
 unfold zgH at h
 refine Fn.intro Tryz.func11 rfl Tryz.ntmps11 (by simp) ?_
 intro w0 K
 refine zyG ?_
 refine zea rfl dc rfl (fun b1 => ?_)
 refine zyR 1 rfl (zyH (zin (x1:=[]) (x2:=[.tmp 1]) rfl dc rfl rfl (zyR 1 rfl (zyN (zaG ?_)))))
 cases h
 exact zaK (rs:=[.tmp 2]) b1 (.inl rfl) Tryz.results11 (.cons (.tmp rfl) .nil) rfl (zad [0] kr rfl)
end Go.Proofs.YtbempdelckaccaaGreatDoor

namespace Go.Proofs.YtbempdelckaccaaGreatDoor
open Go.RowKit Go.Lib
set_option linter.unusedVariables false
set_option linter.unusedSimpArgs false
theorem zf5 (s:ByteArray):s.data.toList.length=s.size:=by rw [Array.length_toList]; rfl
def zlo (r:Int):Bool→List Int→Bool
 | _,[]=>false
 | false,e::es=>if r<e then false else zlo r true es
 | true,e::es=>if r≤e then true else zlo r false es
def zqo:List Int:=(pcs (⟨#[225,132,128,225,133,159,226,186,128,227,128,190,227,129,129,228,182,191,228,184,128,234,147,143,234,176,128,237,158,163,239,164,128,239,171,191,239,184,176,239,185,175,239,188,128,239,189,160,239,191,160,239,191,166,240,159,140,128,240,159,153,143,240,159,164,128,240,159,167,191,240,160,128,128,240,191,191,189]⟩:ByteArray).data.toList).map fun p=>(p.r:Int)
def zmm (r:Int):Bool:=zlo r false zqo
theorem zu9 (r:Int):zeo r=some (zmm r):=by
 unfold zeo zmm zqo
 refine zbs ?_
 generalize hP:pcs (⟨#[225,132,128,225,133,159,226,186,128,227,128,190,227,129,129,228,182,191,228,184,128,234,147,143,234,176,128,237,158,163,239,164,128,239,171,191,239,184,176,239,185,175,239,188,128,239,189,160,239,191,160,239,191,166,240,159,140,128,240,159,153,143,240,159,164,128,240,159,167,191,240,160,128,128,240,191,191,189]⟩:ByteArray).data.toList=P
 have hlen:P.length≤1000:=by rw [← hP]; decide +kernel
 have key:∀ (n m:Nat) (w:Bool),m≤P.length→P.length - m<n→zaE (fun _ _=>none) (zde r (some false)) n w m=some (zlo r w ((P.drop m).map fun p=>(p.r:Int))):=by
  intro n
  induction n with
  | zero=>intro m w _ h; omega
  | succ n ih =>
   intro m w hm hn
   rw [zb5]
   generalize zaE (fun _ _=>none) (zde r (some false)) n=ag at ih ⊢
   unfold zde
   rw [hP]
   by_cases h:m<P.length
   ·have hx:P[m]?=some P[m]:=List.getElem?_eq_getElem h
    have hd:=List.drop_eq_getElem_cons h
    generalize P[m]=p at hx hd
    have hn1:=fun w=>ih (m+1) w (by omega) (by omega)
    refine zaC (decide_eq_true h) (zaJ hx (zbs ?_))
    rw [hd,List.map_cons]
    cases w with
    | false =>
     refine zaC rfl ?_
     unfold zlo
     by_cases h1:r<(p.r:Int)
     ·rw [if_pos h1]; exact zaC (decide_eq_true h1) rfl
     ·rw [if_neg h1]; exact zaw (decide_eq_false h1) (zaw rfl (hn1 true))
    | true =>
     refine zaw rfl (zaC rfl ?_)
     unfold zlo
     by_cases h1:r≤(p.r:Int)
     ·rw [if_pos h1]; exact zaC (decide_eq_true h1) rfl
     ·rw [if_neg h1]; exact zaw (decide_eq_false h1) (hn1 false)
   ·have:m=P.length:=by omega
    subst this
    refine zaw (decide_eq_false h) ?_
    rw [List.drop_length]
    cases w <;> rfl
 have:=key zbN 0 false (Nat.zero_le _) (by have:=zbM (n:=P.length) (by omega); omega)
 rw [List.drop_zero] at this
 exact this
def kdP (x:Gapi_Piece):Int:=zdA x.Broken x.Rune
def zgY (x:Gapi_Piece):Int:=if kdP x=11 then 1 else if kdP x=2∨kdP x=4∨kdP x=9 then 0 else if zmm x.Rune=true then 2 else 1
theorem zoK (x:Gapi_Piece):0≤zgY x∧zgY x≤2:=by
 unfold zgY; repeat' split
 all_goals omega
theorem zgt {a b:Int} (h:a=b):(a==b)=true:=by rw [h]; exact beq_self_eq_true _
theorem zgD {a b:Int} (h:a≠b):(a==b)=false:=beq_eq_false_iff_ne.2 h
theorem zth {a b:Int} (h:a≠b):(a != b)=true:=bne_iff_ne.2 h
theorem zvI {a b:Int} (h:a=b):(a != b)=false:=by rw [h]; exact bne_self_eq_false _
theorem zk3 (x:Gapi_Piece) (hx:I32 x.Rune):zbP x=some (zgY x):=by
 unfold zbP zgY
 refine zbl hx ?_
 change zay (kdP x==11) _ _=_
 by_cases h1:kdP x=11
 ·rw [if_pos h1]; exact zaC (zgt h1) rfl
 rw [if_neg h1]
 refine zaw (zgD h1) (zbs ?_)
 change zay (kdP x==2) (zay (kdP x==2) _ _) (zay (kdP x==4) (zay (kdP x==4) _ _) (zay (kdP x==9) _ _))=_
 have wd:(zah (zeo x.Rune) fun (r1:Bool)=>zay (r1) (some (2:Int)) (some 1))=some (if zmm x.Rune=true then 2 else 1):=by
  refine zaJ (zu9 x.Rune) ?_
  cases zmm x.Rune <;> rfl
 by_cases h2:kdP x=2
 ·rw [if_pos (.inl h2)]; exact zaC (zgt h2) (zaC (zgt h2) rfl)
 refine zaw (zgD h2) ?_
 by_cases h4:kdP x=4
 ·rw [if_pos (.inr (.inl h4))]; exact zaC (zgt h4) (zaC (zgt h4) rfl)
 refine zaw (zgD h4) ?_
 by_cases h9:kdP x=9
 ·rw [if_pos (.inr (.inr h9))]; exact zaC (zgt h9) rfl
 rw [if_neg (by omega)]
 exact zaw (zgD h9) wd
def zh0 (head behind:Int) (x:Gapi_Piece):Bool:=if x.Broken then false else if kdP x=2 then true else if x.Rune=8205 then true else if head=10 then (if kdP x=10 then decide (behind=8205) else false) else false
theorem zum (head:Int) (b x:Gapi_Piece) (hx:I32 x.Rune):zdF head b x=some (zh0 head b.Rune x):=by
 unfold zdF zh0
 cases hb:x.Broken with
 | true=>exact zaC rfl rfl
 | false =>
  refine zaw rfl (zbl hx ?_)
  have hk:kdP x=zdA false x.Rune:=by unfold kdP; rw [hb]
  rw [← hk]
  simp only [Bool.false_eq_true,if_false]
  by_cases h2:kdP x=2
  ·rw [if_pos h2]; exact zaC (zgt h2) rfl
  rw [if_neg h2]
  refine zaw (zgD h2) ?_
  by_cases hj:x.Rune=8205
  ·rw [if_pos hj]; exact zaC (zgt hj) rfl
  rw [if_neg hj]
  refine zaw (zgD hj) ?_
  by_cases hh:head=10
  ·rw [if_pos hh]
   refine zaC (zgt hh) ?_
   by_cases h10:kdP x=10
   ·rw [if_pos h10]
    refine zaC (zgt h10) ?_
    by_cases e:b.Rune=8205
    ·rw [decide_eq_true e,zgt e]
    ·rw [decide_eq_false e,zgD e]
   ·rw [if_neg h10]; exact zaw (zgD h10) rfl
  ·rw [if_neg hh]; exact zaw (zgD hh) rfl
def zkl (head last:Int) (x:Gapi_Piece):Bool:=head != 11&&(head != 4&&(head != 9&&zh0 head last x))
def zgq:Gapi_Cell→Int→Int→List Gapi_Piece→List Gapi_Cell
 | c,_,_,[]=>[c]
 | c,head,last,x::xs =>
  if last=13∧x.Rune=10 then zgq ⟨c.Span_From,x.At+x.Width,c.Columns⟩ head x.Rune xs
  else if zkl head last x=true then zgq ⟨c.Span_From,x.At+x.Width,max c.Columns (zgY x)⟩ head x.Rune xs
  else c::zgq ⟨x.At,x.At+x.Width,zgY x⟩ (kdP x) x.Rune xs
theorem zfE (c:Gapi_Cell) (head last:Int) (x:Gapi_Piece) (xs:List Gapi_Piece):zgq c head last (x::xs)=if last=13∧x.Rune=10 then zgq ⟨c.Span_From,x.At+x.Width,c.Columns⟩ head x.Rune xs
  else if zkl head last x=true then zgq ⟨c.Span_From,x.At+x.Width,max c.Columns (zgY x)⟩ head x.Rune xs
  else c::zgq ⟨x.At,x.At+x.Width,zgY x⟩ (kdP x) x.Rune xs:=rfl
def zhg:List Gapi_Piece→List Gapi_Cell
 | []=>[]
 | x::xs=>zgq ⟨x.At,x.At+x.Width,zgY x⟩ (kdP x) x.Rune xs
def zam (s:ByteArray):List Gapi_Cell:=zhg ((pcs s.data.toList).map pcG)
def okP (x:Gapi_Piece):Prop:=I32 x.Rune∧0≤x.At∧x.At≤4000000000∧0<x.Width∧x.Width≤4
theorem zrw (d:Int→Int→Int→Int→Int→Int→Int→Bool→Bool→Option (List Gapi_Cell)) (hd:∀ a b c h l1 l2 l3 l4,d a b c h l1 l2 l3 l4 true=some [⟨a,b,c⟩]) :
  ∀ (xs:List Gapi_Piece) (a b c h l1 l2 l3:Int) (l4:Bool),(∀ x∈xs,okP x)→zev d zcd xs a b c h l1 l2 l3 l4 true=some (zgq ⟨a,b,c⟩ h l3 xs)
 | [],a,b,c,h,l1,l2,l3,l4,_=>hd a b c h l1 l2 l3 l4
 | x::xs,a,b,c,h,l1,l2,l3,l4,ho=>by
  obtain ⟨o1,o2,o3,o4,o5⟩:=ho x (List.mem_cons_self ..)
  have ih:=fun a b c h l1 l2 l3 l4=>zrw d hd xs a b c h l1 l2 l3 l4 (fun y hy=>ho y (List.mem_cons_of_mem _ hy))
  rw [zg2]
  generalize zev d zcd xs=ag at ih ⊢
  unfold zcd
  refine zbs (zbl o1 (zaw rfl ?_))
  have hI:I64 (x.At+x.Width):=⟨by omega,by omega⟩
  have new:(grd (I64 (x.At+x.Width))<|zah (zbP x) fun (r6:Int)=>ag x.At (x.At+x.Width) r6 (zdA x.Broken x.Rune) x.At x.Width x.Rune x.Broken true)=some (zgq ⟨x.At,x.At+x.Width,zgY x⟩ (kdP x) x.Rune xs) :=
   zbl hI (zaJ (zk3 x o1) (ih ..))
  have rest:¬ (l3=13∧x.Rune=10)→zay ((h:Int) != 11) (zay ((h:Int) != 4) (zay ((h:Int) != 9) (zah (zdF h (⟨l1,l2,l3,l4⟩:Gapi_Piece) x) fun (r2:Bool)=>zay (r2) (grd (I64 (x.At+x.Width))<|zah (zbP x) fun (r3:Int)=>ag a (x.At+x.Width) (max c r3) h x.At x.Width x.Rune x.Broken true)
    (zhH (⟨a,b,c⟩:Gapi_Cell)<|(grd (I64 (x.At+x.Width))<|zah (zbP x) fun (r6:Int)=>ag x.At (x.At+x.Width) r6 (zdA x.Broken x.Rune) x.At x.Width x.Rune x.Broken true)))
    (zhH (⟨a,b,c⟩:Gapi_Cell)<|(grd (I64 (x.At+x.Width))<|zah (zbP x) fun (r6:Int)=>ag x.At (x.At+x.Width) r6 (zdA x.Broken x.Rune) x.At x.Width x.Rune x.Broken true)))
    (zhH (⟨a,b,c⟩:Gapi_Cell)<|(grd (I64 (x.At+x.Width))<|zah (zbP x) fun (r6:Int)=>ag x.At (x.At+x.Width) r6 (zdA x.Broken x.Rune) x.At x.Width x.Rune x.Broken true)))
    (zhH (⟨a,b,c⟩:Gapi_Cell)<|(grd (I64 (x.At+x.Width))<|zah (zbP x) fun (r6:Int)=>ag x.At (x.At+x.Width) r6 (zdA x.Broken x.Rune) x.At x.Width x.Rune x.Broken true))=some (zgq ⟨a,b,c⟩ h l3 (x::xs)):=by
   intro hn
   rw [new,zfE,if_neg hn]
   unfold zkl
   cases h1:(h != 11) with
   | false=>exact zaw rfl rfl
   | true =>
    refine zaC rfl ?_
    cases h2:(h != 4) with
    | false=>exact zaw rfl rfl
    | true =>
     refine zaC rfl ?_
     cases h3:(h != 9) with
     | false=>exact zaw rfl rfl
     | true =>
      refine zaC rfl (zaJ (zum h _ x o1) ?_)
      show zay (zh0 h l3 x) _ _=some (if (true&&(true&&(true&&zh0 h l3 x)))=true then _ else _)
      cases h4:zh0 h l3 x with
      | false=>exact zaw rfl rfl
      | true=>exact zaC rfl (zbl hI (zaJ (zk3 x o1) (ih ..)))
  by_cases hr:l3=13
  ·refine zaC (zgt hr) ?_
   by_cases hx:x.Rune=10
   ·refine zaC (zgt hx) (zbl hI ?_)
    rw [ih,zfE,if_pos ⟨hr,hx⟩]
   ·exact zaw (zgD hx) (rest (fun e=>hx e.2))
  ·exact zaw (zgD hr) (rest (fun e=>hr e.1))
theorem zuf (s:ByteArray) (hs:s.size≤2147483648):∀ x∈(pcs s.data.toList).map pcG,okP x:=by
 intro x hx
 obtain ⟨p,hp,rfl⟩:=List.mem_map.1 hx
 obtain ⟨g1,g2,hok⟩:=zgk s.data.toList p hp
 have hl:=zf5 s
 have h1:=hok.pos
 have hv:=hok.valid
 have hw:p.w≤4:=by
  by_cases h:p.r=65533∧p.w=1
  ·omega
  ·rw [← hok.width h]; exact (zh6 _).2
 refine ⟨⟨?_,?_⟩,?_,?_,?_,?_⟩
 ·show -2147483648≤(p.r:Int); omega
 ·show (p.r:Int)≤2147483647; omega
 ·show 0≤(p.i:Int); omega
 ·show (p.i:Int)≤4000000000; omega
 ·show 0<(p.w:Int); omega
 ·show (p.w:Int)≤4; omega
theorem zwi (s:ByteArray) (hs:s.size≤2147483648):zel s=some (zam s):=by
 unfold zel
 refine zbs (zaJ rfl (zaJ (zue s hs) (zbs ?_)))
 have ho:=zuf s hs
 unfold zam
 generalize (pcs s.data.toList).map pcG=P at ho
 cases P with
 | nil=>rfl
 | cons x xs =>
  obtain ⟨o1,o2,o3,o4,o5⟩:=ho x (List.mem_cons_self ..)
  rw [zg2]
  have ih:=zrw (fun (now13:Int) (now14:Int) (now15:Int) (head4:Int) (last13:Int) (last14:Int) (last15:Int) (last16:Bool) (open5:Bool)=>zay (open5) (zhH (⟨now13,now14,now15⟩:Gapi_Cell)<|some []) (some [])) (fun a b c h l1 l2 l3 l4=>rfl) xs x.At (x.At+x.Width) (zgY x) (kdP x) x.At x.Width x.Rune x.Broken (fun y hy=>ho y (List.mem_cons_of_mem _ hy))
  generalize zev _ zcd xs=ag at ih ⊢
  unfold zcd
  exact zbs (zbl o1 (zaC rfl (zbl ⟨by omega,by omega⟩ (zaJ (zk3 x o1) ih))))
def Cov:Int→List Gapi_Cell→Int→Prop
 | a,[],b=>a=b
 | a,c::cs,b=>c.Span_From=a∧a<c.Span_To∧(0≤c.Columns∧c.Columns≤2)∧Cov c.Span_To cs b
def zwp:Int→List Gapi_Piece→Int→Prop
 | a,[],b=>a=b
 | a,x::xs,b=>x.At=a∧0<x.Width∧zwp (a+x.Width) xs b
theorem zi0:∀ (xs:List Gapi_Piece) (c:Gapi_Cell) (h l:Int) (b:Int),c.Span_From<c.Span_To→0≤c.Columns∧c.Columns≤2→zwp c.Span_To xs b→Cov c.Span_From (zgq c h l xs) b
 | [],c,h,l,b,h1,h2,h3=>⟨rfl,h1,h2,h3⟩
 | x::xs,c,h,l,b,h1,h2,h3=>by
  obtain ⟨g1,g2,g3⟩:=h3
  rw [← g1] at g3
  have hc:=zoK x
  rw [zfE]
  split
  ·exact zi0 xs ⟨c.Span_From,x.At+x.Width,c.Columns⟩ h x.Rune b (by show c.Span_From<x.At+x.Width; omega) h2 g3
  split
  ·exact zi0 xs ⟨c.Span_From,x.At+x.Width,max c.Columns (zgY x)⟩ h x.Rune b (by show c.Span_From<x.At+x.Width; omega) ⟨by show 0≤max c.Columns (zgY x); omega,by show max c.Columns (zgY x)≤2; omega⟩ g3
  ·refine ⟨rfl,h1,h2,?_⟩
   have:=zi0 xs ⟨x.At,x.At+x.Width,zgY x⟩ (kdP x) x.Rune b (by show x.At<x.At+x.Width; omega) hc g3
   rw [← g1]; exact this
theorem zp2 {xs:List Gapi_Piece} {a b:Int} (h:zwp a xs b):Cov a (zhg xs) b:=by
 cases xs with
 | nil=>exact h
 | cons x xs =>
  obtain ⟨g1,g2,g3⟩:=h
  rw [← g1] at g3 ⊢
  exact zi0 xs ⟨x.At,x.At+x.Width,zgY x⟩ (kdP x) x.Rune b (by show x.At<x.At+x.Width; omega) (zoK x) g3
theorem znJ:∀ (ts:List Tok) (i:Nat),(∀ t∈ts,t.valid∨t.broken=true)→zwp (i:Int) ((place i ts).map pcG) ((i+(zhl ts).length:Nat):Int)
 | [],i,_=>rfl
 | t::ts,i,h=>by
  have hb:=List.length_pos_iff.2 (zuH (h t (List.mem_cons_self ..)))
  have ih:=znJ ts (i+t.bs.length) fun u hu=>h u (List.mem_cons_of_mem _ hu)
  refine ⟨rfl,?_,?_⟩
  ·show 0<(t.bs.length:Int); omega
  ·show zwp ((i:Int)+(t.bs.length:Int)) _ _
   rw [show (i:Int)+(t.bs.length:Int)=((i+t.bs.length:Nat):Int) by omega,zhy,List.length_append,← Nat.add_assoc]
   exact ih
theorem zeM (s:ByteArray):Cov 0 (zam s) (s.size:Int):=by
 unfold zam
 refine zp2 ?_
 have h:=znJ (zli s.data.toList) 0 (ztM _)
 rw [zrg,Nat.zero_add,zf5] at h
 rw [show pcs s.data.toList=place 0 (zli s.data.toList) from zqY _ 0]
 exact h
theorem zhQ (s:ByteArray):(zam s).length≤s.size:=by
 have hc:=zeM s
 have key:∀ (cs:List Gapi_Cell) (a b:Int),Cov a cs b→a+cs.length≤b:=by
  intro cs
  induction cs with
  | nil=>intro a b h; have:a=b:=h; simp; omega
  | cons c cs ih =>
   intro a b h
   obtain ⟨h1,h2,_,h3⟩:=h
   have:=ih _ _ h3
   rw [List.length_cons]; push_cast; omega
 have:=key _ _ _ hc
 omega
end Go.Proofs.YtbempdelckaccaaGreatDoor

namespace Go.Proofs.YtbempdelckaccaaGreatDoor
open Go.RowKit Go.Lib
set_option linter.unusedVariables false
set_option linter.unusedSimpArgs false
def zf6 (l1:Gapi_Layout):Option Bool :=
zay (decide ((8:Int)≤l1.Width)) (
zay (decide ((l1.Width:Int)≤256)) (
zay (decide ((4:Int)≤l1.Height)) (
zay (decide ((l1.Height:Int)≤200)) (
zay (decide ((0:Int)≤l1.Turn)) (
zay (decide ((l1.Turn:Int)≤7)) (
zay (decide ((0:Int)≤l1.Every)) (
some (decide ((l1.Every:Int)≤512))
) (
some false
)
) (
some false
)
) (
some false
)
) (
some false
)
) (
some false
)
) (
some false
)
) (
some false
)
theorem zkD {l1:Gapi_Layout} {r:Bool} (h:zf6 l1=some r):FnP Tryz.prog 64 [.agg (zr0 l1).toArray] (.bool r):=by
 unfold zf6 at h
 refine FnP.intro Tryz.func64 rfl Tryz.ntmps64 (by simp) ?_
 intro w0 K
 refine zyG ?_
 refine zea rfl dc rfl (fun b1 => ?_)
 refine zyR 1 rfl (zyH (zab zg5 rfl dc rfl (show _=0 from rfl) (zau (k:=0) zbp rfl dc rfl rfl rfl (zaU rfl zer (zyR 1 rfl ?_)))))
 refine zyS (s:=6) rfl h (fun h => ?_) (fun h => ?_)
 ·
  refine zab zg5 rfl dc rfl (show _=0 from rfl) (zau (k:=0) zbp rfl dc rfl rfl rfl (zaU rfl zdJ (zyR 2 rfl ?_)))
  refine zyS (s:=11) rfl h (fun h => ?_) (fun h => ?_)
  ·
   refine zab zii rfl dc rfl (show _=1 from rfl) (zau (k:=0) zbp rfl dc rfl rfl rfl (zaU rfl zer (zyR 2 rfl ?_)))
   refine zyS (s:=16) rfl h (fun h => ?_) (fun h => ?_)
   ·
    refine zab zii rfl dc rfl (show _=1 from rfl) (zau (k:=0) zbp rfl dc rfl rfl rfl (zaU rfl zdJ (zyR 2 rfl ?_)))
    refine zyS (s:=21) rfl h (fun h => ?_) (fun h => ?_)
    ·
     refine zab zg4 rfl dc rfl (show _=2 from rfl) (zau (k:=0) zbp rfl dc rfl rfl rfl (zaU rfl zer (zyR 2 rfl ?_)))
     refine zyS (s:=26) rfl h (fun h => ?_) (fun h => ?_)
     ·
      refine zab zg4 rfl dc rfl (show _=2 from rfl) (zau (k:=0) zbp rfl dc rfl rfl rfl (zaU rfl zdJ (zyR 2 rfl ?_)))
      refine zyS (s:=31) rfl h (fun h => ?_) (fun h => ?_)
      ·
       refine zab zhA rfl dc rfl (show _=3 from rfl) (zau (k:=0) zbp rfl dc rfl rfl rfl (zaU rfl zer (zyR 2 rfl ?_)))
       refine zyS (s:=36) rfl h (fun h => ?_) (fun h => ?_)
       ·
        refine zab zhA rfl dc rfl (show _=3 from rfl) (zau (k:=0) zbp rfl dc rfl rfl rfl (zaU rfl zdJ (zyR 2 rfl (zyN (zaG ?_)))))
        cases h
        exact zaK (rs:=[.tmp 2]) () (.inl rfl) Tryz.results64 (.cons (.tmp rfl) .nil) rfl Splits.nil
       refine zyR 5 rfl (zyN (zaG ?_))
       cases h
       exact zaK (rs:=[.tmp 2]) () (.inl rfl) Tryz.results64 (.cons (.tmp rfl) .nil) rfl Splits.nil
      refine zyR 10 rfl (zyN (zaG ?_))
      cases h
      exact zaK (rs:=[.tmp 2]) () (.inl rfl) Tryz.results64 (.cons (.tmp rfl) .nil) rfl Splits.nil
     refine zyR 14 rfl ?_
     refine zyR 1 rfl (zyN (zaG ?_))
     cases h
     exact zaK (rs:=[.tmp 2]) () (.inl rfl) Tryz.results64 (.cons (.tmp rfl) .nil) rfl Splits.nil
    refine zyR 14 rfl ?_
    refine zyR 6 rfl (zyN (zaG ?_))
    cases h
    exact zaK (rs:=[.tmp 2]) () (.inl rfl) Tryz.results64 (.cons (.tmp rfl) .nil) rfl Splits.nil
   refine zyR 14 rfl ?_
   refine zyR 11 rfl (zyN (zaG ?_))
   cases h
   exact zaK (rs:=[.tmp 2]) () (.inl rfl) Tryz.results64 (.cons (.tmp rfl) .nil) rfl Splits.nil
  refine zyR 14 rfl ?_
  refine zyR 14 rfl ?_
  refine zyR 2 rfl (zyN (zaG ?_))
  cases h
  exact zaK (rs:=[.tmp 2]) () (.inl rfl) Tryz.results64 (.cons (.tmp rfl) .nil) rfl Splits.nil
 refine zyR 14 rfl ?_
 refine zyR 14 rfl ?_
 refine zyR 7 rfl (zyN (zaG ?_))
 cases h
 exact zaK (rs:=[.tmp 2]) () (.inl rfl) Tryz.results64 (.cons (.tmp rfl) .nil) rfl Splits.nil
def zcb (t1:Gpage_turner) (k1:Int):Option Bool :=
zah (zbm t1.cells k1) fun (q1:Gapi_Cell) =>
grd (I64 (q1.Span_From+1)) <|
zay ((q1.Span_To:Int)==(q1.Span_From+1)) (
zah (zjg t1.s q1.Span_From) fun (c1:Int) =>
some ((c1:Int)==32)
) (
some false
)
theorem zeO {bt1:Nat} {t1:Gpage_turner} {t1_h0 t1_h1 t1_h2:Hd} {k1:Int} {r:Bool} (h:zcb t1 k1=some r):FnR Tryz.prog 121 [zP bt1,zI k1] [cells bt1 [.string t1.s,t1_h0.v,t1_h1.v,t1_h2.v,zI t1.first,zI t1.rest] 203,zv2 t1_h0.v t1.cells,zv0 t1_h1.v t1.wide,zv0 t1_h2.v t1.ends] [] (fun _:Unit=>(.bool r)) (fun _=>[]):=by
 unfold zcb at h
 refine FnR.intro Tryz.func121 rfl Tryz.ntmps121 (by simp) ?_
 intro w0 K hrd
 refine zyG (zyR 1 rfl (zyH (zyR 1 rfl (zaD rfl dc rfl (zab zg6 rfl dc rfl (show _=1 from rfl) (zbw (i:=0) hrd rfl zpI rfl dc rfl rfl (zyR 1 rfl ?_)))))))
 obtain ⟨q1,hq1,h⟩:=zbi h
 refine za9 (hrd.vw (i:=1) rfl) hq1 Tryz.underlying94 zho rfl dc rfl rfl rfl (zab zfD rfl dc rfl (show _=(0+(k1:Int).toNat)*3 from rfl) (zeN (m:=0+(k1:Int).toNat) (j:=0) (i:=1) (q:=q1) (cs:=[zI q1.Span_From,zI q1.Span_To]) hrd rfl znw zbC rfl dc rfl (Vw.get (hrd.vw (i:=1) rfl) hq1) rfl rfl rfl ?_))
 refine zbE zqf rfl dc (fun b1 => ?_)
 refine za6 (k:=0) (vs:=[zI q1.Span_From,zI q1.Span_To]) (l':=[zI q1.Span_From,zI q1.Span_To]) zkn rfl rfl rfl rfl rfl (show _≤_ by simp) rfl rfl ?_
 refine zyN (zaI ?_)
 obtain ⟨hg1,h⟩:=zbr h
 refine zcW (b:=(q1.Span_To:Int)==(q1.Span_From+1)) (fun hb1 => ?_) (fun hb1 => ?_)
 ·
  have h:=zf0 hb1 h
  obtain ⟨c1,hq2,h⟩:=zbi h
  refine zbn 13 [(0,14,.pointer (some ⟨b1,1,none⟩)),(1,15,zI q1.Span_To),(2,16,zP b1),(3,17,zI q1.Span_From),(4,18,zI (q1.Span_From+1)),(5,19,.bool true),(6,20,.bool true),(7,21,zP bt1),(8,22,zP bt1),(9,23,zP bt1),(10,24,.string t1.s),(11,25,zP b1),(12,26,zI q1.Span_From)] mixed kr kr dc (by rfl) kr kr (zac ?_ (zac ?_ (zac ?_ (zac ?_ (zac ?_ (zac ?_ (zyP 2 6 rfl (zac ?_ (zac ?_ (zac ?_ (zac ?_ (zac ?_ DrawPre.nil)))))))))))) ?_
  · exact fun D n d c u i=>zab zdZ rfl dc (zbe (by rfl) rfl) (show _=1 from rfl) (zaf 0 u i rfl)
  · exact fun D n d c u i=>zau (k:=0) zbp rfl dc (zaa (m:=0) u rfl (d 0 dc)) rfl rfl (zaf 1 u i rfl)
  · exact fun D n d c u i=>zab zdt rfl dc (zbe (by rfl) rfl) (show _=0 from rfl) (zaf 2 u i rfl)
  · exact fun D n d c u i=>zau (k:=0) zbp rfl dc (zaa (m:=2) u rfl (d 2 dc)) rfl rfl (zaf 3 u i rfl)
  · exact fun D n d c u i=>zbz rfl dc (zaa (m:=3) u rfl (d 3 dc)) rfl (zaR (r:=q1.Span_From+1) (IntWalk.i64_in _ hg1)) (zaf 4 u i rfl)
  · exact fun D n d c u i=>zbz rfl dc (zaa (m:=1) u rfl (d 1 dc)) (zaa (m:=4) u rfl (d 4 dc)) zaT (zcq (show Value.bool ((q1.Span_To:Int)==(q1.Span_From+1))=Value.bool true from congrArg Value.bool hb1) (zaf 5 u i rfl))
  · exact fun D n d c u i=>zaD (zdU rfl (zaa (m:=6) u rfl (d 6 dc))) dc (zaa (m:=7) u rfl (d 7 dc)) (zaf 8 u i rfl)
  · exact fun D n d c u i=>zab zpo (zdU rfl (zaa (m:=6) u rfl (d 6 dc))) dc (zaa (m:=8) u rfl (d 8 dc)) (show _=0 from rfl) (zaf 9 u i rfl)
  · exact fun D n d c u i=>zbw (i:=0) hrd rfl zp7 (zdU rfl (zaa (m:=6) u rfl (d 6 dc))) dc (zaa (m:=9) u rfl (d 9 dc)) rfl (zaf 10 u i rfl)
  · exact fun D n d c u i=>zab zdt (zdU rfl (zaa (m:=6) u rfl (d 6 dc))) dc (zbe (by rfl) rfl) (show _=0 from rfl) (zaf 11 u i rfl)
  · exact fun D n d c u i=>zau (k:=0) zbp (zdU rfl (zaa (m:=6) u rfl (d 6 dc))) dc (zaa (m:=11) u rfl (d 11 dc)) rfl rfl (zaf 12 u i rfl)
  refine zc7 rfl dc rfl rfl (zbx Tryz.underlying9 hq2) (zaU rfl zaT (zyR 2 rfl (zyN (zaG ?_))))
  cases h
  exact zaK (rs:=[.tmp 4]) () (.inl rfl) Tryz.results121 (.cons (.tmp rfl) .nil) rfl Splits.nil
 have h:=zf1 hb1 h
 refine zbn 13 [(0,14,.pointer (some ⟨b1,1,none⟩)),(1,15,zI q1.Span_To),(2,16,zP b1),(3,17,zI q1.Span_From),(4,18,zI (q1.Span_From+1)),(5,19,.bool false),(6,20,.bool false),(7,21,undef),(8,22,undef),(9,23,undef),(10,24,undef),(11,25,undef),(12,26,undef)] mixed kr kr dc (by rfl) kr kr (zac ?_ (zac ?_ (zac ?_ (zac ?_ (zac ?_ (zac ?_ (zyP 7 6 rfl DrawPre.nil))))))) ?_
 · exact fun D n d c u i=>zab zdZ rfl dc (zbe (by rfl) rfl) (show _=1 from rfl) (zaf 0 u i rfl)
 · exact fun D n d c u i=>zau (k:=0) zbp rfl dc (zaa (m:=0) u rfl (d 0 dc)) rfl rfl (zaf 1 u i rfl)
 · exact fun D n d c u i=>zab zdt rfl dc (zbe (by rfl) rfl) (show _=0 from rfl) (zaf 2 u i rfl)
 · exact fun D n d c u i=>zau (k:=0) zbp rfl dc (zaa (m:=2) u rfl (d 2 dc)) rfl rfl (zaf 3 u i rfl)
 · exact fun D n d c u i=>zbz rfl dc (zaa (m:=3) u rfl (d 3 dc)) rfl (zaR (r:=q1.Span_From+1) (IntWalk.i64_in _ hg1)) (zaf 4 u i rfl)
 · exact fun D n d c u i=>zbz rfl dc (zaa (m:=1) u rfl (d 1 dc)) (zaa (m:=4) u rfl (d 4 dc)) zaT (zcq (show Value.bool ((q1.Span_To:Int)==(q1.Span_From+1))=Value.bool false from congrArg Value.bool hb1) (zaf 5 u i rfl))
 refine zyR 4 rfl (zyN (zaG ?_))
 cases h
 exact zaK (rs:=[.tmp 4]) () (.inl rfl) Tryz.results121 (.cons (.tmp rfl) .nil) rfl Splits.nil
def zb9 (t1:Gpage_turner) (from1:Int) (to1:Int):Option Int :=
zah (zbm t1.ends to1) fun (q1:Int) =>
zah (zbm t1.wide (max from1 q1)) fun (q2:Int) =>
zah (zbm t1.wide from1) fun (q3:Int) =>
grd (I64 (q2 - q3)) <|
some (q2 - q3)
theorem zeq {bt1:Nat} {t1:Gpage_turner} {t1_h0 t1_h1 t1_h2:Hd} {from1:Int} {to1:Int} {r:Int} (h:zb9 t1 from1 to1=some r):FnR Tryz.prog 123 [zP bt1,zI from1,zI to1] [cells bt1 [.string t1.s,t1_h0.v,t1_h1.v,t1_h2.v,zI t1.first,zI t1.rest] 203,zv2 t1_h0.v t1.cells,zv0 t1_h1.v t1.wide,zv0 t1_h2.v t1.ends] [] (fun _:Unit=>(zI r)) (fun _=>[]):=by
 unfold zb9 at h
 refine FnR.intro Tryz.func123 rfl Tryz.ntmps123 (by simp) ?_
 intro w0 K hrd
 refine zyG (zyR 1 rfl (zyH (zyR 2 rfl (zaD rfl dc rfl (zab ziL rfl dc rfl (show _=3 from rfl) (zbw (i:=0) hrd rfl zhh rfl dc rfl rfl (zyR 1 rfl ?_)))))))
 obtain ⟨q1,hq1,h⟩:=zbi h
 refine za9 (hrd.vw (i:=3) rfl) hq1 Tryz.underlying49 zcs rfl dc rfl rfl rfl (zcI (n:=0+(to1:Int).toNat) (j:=0) (i:=3) (q:=q1) hrd rfl zbp zaQ rfl dc rfl (Vw.get (hrd.vw (i:=3) rfl) hq1) rfl dc rfl (zk8 rfl dc rfl rfl (zyR 1 rfl (zyN (zaI ?_)))))
 obtain ⟨q2,hq2,h⟩:=zbi h
 obtain ⟨q3,hq3,h⟩:=zbi h
 obtain ⟨hg1,h⟩:=zbr h
 refine zbn 14 [(0,16,zP bt1),(1,17,zP bt1),(2,18,.pointer (some ⟨bt1,2,none⟩)),(3,19,t1_h1.v),(4,20,zI (max from1 q1)),(5,21,.pointer (some ⟨zbY t1_h1.v,(0+(max from1 q1:Int).toNat)*1,none⟩)),(6,22,zI q2),(7,23,zP bt1),(8,24,zP bt1),(9,25,.pointer (some ⟨bt1,2,none⟩)),(10,26,t1_h1.v),(11,27,zI from1),(12,28,.pointer (some ⟨zbY t1_h1.v,(0+(from1:Int).toNat)*1,none⟩)),(13,29,zI q3)] mixed kr kr dc (by rfl) kr kr (zyP 1 0 rfl (zac ?_ (zac ?_ (zac ?_ (zyP 1 4 rfl (zac ?_ (zac ?_ (zyP 1 7 rfl (zac ?_ (zac ?_ (zac ?_ (zyP 1 11 rfl (zac ?_ (zac ?_ DrawPre.nil)))))))))))))) ?_
 · exact fun D n d c u i=>zaD rfl dc (zaa (m:=0) u rfl (d 0 dc)) (zaf 1 u i rfl)
 · exact fun D n d c u i=>zab ziM rfl dc (zaa (m:=1) u rfl (d 1 dc)) (show _=2 from rfl) (zaf 2 u i rfl)
 · exact fun D n d c u i=>zbw (i:=0) hrd rfl zhh rfl dc (zaa (m:=2) u rfl (d 2 dc)) rfl (zaf 3 u i rfl)
 · exact fun D n d c u i=>za9 (hrd.vw (i:=2) rfl) hq2 Tryz.underlying49 zcs rfl dc (zaa (m:=3) u rfl (d 3 dc)) (zaa (m:=4) u rfl (d 4 dc)) rfl (zaf 5 u i rfl)
 · exact fun D n d c u i=>zcI (n:=0+(max from1 q1:Int).toNat) (j:=0) (i:=2) (q:=q2) hrd rfl zbp zaQ rfl dc (zaa (m:=5) u rfl (d 5 dc)) (Vw.get (hrd.vw (i:=2) rfl) hq2) rfl dc rfl (zaf 6 u i rfl)
 · exact fun D n d c u i=>zaD rfl dc (zaa (m:=7) u rfl (d 7 dc)) (zaf 8 u i rfl)
 · exact fun D n d c u i=>zab ziM rfl dc (zaa (m:=8) u rfl (d 8 dc)) (show _=2 from rfl) (zaf 9 u i rfl)
 · exact fun D n d c u i=>zbw (i:=0) hrd rfl zhh rfl dc (zaa (m:=9) u rfl (d 9 dc)) rfl (zaf 10 u i rfl)
 · exact fun D n d c u i=>za9 (hrd.vw (i:=2) rfl) hq3 Tryz.underlying49 zcs rfl dc (zaa (m:=10) u rfl (d 10 dc)) (zaa (m:=11) u rfl (d 11 dc)) rfl (zaf 12 u i rfl)
 · exact fun D n d c u i=>zcI (n:=0+(from1:Int).toNat) (j:=0) (i:=2) (q:=q3) hrd rfl zbp zaQ rfl dc (zaa (m:=12) u rfl (d 12 dc)) (Vw.get (hrd.vw (i:=2) rfl) hq3) rfl dc rfl (zaf 13 u i rfl)
 refine zaU rfl (zbt (r:=q2 - q3) (IntWalk.i64_in _ hg1)) (zyR 1 rfl (zyN (zaG ?_)))
 cases h
 exact zaK (rs:=[.tmp 6]) () (.inl rfl) Tryz.results123 (.cons (.tmp rfl) .nil) rfl Splits.nil
def zcu (t1:Gpage_turner) (from1:Int):Option Int :=
zay ((from1:Int)==0) (
some t1.first
) (
some t1.rest
)
theorem ze3 {bt1:Nat} {t1:Gpage_turner} {t1_h0 t1_h1 t1_h2:Hd} {from1:Int} {r:Int} (h:zcu t1 from1=some r):FnR Tryz.prog 124 [zP bt1,zI from1] [cells bt1 [.string t1.s,t1_h0.v,t1_h1.v,t1_h2.v,zI t1.first,zI t1.rest] 203,zv2 t1_h0.v t1.cells,zv0 t1_h1.v t1.wide,zv0 t1_h2.v t1.ends] [] (fun _:Unit=>(zI r)) (fun _=>[]):=by
 unfold zcu at h
 refine FnR.intro Tryz.func124 rfl Tryz.ntmps124 (by simp) ?_
 intro w0 K hrd
 refine zyG (zyR 1 rfl (zyN (zaI (zyG (zyR 1 rfl (zaU rfl zaT (zyN ?_)))))))
 refine zyB rfl h (fun h => ?_) (fun h => ?_)
 ·
  refine zyG (zyR 1 rfl (zaD rfl dc rfl (zab zsI rfl dc rfl (show _=4 from rfl) (zbw (i:=0) hrd rfl zbp rfl dc rfl rfl (zyR 1 rfl (zyN (zaG (zao ?_))))))))
  cases h
  exact zaK (rs:=[.tmp 4]) () (.inl rfl) Tryz.results124 (.cons (.tmp rfl) .nil) rfl Splits.nil
 refine zar (zaH (zyG (zyR 1 rfl (zaD rfl dc rfl (zab zsH rfl dc rfl (show _=5 from rfl) (zbw (i:=0) hrd rfl zbp rfl dc rfl rfl (zyR 1 rfl (zyN (zaG ?_)))))))))
 cases h
 exact zaK (rs:=[.tmp 4]) () (.inl rfl) Tryz.results124 (.cons (.tmp rfl) .nil) rfl Splits.nil
def zd5 (t1:Gpage_turner) (from1:Int) (to1:Int):Option Bool :=
zbk (fun (j1:Option Bool) =>
zay (decide ((0:Int)<from1)) (
zah (zcb t1 from1) fun (r1:Bool) =>
zay (r1) (
some false
) (
j1
)
) (
j1
)
) (
zah (zb9 t1 from1 to1) fun (r2:Int) =>
zah (zcu t1 from1) fun (r3:Int) =>
zay (decide ((r2:Int)≤r3)) (
some true
) (
zah (zbm t1.ends to1) fun (q1:Int) =>
grd (I64 (from1+1)) <|
some (decide ((q1:Int)≤(from1+1)))
)
)
theorem ziE {bt1:Nat} {t1:Gpage_turner} {t1_h0 t1_h1 t1_h2:Hd} {from1:Int} {to1:Int} {r:Bool} (h:zd5 t1 from1 to1=some r):FnR Tryz.prog 122 [zP bt1,zI from1,zI to1] [cells bt1 [.string t1.s,t1_h0.v,t1_h1.v,t1_h2.v,zI t1.first,zI t1.rest] 203,zv2 t1_h0.v t1.cells,zv0 t1_h1.v t1.wide,zv0 t1_h2.v t1.ends] [] (fun _:Unit=>(.bool r)) (fun _=>[]):=by
 unfold zd5 at h
 refine FnR.intro Tryz.func122 rfl Tryz.ntmps122 (by simp) ?_
 intro w0 K hrd
 obtain ⟨j1,hj1,h⟩:=zbG h
 refine zaX (β:=Unit) 1 rfl (fun b=>j1=some r) (fun b=>[]) (fun b=>[(0,zP bt1),(1,zI from1),(2,zI to1)]) (fun b=>[]) (fun cut => ?_) ?_
 ·
  refine zyG (zyR 1 rfl (zyN (cut (zyG (zyR 1 rfl (zaU rfl zct (zyR 1 rfl ?_)))))))
  refine zyS (s:=9) rfl h (fun h => ?_) (fun h => ?_)
  ·
   refine zyR 2 rfl ?_
   obtain ⟨r1,hq1,h⟩:=zbi h
   refine zch (v:=.bool r1) (vs:=[zP bt1,zI from1]) hrd rfl dc rfl rfl rfl zru (zeO (bt1:=bt1) (t1:=t1) (t1_h0:=t1_h0) (t1_h1:=t1_h1) (t1_h2:=t1_h2) hq1) (.ro 0 rfl (.ro 1 rfl (.ro 2 rfl (.ro 3 rfl .nil)))) (zyR 1 rfl (zyN ?_))
   refine zyB rfl h (fun h => ?_) (fun h => ?_)
   ·
    refine zyG (zyR 1 rfl (zyN (zaG (zao ?_))))
    cases h
    exact zaK (rs:=[.tmp 6]) () (.inl rfl) Tryz.results122 (.cons (.tmp rfl) .nil) rfl Splits.nil
   refine zar ?_
   exact zal () h rfl (za0 rfl) Splits.nil
  refine zyR 4 rfl (zyN (zaS rfl (zar ?_)))
  exact zal () h rfl (za0 rfl) Splits.nil
 rintro _ h
 rw [hj1] at h
 refine zyG (zyR 3 rfl ?_)
 obtain ⟨r2,hq2,h⟩:=zbi h
 refine zch (v:=zI r2) (vs:=[zP bt1,zI from1,zI to1]) hrd rfl dc rfl rfl rfl zrt (zeq (bt1:=bt1) (t1:=t1) (t1_h0:=t1_h0) (t1_h1:=t1_h1) (t1_h2:=t1_h2) hq2) (.ro 0 rfl (.ro 1 rfl (.ro 2 rfl (.ro 3 rfl .nil)))) (zyR 2 rfl ?_)
 obtain ⟨r3,hq3,h⟩:=zbi h
 refine zch (v:=zI r3) (vs:=[zP bt1,zI from1]) hrd rfl dc rfl rfl rfl zrs (ze3 (bt1:=bt1) (t1:=t1) (t1_h0:=t1_h0) (t1_h1:=t1_h1) (t1_h2:=t1_h2) hq3) (.ro 0 rfl (.ro 1 rfl (.ro 2 rfl (.ro 3 rfl .nil)))) (zaU rfl zdJ (zyR 1 rfl ?_))
 refine zyS (s:=22) rfl h (fun h => ?_) (fun h => ?_)
 ·
  refine zyR 12 rfl (zyN ?_)
  refine zaG ?_
  cases h
  exact zaK (rs:=[.tmp 6]) () (.inl rfl) Tryz.results122 (.cons (.tmp rfl) .nil) rfl Splits.nil
 refine zyR 1 rfl (zaD rfl dc rfl (zab ziL rfl dc rfl (show _=3 from rfl) (zbw (i:=0) hrd rfl zhh rfl dc rfl rfl (zyR 1 rfl ?_))))
 obtain ⟨q1,hq4,h⟩:=zbi h
 refine za9 (hrd.vw (i:=3) rfl) hq4 Tryz.underlying49 zcs rfl dc rfl rfl rfl (zcI (n:=0+(to1:Int).toNat) (j:=0) (i:=3) (q:=q1) hrd rfl zbp zaQ rfl dc rfl (Vw.get (hrd.vw (i:=3) rfl) hq4) rfl dc rfl (zyR 1 rfl ?_))
 obtain ⟨hg1,h⟩:=zbr h
 refine zaU rfl (zaR (r:=from1+1) (IntWalk.i64_in _ hg1)) (zaU rfl zdJ (zyR 2 rfl (zyN (zaG ?_))))
 cases h
 exact zaK (rs:=[.tmp 6]) () (.inl rfl) Tryz.results122 (.cons (.tmp rfl) .nil) rfl Splits.nil
def zdP (t1:Gpage_turner) (from1:Int) (to1:Int):Option Int :=
zbk (fun (j1:Int→Option Int) =>
zah (zcu t1 from1) fun (r1:Int) =>
zah (zb9 t1 from1 to1) fun (r2:Int) =>
grd (I64 (r1 - r2)) <|
zay (decide ((0:Int)<(r1 - r2))) (
grd (I64 ((r1 - r2)*(r1 - r2))) <|
j1 ((r1 - r2)*(r1 - r2))
) (
j1 0
)
) (fun (n1:Int) =>
zbk (fun (j2:Int→Option Int) =>
grd (I64 (to1 - 1)) <|
zah (zcb t1 (to1 - 1)) fun (r3:Bool) =>
zay (!r3) (
grd (I64 (n1+1000)) <|
j2 (n1+1000)
) (
j2 n1
)
) (fun (n2:Int) =>
some n2
)
)
theorem zif {bt1:Nat} {t1:Gpage_turner} {t1_h0 t1_h1 t1_h2:Hd} {from1:Int} {to1:Int} {r:Int} (h:zdP t1 from1 to1=some r):FnR Tryz.prog 125 [zP bt1,zI from1,zI to1] [cells bt1 [.string t1.s,t1_h0.v,t1_h1.v,t1_h2.v,zI t1.first,zI t1.rest] 203,zv2 t1_h0.v t1.cells,zv0 t1_h1.v t1.wide,zv0 t1_h2.v t1.ends] [] (fun _:Unit=>(zI r)) (fun _=>[]):=by
 unfold zdP at h
 refine FnR.intro Tryz.func125 rfl Tryz.ntmps125 (by simp) ?_
 intro w0 K hrd
 obtain ⟨j1,hj1,h⟩:=zbG h
 refine zaX (β:=Int) 2 rfl (fun b=>j1 b=some r) (fun b=>[]) (fun b=>[(0,zP bt1),(2,zI to1),(7,zI b)]) (fun b=>[]) (fun cut => ?_) ?_
 ·
  refine zyG (zyR 1 rfl (zyH (zyR 1 rfl (zyN (cut (zyG (zyR 1 rfl ?_)))))))
  refine zyR 1 rfl ?_
  obtain ⟨r1,hq1,h⟩:=zbi h
  refine zch (v:=zI r1) (vs:=[zP bt1,zI from1]) hrd rfl dc rfl rfl rfl zrs (ze3 (bt1:=bt1) (t1:=t1) (t1_h0:=t1_h0) (t1_h1:=t1_h1) (t1_h2:=t1_h2) hq1) (.ro 0 rfl (.ro 1 rfl (.ro 2 rfl (.ro 3 rfl .nil)))) (zyR 3 rfl ?_)
  obtain ⟨r2,hq2,h⟩:=zbi h
  refine zch (v:=zI r2) (vs:=[zP bt1,zI from1,zI to1]) hrd rfl dc rfl rfl rfl zrt (zeq (bt1:=bt1) (t1:=t1) (t1_h0:=t1_h0) (t1_h1:=t1_h1) (t1_h2:=t1_h2) hq2) (.ro 0 rfl (.ro 1 rfl (.ro 2 rfl (.ro 3 rfl .nil)))) ?_
  obtain ⟨hg1,h⟩:=zbr h
  refine zaU rfl (zbt (r:=r1 - r2) (IntWalk.i64_in _ hg1)) (zyR 1 rfl (zyH (zyR 1 rfl (zaU rfl zct (zyN ?_)))))
  refine zyB rfl h (fun h => ?_) (fun h => ?_)
  ·
   refine zav (zyR 2 rfl ?_)
   obtain ⟨hg2,h⟩:=zbr h
   refine zaU rfl (znc (r:=(r1 - r2)*(r1 - r2)) (IntWalk.i64_in _ hg2)) (zyR 1 rfl (zaO ?_))
   exact zal ((r1 - r2)*(r1 - r2)) h rfl (za0 rfl) Splits.nil
  refine zar ?_
  exact zal 0 h rfl (za0 rfl) Splits.nil
 rintro n1 h
 rw [hj1] at h
 obtain ⟨j2,hj2,h⟩:=zbG h
 refine zaX (β:=Int) 0 rfl (fun b=>j2 b=some r) (fun b=>[]) (fun b=>[(7,zI b)]) (fun b=>[]) (fun cut => ?_) ?_
 ·
  refine cut (zyG (zyR 2 rfl ?_))
  obtain ⟨hg3,h⟩:=zbr h
  refine zaU rfl (zbt (r:=to1 - 1) (IntWalk.i64_in _ hg3)) ?_
  obtain ⟨r3,hq3,h⟩:=zbi h
  refine zch (v:=.bool r3) (vs:=[zP bt1,zI (to1 - 1)]) hrd rfl dc rfl rfl rfl zru (zeO (bt1:=bt1) (t1:=t1) (t1_h0:=t1_h0) (t1_h1:=t1_h1) (t1_h2:=t1_h2) hq3) (.ro 0 rfl (.ro 1 rfl (.ro 2 rfl (.ro 3 rfl .nil)))) (zee rfl dc rfl zcN (zyN ?_))
  refine zyB rfl h (fun h => ?_) (fun h => ?_)
  ·
   refine zav (zyR 1 rfl ?_)
   obtain ⟨hg4,h⟩:=zbr h
   refine zaU rfl (zaR (r:=n1+1000) (IntWalk.i64_in _ hg4)) (zyR 1 rfl (zaO ?_))
   exact zal (n1+1000) h rfl (za0 rfl) Splits.nil
  refine zar ?_
  exact zal n1 h rfl (za0 rfl) Splits.nil
 rintro n2 h
 rw [hj2] at h
 refine zyG (zyR 2 rfl (zyN (zaG ?_)))
 cases h
 exact zaK (rs:=[.tmp 6]) () (.inl rfl) Tryz.results125 (.cons (.tmp rfl) .nil) rfl Splits.nil
def zbW (t1:Gpage_turner) (from3:Int) (j2:(List Gpage_best)→Option ((List Int)×Int)) (ag2:(List Gpage_best)→Int→Option ((List Int)×Int)) (all8:List Gpage_best) (to3:Int):Option ((List Int)×Int) :=
zay (decide ((to3:Int)≤(t1.cells.length:Int))) (
zbk (fun (j3:(List Gpage_best)→Option ((List Int)×Int)) =>
zah (zd5 t1 from3 to3) fun (r1:Bool) =>
zay (!r1) (
zah (zb9 t1 from3 to3) fun (r2:Int) =>
zah (zcu t1 from3) fun (r3:Int) =>
zay (decide ((r3:Int)<r2)) (
j2 all8
) (
j3 all8
)
) (
zbk (fun (j4:Int→Int→Option ((List Int)×Int)) =>
zay (decide ((to3:Int)<(t1.cells.length:Int))) (
zah (zbm all8 to3) fun (q2:Gpage_best) =>
zay (decide ((q2.rows:Int)<0)) (
j3 all8
) (
zah (zdP t1 from3 to3) fun (r4:Int) =>
zah (zbm all8 to3) fun (q3:Gpage_best) =>
grd (I64 (r4+q3.cost)) <|
grd (I64 (q3.rows+1)) <|
j4 (r4+q3.cost) (q3.rows+1)
)
) (
j4 0 1
)
) (fun (b2:Int) (b3:Int) =>
zah (zbm all8 from3) fun (q4:Gpage_best) =>
zay (decide ((q4.rows:Int)<0)) (
zah (zbm all8 from3) fun (q5:Gpage_best) =>
j3 (all8.set (from3:Int).toNat (⟨b2,b3,to3⟩:Gpage_best))
) (
zay (decide ((b2:Int)<q4.cost)) (
zah (zbm all8 from3) fun (q6:Gpage_best) =>
j3 (all8.set (from3:Int).toNat (⟨b2,b3,to3⟩:Gpage_best))
) (
zay ((b2:Int)==q4.cost) (
zay (decide ((b3:Int)≤q4.rows)) (
zah (zbm all8 from3) fun (q7:Gpage_best) =>
j3 (all8.set (from3:Int).toNat (⟨b2,b3,to3⟩:Gpage_best))
) (
j3 all8
)
) (
j3 all8
)
)
)
)
)
) (fun (all9:List Gpage_best) =>
grd (I64 (to3+1)) <|
ag2 all9 (to3+1)
)
) (
j2 all8
)
def zbX (t1:Gpage_turner) (j1:(List Gpage_best)→Option ((List Int)×Int)) (ag1:(List Gpage_best)→Int→Option ((List Int)×Int)) (all4:List Gpage_best) (from3:Int):Option ((List Int)×Int) :=
zay (decide ((0:Int)≤from3)) (
zbk (fun (j2:(List Gpage_best)→Option ((List Int)×Int)) =>
zah (zbm all4 from3) fun (q1:Gpage_best) =>
grd (I64 (from3+1)) <|
zaE (fun _ _=>none) (zbW t1 from3 j2) zbN (all4.set (from3:Int).toNat (⟨q1.cost,(-1),q1.to_⟩:Gpage_best)) (from3+1)
) (fun (all5:List Gpage_best) =>
grd (I64 (from3 - 1)) <|
ag1 all5 (from3 - 1)
)
) (
j1 all4
)
def zbR (t1:Gpage_turner) (all1:List Gpage_best) (j5:(List Int)→Option ((List Int)×Int)) (ag3:(List Int)→Int→Option ((List Int)×Int)) (out4:List Int) (from6:Int):Option ((List Int)×Int) :=
zay (decide ((from6:Int)<(t1.cells.length:Int))) (
zah (zbm all1 from6) fun (q8:Gpage_best) =>
grd (out4.length+1≤2147483648) <|
zah (zbm all1 from6) fun (q9:Gpage_best) =>
ag3 (out4++[q8.to_]) q9.to_
) (
j5 out4
)
def zdO (t1:Gpage_turner):Option ((List Int)×Int) :=
zbk (fun (j1:(List Gpage_best)→Option ((List Int)×Int)) =>
grd (I64 ((t1.cells.length:Int)+1)) <|
grd (0≤((t1.cells.length:Int)+1)∧((t1.cells.length:Int)+1)≤2147483648) <|
grd (I64 ((t1.cells.length:Int) - 1)) <|
zaE (fun _ _=>none) (zbX t1 j1) zbN (List.replicate ((t1.cells.length:Int)+1:Int).toNat (⟨0,0,0⟩:Gpage_best):List Gpage_best) ((t1.cells.length:Int) - 1)
) (fun (all1:List Gpage_best) =>
zbk (fun (j5:(List Int)→Option ((List Int)×Int)) =>
zaE (fun _ _=>none) (zbR t1 all1 j5) zbN ([]:List Int) 0
) (fun (out1:List Int) =>
zah (zbm all1 0) fun (q10:Gpage_best) =>
some (out1,q10.cost)
)
)
theorem zie {bt1:Nat} {t1:Gpage_turner} {t1_h0 t1_h1 t1_h2:Hd} {r:((List Int)×Int)} (h:zdO t1=some r):FnR Tryz.prog 96 [zP bt1] [cells bt1 [.string t1.s,t1_h0.v,t1_h1.v,t1_h2.v,zI t1.first,zI t1.rest] 203,zv2 t1_h0.v t1.cells,zv0 t1_h1.v t1.wide,zv0 t1_h2.v t1.ends] [] (fun v0:Value=>.tuple #[v0,zI r.2]) (fun v0=>[zv0 v0 r.1]):=by
 unfold zdO at h
 refine FnR.intro Tryz.func96 rfl Tryz.ntmps96 (by simp) ?_
 intro w0 K hrd
 obtain ⟨j1,hj1,h⟩:=zbG h
 refine zaX (β:=(List Gpage_best)×Value) 3 rfl (fun b=>j1 b.1=some r) (fun b=>[]) (fun b=>[(4,zI (t1.cells.length:Int)),(5,b.2)]) (fun b=>[zv8 b.2 b.1]) (fun cut => ?_) ?_
 ·
  refine zyG (zyR 2 rfl (zyH (zyR 1 rfl (zaD rfl dc rfl (zab zg6 rfl dc rfl (show _=1 from rfl) (zbw (i:=0) hrd rfl zpI rfl dc rfl rfl (zdT (hrd.vw (i:=1) rfl) rfl dc rfl Tryz.underlying94 (zyR 1 rfl ?_))))))))
  refine zyH (zyR 1 rfl ?_)
  obtain ⟨hg1,h⟩:=zbr h
  refine zaU rfl (zaR (r:=(t1.cells.length:Int)+1) (IntWalk.i64_in _ hg1)) ?_
  obtain ⟨hg2,h⟩:=zbr h
  refine zfc (z:=(⟨0,0,0⟩:Gpage_best)) Tryz.underlying174 ztq zlF za2 rfl dc rfl hg2 (fun v2 => ?_)
  refine zyR 1 rfl (zyN (cut (zyG (zyR 1 rfl ?_))))
  obtain ⟨hg3,h⟩:=zbr h
  refine zaU rfl (zbt (r:=(t1.cells.length:Int) - 1) (IntWalk.i64_in _ hg3)) (zyR 1 rfl (zyN (zaF ?_)))
  refine zbj (β:=Nat×(List Gpage_best)×Int) (fun b=>zaE (fun _ _=>none) (zbX t1 j1) b.1 b.2.1 b.2.2=some r) (fun b=>[]) (fun b=>[(0,zP bt1),(4,zI (t1.cells.length:Int)),(5,v2),(6,zI b.2.2)]) (fun b=>[zv8 v2 b.2.1]) (fun b=>b.1) (zbN,(List.replicate ((t1.cells.length:Int)+1:Int).toNat (⟨0,0,0⟩:Gpage_best):List Gpage_best),(t1.cells.length:Int) - 1) h rfl (za0 rfl) (zad [0] kr rfl) ?_
  rintro ⟨n1,all4,from3⟩ h
  cases n1 with
  | zero=>exact zdp h
  | succ n1 =>
   obtain ⟨ag1,hag1⟩:∃ ag,ag=zaE (fun _ _=>none) (zbX t1 j1) n1:=⟨_,rfl⟩
   have h:zbX t1 j1 ag1 all4 from3=some r:=by rw [hag1]; exact h
   unfold zbX at h
   refine zaI (zyG (zyR 1 rfl (zaU rfl zer (zyN ?_))))
   refine zyB rfl h (fun h => ?_) (fun h => ?_)
   ·
    refine zar (zaH ?_)
    obtain ⟨j2,hj2,h⟩:=zbG h
    refine zaX (β:=(List Gpage_best)) 0 rfl (fun b=>j2 b=some r) (fun b=>[]) (fun b=>[(0,zP bt1),(4,zI (t1.cells.length:Int)),(5,v2),(6,zI from3)]) (fun b=>[zv8 v2 b]) (fun cut => ?_) ?_
    ·
     refine cut (zaF ?_)
     refine zkg (β:=Unit) (l:=0) (fun _=>False) (fun _=>[]) (fun _=>[]) rfl ?_ ?_
     ·
      refine zyG (zyR 2 rfl ?_)
      obtain ⟨q1,hq1,h⟩:=zbi h
      refine zaj (k:=0) hq1 Tryz.underlying174 zdn rfl dc rfl rfl rfl rfl (zab zfo rfl dc rfl (show _=((from3:Int).toNat)*3+1 from rfl) ?_)
      refine zbv (i:=(from3:Int).toNat) (j:=1) (k:=0) (q:=q1) (q':=(⟨q1.cost,(-1),q1.to_⟩:Gpage_best)) zcs za2 rfl rfl rfl rfl (zaz hq1) rfl dc rfl (fun _ _=>rfl) ?_
      refine zyN (zaI (zkh (zaH (zyG (zyR 1 rfl ?_)))))
      obtain ⟨hg4,h⟩:=zbr h
      refine zaU rfl (zaR (r:=from3+1) (IntWalk.i64_in _ hg4)) (zyR 1 rfl (zyN (zaF ?_)))
      refine zbj (β:=Nat×(List Gpage_best)×Int) (fun b=>zaE (fun _ _=>none) (zbW t1 from3 j2) b.1 b.2.1 b.2.2=some r) (fun b=>[]) (fun b=>[(0,zP bt1),(4,zI (t1.cells.length:Int)),(5,v2),(6,zI from3),(7,zI b.2.2)]) (fun b=>[zv8 v2 b.2.1]) (fun b=>b.1) (zbN,all4.set (from3:Int).toNat (⟨q1.cost,(-1),q1.to_⟩:Gpage_best),from3+1) h rfl (za0 rfl) (zad [0] kr rfl) ?_
      rintro ⟨n2,all8,to3⟩ h
      cases n2 with
      | zero=>exact zdp h
      | succ n2 =>
       obtain ⟨ag2,hag2⟩:∃ ag,ag=zaE (fun _ _=>none) (zbW t1 from3 j2) n2:=⟨_,rfl⟩
       have h:zbW t1 from3 j2 ag2 all8 to3=some r:=by rw [hag2]; exact h
       unfold zbW at h
       refine zaI (zyG (zyR 2 rfl (zaU rfl zdJ (zyN ?_))))
       refine zyB rfl h (fun h => ?_) (fun h => ?_)
       ·
        refine zar (zaH ?_)
        obtain ⟨j3,hj3,h⟩:=zbG h
        refine zaX (β:=(List Gpage_best)) 0 rfl (fun b=>j3 b=some r) (fun b=>[]) (fun b=>[(0,zP bt1),(4,zI (t1.cells.length:Int)),(5,v2),(6,zI from3),(7,zI to3)]) (fun b=>[zv8 v2 b]) (fun cut => ?_) ?_
        ·
         refine cut (zaF (zaI (zyG (zyR 3 rfl ?_))))
         obtain ⟨r1,hq2,h⟩:=zbi h
         refine zch (v:=.bool r1) (vs:=[zP bt1,zI from3,zI to3]) hrd rfl dc rfl rfl rfl zvY (ziE (bt1:=bt1) (t1:=t1) (t1_h0:=t1_h0) (t1_h1:=t1_h1) (t1_h2:=t1_h2) hq2) (.ro 0 rfl (.ro 1 rfl (.ro 2 rfl (.ro 3 rfl .nil)))) (zee rfl dc rfl zcN (zyN ?_))
         refine zyB rfl h (fun h => ?_) (fun h => ?_)
         ·
          refine zaI (zyG (zyR 3 rfl ?_))
          obtain ⟨r2,hq3,h⟩:=zbi h
          refine zch (v:=zI r2) (vs:=[zP bt1,zI from3,zI to3]) hrd rfl dc rfl rfl rfl zrt (zeq (bt1:=bt1) (t1:=t1) (t1_h0:=t1_h0) (t1_h1:=t1_h1) (t1_h2:=t1_h2) hq3) (.ro 0 rfl (.ro 1 rfl (.ro 2 rfl (.ro 3 rfl .nil)))) (zyR 2 rfl ?_)
          obtain ⟨r3,hq4,h⟩:=zbi h
          refine zch (v:=zI r3) (vs:=[zP bt1,zI from3]) hrd rfl dc rfl rfl rfl zrs (ze3 (bt1:=bt1) (t1:=t1) (t1_h0:=t1_h0) (t1_h1:=t1_h1) (t1_h2:=t1_h2) hq4) (.ro 0 rfl (.ro 1 rfl (.ro 2 rfl (.ro 3 rfl .nil)))) (zaU rfl zct (zyN ?_))
          refine zyB rfl h (fun h => ?_) (fun h => ?_)
          ·
           refine za3 (zan (zan (zcH dc (zan (zan (zax (zd9 (by simp) (zag ?_))))))))
           exact zal all8 h rfl (za0 rfl) (zad [0] kr rfl)
          refine zar (zaH (za3 (zan (zax ?_))))
          exact zal all8 h rfl (za0 rfl) (zad [0] kr rfl)
         refine zar (zaH ?_)
         obtain ⟨j4,hj4,h⟩:=zbG h
         refine zaX (β:=Int×Int×Nat) 1 rfl (fun b=>j4 b.1 b.2.1=some r) (fun b=>[]) (fun b=>[(0,zP bt1),(4,zI (t1.cells.length:Int)),(5,v2),(6,zI from3),(7,zI to3),(8,zP b.2.2)]) (fun b=>[zv8 v2 all8,cells b.2.2 [zI b.1,zI b.2.1,zI to3] 176]) (fun cut => ?_) ?_
         ·
          refine zyG (zyR 1 rfl ?_)
          refine zba (v:=.agg #[zI 0,zI 1,zI to3]) (ps:=[(1,.const (zI 1)),(2,.tmp 50)]) rfl dc rfl (fun _=>by kernel_rfl) ?_
          refine zbE zlF rfl dc (fun b4 => ?_)
          refine za6 (k:=1) (vs:=[zI 0,zI 1,zI to3]) (l':=[zI 0,zI 1,zI to3]) zdn rfl rfl rfl rfl rfl (show _≤_ by simp) rfl rfl ?_
          refine zyN (cut (zyG (zyR 2 rfl (zaU rfl zbc (zyN ?_)))))
          refine zyB rfl h (fun h => ?_) (fun h => ?_)
          ·
           refine zaI (zyG (zyR 2 rfl ?_))
           obtain ⟨q2,hq5,h⟩:=zbi h
           refine zaj (k:=0) hq5 Tryz.underlying174 zdn rfl dc rfl rfl rfl rfl (zab zfo rfl dc rfl (show _=((to3:Int).toNat)*3+1 from rfl) (zaA (i:=(to3:Int).toNat) (j:=1) (k:=0) (q:=q2) zbp za2 rfl dc rfl rfl (zaz hq5) rfl dc rfl (zaU rfl zbc (zyN ?_))))
           refine zyB rfl h (fun h => ?_) (fun h => ?_)
           ·
            refine za3 (zan (zan (zax ?_)))
            exact zal all8 h rfl (za0 rfl) (zad [0] kr rfl)
           refine zar (zaH ?_)
           obtain ⟨r4,hq6,h⟩:=zbi h
           obtain ⟨q3,hq7,h⟩:=zbi h
           obtain ⟨hg5,h⟩:=zbr h
           obtain ⟨hg6,h⟩:=zbr h
           refine zbn 17 [(0,61,zP bt1),(1,62,zI from3),(2,63,zI to3),(3,64,zI r4),(4,65,v2),(5,66,zI to3),(6,67,.pointer (some ⟨zbY v2,(to3:Int).toNat*3,none⟩)),(7,68,.pointer (some ⟨zbY v2,((to3:Int).toNat)*3,none⟩)),(8,69,zI q3.cost),(9,70,zI (r4+q3.cost)),(10,71,v2),(11,72,zI to3),(12,73,.pointer (some ⟨zbY v2,(to3:Int).toNat*3,none⟩)),(13,74,.pointer (some ⟨zbY v2,((to3:Int).toNat)*3+1,none⟩)),(14,75,zI q3.rows),(15,76,zI (q3.rows+1)),(16,77,zI to3)] mixed kr kr dc (by rfl) kr kr (zyP 3 0 rfl (zac ?_ (zyP 2 4 rfl (zac ?_ (zac ?_ (zac ?_ (zac ?_ (zyP 2 10 rfl (zac ?_ (zac ?_ (zac ?_ (zac ?_ (zyP 1 16 rfl DrawPre.nil))))))))))))) ?_
           · exact fun D n d c u i=>zch (v:=zI r4) (vs:=[zP bt1,zI from3,zI to3]) hrd rfl dc rfl (evL.cons (zaa (m:=0) u rfl (d 0 dc)) (evL.cons (zaa (m:=1) u rfl (d 1 dc)) (evL.cons (zaa (m:=2) u rfl (d 2 dc)) evL.nil))) rfl zvX (zif (bt1:=bt1) (t1:=t1) (t1_h0:=t1_h0) (t1_h1:=t1_h1) (t1_h2:=t1_h2) hq6) (.ro 0 rfl (.ro 1 rfl (.ro 2 rfl (.ro 3 rfl .nil)))) (zaf 3 u i rfl)
           · exact fun D n d c u i=>zaj (k:=0) hq7 Tryz.underlying174 zdn rfl dc (zaa (m:=4) u rfl (d 4 dc)) (zaa (m:=5) u rfl (d 5 dc)) rfl rfl (zaf 6 u i rfl)
           · exact fun D n d c u i=>zab zeY rfl dc (zaa (m:=6) u rfl (d 6 dc)) (show _=((to3:Int).toNat)*3 from rfl) (zaf 7 u i rfl)
           · exact fun D n d c u i=>zaA (i:=(to3:Int).toNat) (j:=0) (k:=0) (q:=q3) zbp za2 rfl dc (zaa (m:=7) u rfl (d 7 dc)) rfl (zaz hq7) rfl dc rfl (zaf 8 u i rfl)
           · exact fun D n d c u i=>zbz rfl dc (zaa (m:=3) u rfl (d 3 dc)) (zaa (m:=8) u rfl (d 8 dc)) (zaR (r:=r4+q3.cost) (IntWalk.i64_in _ hg5)) (zaf 9 u i rfl)
           · exact fun D n d c u i=>zaj (k:=0) hq7 Tryz.underlying174 zdn rfl dc (zaa (m:=10) u rfl (d 10 dc)) (zaa (m:=11) u rfl (d 11 dc)) rfl rfl (zaf 12 u i rfl)
           · exact fun D n d c u i=>zab zfo rfl dc (zaa (m:=12) u rfl (d 12 dc)) (show _=((to3:Int).toNat)*3+1 from rfl) (zaf 13 u i rfl)
           · exact fun D n d c u i=>zaA (i:=(to3:Int).toNat) (j:=1) (k:=0) (q:=q3) zbp za2 rfl dc (zaa (m:=13) u rfl (d 13 dc)) rfl (zaz hq7) rfl dc rfl (zaf 14 u i rfl)
           · exact fun D n d c u i=>zbz rfl dc (zaa (m:=14) u rfl (d 14 dc)) rfl (zaR (r:=q3.rows+1) (IntWalk.i64_in _ hg6)) (zaf 15 u i rfl)
           refine zba (v:=.agg #[zI (r4+q3.cost),zI (q3.rows+1),zI to3]) (ps:=[(0,.tmp 70),(1,.tmp 76),(2,.tmp 77)]) rfl dc rfl (fun _=>by kernel_rfl) ?_
           refine za6 (k:=1) (vs:=[zI (r4+q3.cost),zI (q3.rows+1),zI to3]) (l':=[zI (r4+q3.cost),zI (q3.rows+1),zI to3]) zdn rfl rfl rfl rfl rfl (show _≤_ by simp) rfl rfl (zaO ?_)
           exact zal (r4+q3.cost,q3.rows+1,b4) h rfl (za0 rfl) (zad [0,1] kr rfl)
          refine zar ?_
          exact zal (0,1,b4) h rfl (za0 rfl) (zad [0,1] kr rfl)
         rintro ⟨b2,b3,b1⟩ h
         rw [hj4] at h
         refine zyG (zyR 2 rfl ?_)
         obtain ⟨q4,hq8,h⟩:=zbi h
         refine zaj (k:=0) hq8 Tryz.underlying174 zdn rfl dc rfl rfl rfl rfl (zcQ (i:=(from3:Int).toNat) (j:=0) (k:=0) (q:=q4) (cs:=(zr7 q4)) zjE za2 rfl dc rfl rfl (zaz hq8) rfl rfl rfl ?_)
         refine zbE zlF rfl dc (fun b5 => ?_)
         refine za6 (k:=2) (vs:=(zr7 q4)) (l':=(zr7 q4)) zdn rfl rfl rfl rfl rfl (show _≤_ by simp) rfl rfl ?_
         refine zyH (zab zfo rfl dc rfl (show _=1 from rfl) (zau (k:=2) zbp rfl dc rfl rfl rfl (zaU rfl zbc (zyR 1 rfl ?_))))
         refine zyS (s:=86) rfl h (fun h => ?_) (fun h => ?_)
         ·
          refine zyR 14 rfl ?_
          refine zyR 6 rfl (zyN (za5 rfl (zav (zyR 2 rfl (zbd (k:=1) (cs:=[zI b2,zI b3,zI to3]) zjE rfl dc rfl rfl rfl rfl ?_)))))
          obtain ⟨q5,hq9,h⟩:=zbi h
          refine zaj (k:=0) hq9 Tryz.underlying174 zdn rfl dc rfl rfl rfl rfl ?_
          refine zfb (i:=(from3:Int).toNat) (j:=0) (k:=0) (q:=q5) (q':=(⟨b2,b3,to3⟩:Gpage_best)) (vs:=[zI b2,zI b3,zI to3]) zdn za2 rfl rfl rfl rfl (zaz hq9) rfl dc rfl rfl (fun m=>[q5,(⟨b2,q5.rows,q5.to_⟩:Gpage_best),(⟨b2,b3,q5.to_⟩:Gpage_best),(⟨b2,b3,to3⟩:Gpage_best)].getD m q5) rfl rfl (by intro m hm; rcases m with _ | _ | _ | m <;> first | rfl | (exfalso; omega)) ?_
          refine zaO (zag ?_)
          exact zal (all8.set (from3:Int).toNat (⟨b2,b3,to3⟩:Gpage_best)) h rfl (za0 rfl) (zad [0] kr rfl)
         refine zab zeY rfl dc rfl (show _=0 from rfl) (zau (k:=1) zbp rfl dc rfl rfl rfl (zab zeY rfl dc rfl (show _=0 from rfl) (zau (k:=2) zbp rfl dc rfl rfl rfl (zaU rfl zbc (zyR 2 rfl ?_)))))
         refine zyS (s:=93) rfl h (fun h => ?_) (fun h => ?_)
         ·
          refine zyR 13 rfl (zaO ?_)
          refine zaH (za5 rfl (zav (zyR 2 rfl (zbd (k:=1) (cs:=[zI b2,zI b3,zI to3]) zjE rfl dc rfl rfl rfl rfl ?_))))
          obtain ⟨q6,hq10,h⟩:=zbi h
          refine zaj (k:=0) hq10 Tryz.underlying174 zdn rfl dc rfl rfl rfl rfl ?_
          refine zfb (i:=(from3:Int).toNat) (j:=0) (k:=0) (q:=q6) (q':=(⟨b2,b3,to3⟩:Gpage_best)) (vs:=[zI b2,zI b3,zI to3]) zdn za2 rfl rfl rfl rfl (zaz hq10) rfl dc rfl rfl (fun m=>[q6,(⟨b2,q6.rows,q6.to_⟩:Gpage_best),(⟨b2,b3,q6.to_⟩:Gpage_best),(⟨b2,b3,to3⟩:Gpage_best)].getD m q6) rfl rfl (by intro m hm; rcases m with _ | _ | _ | m <;> first | rfl | (exfalso; omega)) ?_
          refine zaO (zag ?_)
          exact zal (all8.set (from3:Int).toNat (⟨b2,b3,to3⟩:Gpage_best)) h rfl (za0 rfl) (zad [0] kr rfl)
         refine zab zeY rfl dc rfl (show _=0 from rfl) (zau (k:=1) zbp rfl dc rfl rfl rfl (zab zeY rfl dc rfl (show _=0 from rfl) (zau (k:=2) zbp rfl dc rfl rfl rfl (zaU rfl zaT (zyR 1 rfl ?_)))))
         refine zyS (s:=99) rfl h (fun h => ?_) (fun h => ?_)
         ·
          refine zab zfo rfl dc rfl (show _=1 from rfl) (zau (k:=1) zbp rfl dc rfl rfl rfl (zab zfo rfl dc rfl (show _=1 from rfl) (zau (k:=2) zbp rfl dc rfl rfl rfl (zaU rfl zdJ (zyR 2 rfl (zyN ?_))))))
          refine zyB rfl h (fun h => ?_) (fun h => ?_)
          ·
           refine zav (zyR 2 rfl (zbd (k:=1) (cs:=[zI b2,zI b3,zI to3]) zjE rfl dc rfl rfl rfl rfl ?_))
           obtain ⟨q7,hq11,h⟩:=zbi h
           refine zaj (k:=0) hq11 Tryz.underlying174 zdn rfl dc rfl rfl rfl rfl ?_
           refine zfb (i:=(from3:Int).toNat) (j:=0) (k:=0) (q:=q7) (q':=(⟨b2,b3,to3⟩:Gpage_best)) (vs:=[zI b2,zI b3,zI to3]) zdn za2 rfl rfl rfl rfl (zaz hq11) rfl dc rfl rfl (fun m=>[q7,(⟨b2,q7.rows,q7.to_⟩:Gpage_best),(⟨b2,b3,q7.to_⟩:Gpage_best),(⟨b2,b3,to3⟩:Gpage_best)].getD m q7) rfl rfl (by intro m hm; rcases m with _ | _ | _ | m <;> first | rfl | (exfalso; omega)) ?_
           refine zaO (zag ?_)
           exact zal (all8.set (from3:Int).toNat (⟨b2,b3,to3⟩:Gpage_best)) h rfl (za0 rfl) (zad [0] kr rfl)
          refine zar (zag ?_)
          exact zal all8 h rfl (za0 rfl) (zad [0] kr rfl)
         refine zyR 7 rfl (zyN (zaS rfl (zar (zag ?_))))
         exact zal all8 h rfl (za0 rfl) (zad [0] kr rfl)
        rintro all9 h
        rw [hj3] at h
        refine zav (zyR 1 rfl ?_)
        obtain ⟨hg7,h⟩:=zbr h
        refine zaU rfl (zaR (r:=to3+1) (IntWalk.i64_in _ hg7)) (zyR 1 rfl (zaO ?_))
        subst hag2
        exact za1 (n2,all9,to3+1) h (Nat.lt_succ_self _) rfl (za0 rfl) (zad [0] kr rfl)
       refine za3 (zan (zan (zax (zd9 (by simp) (zag ?_)))))
       exact zal all8 h rfl (za0 rfl) (zad [0] kr rfl)
     exact fun b hb=>hb.elim
    rintro all5 h
    rw [hj2] at h
    refine zav (zyR 1 rfl ?_)
    obtain ⟨hg8,h⟩:=zbr h
    refine zaU rfl (zbt (r:=from3 - 1) (IntWalk.i64_in _ hg8)) (zyR 1 rfl (zaO ?_))
    subst hag1
    exact za1 (n1,all5,from3 - 1) h (Nat.lt_succ_self _) rfl (za0 rfl) (zad [0] kr rfl)
   refine za3 (zan (zan (zax ?_)))
   exact zal (all4,v2) h rfl (za0 rfl) (zad [0] kr rfl)
 rintro ⟨all1,v1⟩ h
 rw [hj1] at h
 obtain ⟨j5,hj5,h⟩:=zbG h
 refine zaX (β:=(List Int)×Hd) 1 rfl (fun b=>j5 b.1=some r) (fun b=>[]) (fun b=>[(5,v1),(10,b.2.v)]) (fun b=>[zv8 v1 all1,zv0 b.2.v b.1]) (fun cut => ?_) ?_
 ·
  refine zyG (zyR 1 rfl (zyN (cut (zyG (zyR 1 rfl (zyN (zaF (zcR (enc:=(zqb (.i64))) (e:=3) (size:=1) ?_))))))))
  refine zbj (β:=Nat×(List Int)×Int×Hd) (fun b=>zaE (fun _ _=>none) (zbR t1 all1 j5) b.1 b.2.1 b.2.2.1=some r) (fun b=>[]) (fun b=>[(4,zI (t1.cells.length:Int)),(5,v1),(10,b.2.2.2.v),(11,zI b.2.2.1)]) (fun b=>[zv8 v1 all1,zv0 b.2.2.2.v b.2.1]) (fun b=>b.1) (zbN,([]:List Int),0,Hd.nil) h rfl (za0 rfl) (zad [0,1] kr rfl) ?_
  rintro ⟨n3,out4,from6,hd4⟩ h
  cases n3 with
  | zero=>exact zdp h
  | succ n3 =>
   obtain ⟨ag3,hag3⟩:∃ ag,ag=zaE (fun _ _=>none) (zbR t1 all1 j5) n3:=⟨_,rfl⟩
   have h:zbR t1 all1 j5 ag3 out4 from6=some r:=by rw [hag3]; exact h
   unfold zbR at h
   refine zaI (zyG (zyR 2 rfl (zaU rfl zbc (zyN ?_))))
   refine zyB rfl h (fun h => ?_) (fun h => ?_)
   ·
    refine zar (zaH (zaI (zaF (zav (zyR 3 rfl ?_)))))
    obtain ⟨q8,hq12,h⟩:=zbi h
    refine zaj (k:=0) hq12 Tryz.underlying174 zdn rfl dc rfl rfl rfl rfl (zab zj9 rfl dc rfl (show _=((from6:Int).toNat)*3+2 from rfl) (zaA (i:=(from6:Int).toNat) (j:=2) (k:=0) (q:=q8) zbp za2 rfl dc rfl rfl (zaz hq12) rfl dc rfl ?_))
    refine zaV (cs:=[zI q8.to_]) (te:=3) (ps:=[(0,.tmp 124)]) rfl dc rfl (fun _=>by kernel_rfl) (fun b6 => ?_)
    obtain ⟨hg9,h⟩:=zbr h
    refine za4 (k:=1) (k2:=2) (ys:=[q8.to_]) Tryz.underlying49 zpv zaQ zgC rfl dc rfl rfl rfl rfl rfl rfl hg9 (fun v3 => ?_)
    refine zby (k:=1) rfl (fun hd5 he1 => ?_)
    subst he1
    refine zyR 1 rfl (zaO (zag (zaH (zav (zyR 2 rfl ?_)))))
    obtain ⟨q9,hq13,h⟩:=zbi h
    refine zaj (k:=0) hq13 Tryz.underlying174 zdn rfl dc rfl rfl rfl rfl (zab zj9 rfl dc rfl (show _=((from6:Int).toNat)*3+2 from rfl) (zaA (i:=(from6:Int).toNat) (j:=2) (k:=0) (q:=q9) zbp za2 rfl dc rfl rfl (zaz hq13) rfl dc rfl (zyR 1 rfl (zaO ?_))))
    subst hag3
    exact za1 (n3,out4++[q8.to_],q9.to_,hd5) h (Nat.lt_succ_self _) rfl (za0 rfl) (zad [0,1] kr rfl)
   refine za3 (zan (zan (zax ?_)))
   exact zal (out4,hd4) h rfl (za0 rfl) (zad [0,1] kr rfl)
 rintro ⟨out1,hd1⟩ h
 rw [hj5] at h
 refine zaI ?_
 obtain ⟨q10,hq14,h⟩:=zbi h
 refine zbn 6 [(0,127,hd1.v),(1,128,v1),(2,129,.pointer (some ⟨zbY v1,(0:Int).toNat*3,none⟩)),(3,130,.pointer (some ⟨zbY v1,((0:Int).toNat)*3,none⟩)),(4,131,zI q10.cost),(5,2,hd1.v)] mixed kr kr dc (by rfl) kr kr (zyP 2 0 rfl (zac ?_ (zac ?_ (zac ?_ (zyP 1 5 rfl DrawPre.nil))))) ?_
 · exact fun D n d c u i=>zaj (k:=0) hq14 Tryz.underlying174 zdn rfl dc (zaa (m:=1) u rfl (d 1 dc)) rfl rfl rfl (zaf 2 u i rfl)
 · exact fun D n d c u i=>zab zeY rfl dc (zaa (m:=2) u rfl (d 2 dc)) (show _=((0:Int).toNat)*3 from rfl) (zaf 3 u i rfl)
 · exact fun D n d c u i=>zaA (i:=(0:Int).toNat) (j:=0) (k:=0) (q:=q10) zbp za2 rfl dc (zaa (m:=3) u rfl (d 3 dc)) rfl (zaz hq14) rfl dc rfl (zaf 4 u i rfl)
 refine zyR 1 rfl (zyN (zaG ?_))
 cases h
 exact zaK (rs:=[.tmp 2,.tmp 3]) hd1.v (.inl rfl) Tryz.results96 (.cons (.tmp rfl) (.cons (.tmp rfl) .nil)) rfl (zad [1] kr rfl)
def zdN (t1:Gpage_turner) (from1:Int) (to1:Int):Option ByteArray :=
zah (zbm t1.cells from1) fun (q1:Gapi_Cell) =>
grd (I64 (to1 - 1)) <|
zah (zbm t1.cells (to1 - 1)) fun (q2:Gapi_Cell) =>
grd (0≤(q1.Span_From:Int)∧(q1.Span_From:Int)≤q2.Span_To∧(q2.Span_To:Int)≤(t1.s.size:Int)) <|
some (zb8 t1.s q1.Span_From q2.Span_To)
theorem zid {bt1:Nat} {t1:Gpage_turner} {t1_h0 t1_h1 t1_h2:Hd} {from1:Int} {to1:Int} {r:ByteArray} (h:zdN t1 from1 to1=some r):FnR Tryz.prog 97 [zP bt1,zI from1,zI to1] [cells bt1 [.string t1.s,t1_h0.v,t1_h1.v,t1_h2.v,zI t1.first,zI t1.rest] 203,zv2 t1_h0.v t1.cells,zv0 t1_h1.v t1.wide,zv0 t1_h2.v t1.ends] [] (fun _:Unit=>(.string r)) (fun _=>[]):=by
 unfold zdN at h
 refine FnR.intro Tryz.func97 rfl Tryz.ntmps97 (by simp) ?_
 intro w0 K hrd
 refine zyG (zyR 1 rfl (zyN (zaI ?_)))
 obtain ⟨q1,hq1,h⟩:=zbi h
 obtain ⟨hg1,h⟩:=zbr h
 obtain ⟨q2,hq2,h⟩:=zbi h
 obtain ⟨hg2,h⟩:=zbr h
 refine zbn 23 [(0,7,zP bt1),(1,8,zP bt1),(2,9,zP bt1),(3,10,.string t1.s),(4,11,zP bt1),(5,12,zP bt1),(6,13,.pointer (some ⟨bt1,1,none⟩)),(7,14,t1_h0.v),(8,15,zI from1),(9,16,.pointer (some ⟨zbY t1_h0.v,(0+(from1:Int).toNat)*3,none⟩)),(10,17,.pointer (some ⟨zbY t1_h0.v,(0+(from1:Int).toNat)*3,none⟩)),(11,18,.pointer (some ⟨zbY t1_h0.v,(0+(from1:Int).toNat)*3,none⟩)),(12,19,zI q1.Span_From),(13,20,zP bt1),(14,21,zP bt1),(15,22,.pointer (some ⟨bt1,1,none⟩)),(16,23,t1_h0.v),(17,24,zI to1),(18,25,zI (to1 - 1)),(19,26,.pointer (some ⟨zbY t1_h0.v,(0+(to1 - 1:Int).toNat)*3,none⟩)),(20,27,.pointer (some ⟨zbY t1_h0.v,(0+(to1 - 1:Int).toNat)*3,none⟩)),(21,28,.pointer (some ⟨zbY t1_h0.v,(0+(to1 - 1:Int).toNat)*3+1,none⟩)),(22,29,zI q2.Span_To)] mixed kr kr dc (by rfl) kr kr (zyP 1 0 rfl (zac ?_ (zac ?_ (zac ?_ (zyP 1 4 rfl (zac ?_ (zac ?_ (zac ?_ (zyP 1 8 rfl (zac ?_ (zac ?_ (zac ?_ (zac ?_ (zyP 1 13 rfl (zac ?_ (zac ?_ (zac ?_ (zyP 1 17 rfl (zac ?_ (zac ?_ (zac ?_ (zac ?_ (zac ?_ DrawPre.nil))))))))))))))))))))))) ?_
 · exact fun D n d c u i=>zaD rfl dc (zaa (m:=0) u rfl (d 0 dc)) (zaf 1 u i rfl)
 · exact fun D n d c u i=>zab zpo rfl dc (zaa (m:=1) u rfl (d 1 dc)) (show _=0 from rfl) (zaf 2 u i rfl)
 · exact fun D n d c u i=>zbw (i:=0) hrd rfl zp7 rfl dc (zaa (m:=2) u rfl (d 2 dc)) rfl (zaf 3 u i rfl)
 · exact fun D n d c u i=>zaD rfl dc (zaa (m:=4) u rfl (d 4 dc)) (zaf 5 u i rfl)
 · exact fun D n d c u i=>zab zg6 rfl dc (zaa (m:=5) u rfl (d 5 dc)) (show _=1 from rfl) (zaf 6 u i rfl)
 · exact fun D n d c u i=>zbw (i:=0) hrd rfl zpI rfl dc (zaa (m:=6) u rfl (d 6 dc)) rfl (zaf 7 u i rfl)
 · exact fun D n d c u i=>za9 (hrd.vw (i:=1) rfl) hq1 Tryz.underlying94 zho rfl dc (zaa (m:=7) u rfl (d 7 dc)) (zaa (m:=8) u rfl (d 8 dc)) rfl (zaf 9 u i rfl)
 · exact fun D n d c u i=>zab zfD rfl dc (zaa (m:=9) u rfl (d 9 dc)) (show _=(0+(from1:Int).toNat)*3 from rfl) (zaf 10 u i rfl)
 · exact fun D n d c u i=>zab zdt rfl dc (zaa (m:=10) u rfl (d 10 dc)) (show _=(0+(from1:Int).toNat)*3 from rfl) (zaf 11 u i rfl)
 · exact fun D n d c u i=>zcI (n:=0+(from1:Int).toNat) (j:=0) (i:=1) (q:=q1) hrd rfl zbp zbC rfl dc (zaa (m:=11) u rfl (d 11 dc)) (Vw.get (hrd.vw (i:=1) rfl) hq1) rfl dc rfl (zaf 12 u i rfl)
 · exact fun D n d c u i=>zaD rfl dc (zaa (m:=13) u rfl (d 13 dc)) (zaf 14 u i rfl)
 · exact fun D n d c u i=>zab zg6 rfl dc (zaa (m:=14) u rfl (d 14 dc)) (show _=1 from rfl) (zaf 15 u i rfl)
 · exact fun D n d c u i=>zbw (i:=0) hrd rfl zpI rfl dc (zaa (m:=15) u rfl (d 15 dc)) rfl (zaf 16 u i rfl)
 · exact fun D n d c u i=>zbz rfl dc (zaa (m:=17) u rfl (d 17 dc)) rfl (zbt (r:=to1 - 1) (IntWalk.i64_in _ hg1)) (zaf 18 u i rfl)
 · exact fun D n d c u i=>za9 (hrd.vw (i:=1) rfl) hq2 Tryz.underlying94 zho rfl dc (zaa (m:=16) u rfl (d 16 dc)) (zaa (m:=18) u rfl (d 18 dc)) rfl (zaf 19 u i rfl)
 · exact fun D n d c u i=>zab zfD rfl dc (zaa (m:=19) u rfl (d 19 dc)) (show _=(0+(to1 - 1:Int).toNat)*3 from rfl) (zaf 20 u i rfl)
 · exact fun D n d c u i=>zab zdZ rfl dc (zaa (m:=20) u rfl (d 20 dc)) (show _=(0+(to1 - 1:Int).toNat)*3+1 from rfl) (zaf 21 u i rfl)
 · exact fun D n d c u i=>zcI (n:=0+(to1 - 1:Int).toNat) (j:=1) (i:=1) (q:=q2) hrd rfl zbp zbC rfl dc (zaa (m:=21) u rfl (d 21 dc)) (Vw.get (hrd.vw (i:=1) rfl) hq2) rfl dc rfl (zaf 22 u i rfl)
 refine zdG rfl dc rfl rfl rfl (zce (i:=q1.Span_From) (j:=q2.Span_To) Tryz.underlying9 (.inr rfl) (.inr rfl) hg2) (zyR 1 rfl (zyN (zaG ?_)))
 cases h
 exact zaK (rs:=[.tmp 6]) () (.inl rfl) Tryz.results97 (.cons (.tmp rfl) .nil) rfl Splits.nil
def zcG (s1:ByteArray) (indent1:Int) (l1:Gapi_Layout) (x1:Gapi_Cell) (ag1:(List Gapi_Cell)→(List Int)→(List Int)→Option Gpage_turner) (t10:List Gapi_Cell) (t11:List Int) (t12:List Int):Option Gpage_turner :=
zbk (fun (j2:(List Int)→Int→Option Gpage_turner) =>
grd (t10.length+1≤2147483648) <|
grd (I64 (((t10++[x1]).length:Int) - 1)) <|
zah (zbm t11 (((t10++[x1]).length:Int) - 1)) fun (q1:Int) =>
grd (I64 (q1+x1.Columns)) <|
grd (t11.length+1≤2147483648) <|
grd (I64 ((((t10++[x1]).length:Int) - 1)+1)) <|
zah (zcb (⟨s1,t10++[x1],t11++[q1+x1.Columns],t12,max 1 (l1.Width - indent1),l1.Width - l1.Turn⟩:Gpage_turner) (((t10++[x1]).length:Int) - 1)) fun (r2:Bool) =>
zay (r2) (
zah (zbm t12 (((t10++[x1]).length:Int) - 1)) fun (q2:Int) =>
j2 (t11++[q1+x1.Columns]) q2
) (
j2 (t11++[q1+x1.Columns]) ((((t10++[x1]).length:Int) - 1)+1)
)
) (fun (t13:List Int) (end1:Int) =>
grd (t12.length+1≤2147483648) <|
ag1 (t10++[x1]) t13 (t12++[end1])
)
def zei (s1:ByteArray) (indent1:Int) (l1:Gapi_Layout):Option Gpage_turner :=
zbk (fun (j1:(List Gapi_Cell)→(List Int)→(List Int)→Option Gpage_turner) =>
grd (I64 (l1.Width - indent1)) <|
grd (I64 (l1.Width - l1.Turn)) <|
zah (zgH s1) fun (r1:ByteArray) =>
zah (zel r1) fun (its1:(List Gapi_Cell)) =>
zbk (fun (dn1:(List Gapi_Cell)→(List Int)→(List Int)→Option Gpage_turner) =>
zev dn1 (zcG s1 indent1 l1) its1 ([]:List Gapi_Cell) ([0]:List Int) ([0]:List Int)
) (fun (t10:List Gapi_Cell) (t11:List Int) (t12:List Int) =>
j1 t10 t11 t12
)
) (fun (t1:List Gapi_Cell) (t2:List Int) (t3:List Int) =>
some (⟨s1,t1,t2,t3,max 1 (l1.Width - indent1),l1.Width - l1.Turn⟩:Gpage_turner)
)
theorem zjd {s1:ByteArray} {indent1:Int} {l1:Gapi_Layout} {r:Gpage_turner} (h:zei s1 indent1 l1=some r):Fn Tryz.prog 95 [.string s1,zI indent1,.agg (zr0 l1).toArray] [] (fun b:Nat×Hd×Hd×Hd=>zP b.1) (fun b=>[cells b.1 [.string r.s,b.2.1.v,b.2.2.1.v,b.2.2.2.v,zI r.first,zI r.rest] 203,zv2 b.2.1.v r.cells,zv0 b.2.2.1.v r.wide,zv0 b.2.2.2.v r.ends]):=by
 unfold zei at h
 refine Fn.intro Tryz.func95 rfl Tryz.ntmps95 (by simp) ?_
 intro w0 K
 refine znh ?_
 obtain ⟨j1,hj1,h⟩:=zbG h
 refine zaX (β:=(List Gapi_Cell)×(List Int)×(List Int)×Nat×Nat×Hd×Hd×Hd×(List Nat)) 2 rfl (fun b=>j1 b.1 b.2.1 b.2.2.1=some r) (fun b=>zhw b.2.2.2.2.2.2.2.2) (fun b=>[(7,zP b.2.2.2.1)]) (fun b=>[cells b.2.2.2.1 [zP b.2.2.2.2.1] 179,cells b.2.2.2.2.1 [.string s1,b.2.2.2.2.2.1.v,b.2.2.2.2.2.2.1.v,b.2.2.2.2.2.2.2.1.v,zI (max 1 (l1.Width - indent1)),zI (l1.Width - l1.Turn)] 203,zv2 b.2.2.2.2.2.1.v b.1,zv0 b.2.2.2.2.2.2.1.v b.2.1,zv0 b.2.2.2.2.2.2.2.1.v b.2.2.1,zlj ((b.2.2.2.2.2.2.2.2:List Nat).map zpf)]) (fun cut => ?_) ?_
 ·
  refine zyG ?_
  refine zea rfl dc rfl (fun b3 => ?_)
  refine zyR 1 rfl (zyH (zyR 1 rfl ?_))
  refine zaV (cs:=[zI 0]) (te:=3) (ps:=[(0,.const (zI 0))]) rfl dc rfl (fun _=>by kernel_rfl) (fun b4 => ?_)
  refine zaV (cs:=[zI 0]) (te:=3) (ps:=[(0,.const (zI 0))]) rfl dc rfl (fun _=>by kernel_rfl) (fun b5 => ?_)
  refine zab zg5 rfl dc rfl (show _=0 from rfl) (zau (k:=1) zbp rfl dc rfl rfl rfl (zyR 1 rfl ?_))
  obtain ⟨hg1,h⟩:=zbr h
  refine zaU rfl (zbt (r:=l1.Width - indent1) (IntWalk.i64_in _ hg1)) (zk8 rfl dc rfl rfl (zab zg5 rfl dc rfl (show _=0 from rfl) (zau (k:=1) zbp rfl dc rfl rfl rfl (zab zg4 rfl dc rfl (show _=2 from rfl) (zau (k:=1) zbp rfl dc rfl rfl rfl ?_)))))
  obtain ⟨hg2,h⟩:=zbr h
  refine zaU rfl (zbt (r:=l1.Width - l1.Turn) (IntWalk.i64_in _ hg2)) ?_
  refine zba (v:=.agg #[.string s1,.slice none 0 0,.slice (some ⟨b4,0,none⟩) 1 1,.slice (some ⟨b5,0,none⟩) 1 1,zI (max 1 (l1.Width - indent1)),zI (l1.Width - l1.Turn)]) (ps:=[(0,.tmp 11),(2,.tmp 12),(3,.tmp 13),(4,.tmp 18),(5,.tmp 23)]) rfl dc rfl (fun _=>by kernel_rfl) ?_
  refine zi3 ([0]:List Int) (k:=2) rfl zaQ rfl (show 1≤maxLen by decide) ?_
  refine zi3 ([0]:List Int) (k:=3) rfl zaQ rfl (show 1≤maxLen by decide) ?_
  refine zea rfl dc rfl (fun b6 => ?_)
  refine zbE zu4 rfl dc (fun b7 => ?_)
  refine zbb (k:=5) (l':=[zP b6]) zvg rfl rfl rfl rfl rfl (fun _ _=>rfl) rfl ?_
  refine zyN (cut (zyG (zyR 1 rfl ?_)))
  obtain ⟨r1,hq1,h⟩:=zbi h
  refine zes (vs:=[.string s1]) rfl dc rfl rfl rfl zxM (zk5 hq1) Splits.nil ?_
  rintro b8
  refine zep (L':=[zlj ((([]:List Nat):List Nat).map zpf),cells b3 (zr0 l1) 23,zv0 (.slice (some ⟨b4,0,none⟩) 1 1) ([0]:List Int),zv0 (.slice (some ⟨b5,0,none⟩) 1 1) ([0]:List Int),cells b6 [.string s1,.slice none 0 0,(.slice (some ⟨b4,0,none⟩) 1 1),(.slice (some ⟨b5,0,none⟩) 1 1),zI (max 1 (l1.Width - indent1)),zI (l1.Width - l1.Turn)] 203,cells b7 [zP b6] 179,cells b8 [.string r1] 9]) (zad [0,1,2,3,4,5,6] kr rfl) (zyN (zaF ?_))
  obtain ⟨its1,hq2,h⟩:=zbi h
  refine zcR (enc:=zeL) (e:=40) (size:=3) ?_
  obtain ⟨dn1,hdn1,h⟩:=zbG h
  refine zpA (α:=Gapi_Cell) (β:=(List Gapi_Cell)×(List Int)×(List Int)×Hd×Hd×Hd) (γ:=Unit) (δ:=Nat) (ps:=[28]) Ro.nil rfl zxA (ziZ hq2) (fun pre b=>∀ post,its1=pre++post→zev dn1 (zcG s1 indent1 l1) post b.1 b.2.1 b.2.2.1=some r) (fun pre b=>[cells b7 [zP b6] 179,cells b6 [.string s1,b.2.2.2.1.v,b.2.2.2.2.1.v,b.2.2.2.2.2.v,zI (max 1 (l1.Width - indent1)),zI (l1.Width - l1.Turn)] 203,zv2 b.2.2.2.1.v b.1,zv0 b.2.2.2.2.1.v b.2.1,zv0 b.2.2.2.2.2.v b.2.2.1]) (fun c pre g=>False) (fun c pre g=>[]) (fun pre x b j=>[(6,.pointer none),(7,zP b7),(27,.func (.func 33) #[] #[zP b8]),(8,zP j)]) (fun pre x b j=>[cells b7 [zP b6] 179,cells b6 [.string s1,b.2.2.2.1.v,b.2.2.2.2.1.v,b.2.2.2.2.2.v,zI (max 1 (l1.Width - indent1)),zI (l1.Width - l1.Turn)] 203,zv2 b.2.2.2.1.v b.1,zv0 b.2.2.2.2.1.v b.2.1,zv0 b.2.2.2.2.2.v b.2.2.1,cells j (zr1 x) 40]) (([]:List Gapi_Cell),([0]:List Int),([0]:List Int),Hd.nil,(⟨some ⟨b4,0,none⟩,1,1⟩:Hd),(⟨some ⟨b5,0,none⟩,1,1⟩:Hd)) (fun post e=>by rw [List.nil_append] at e; subst e; exact h) (zad [5,4,7,2,3] kr rfl) ⟨.inl ⟨6,rfl⟩,trivial⟩ (fun _=>rfl) dc ?_ ?_ ?_ ?_
  ·
   rintro lp rc pre x1 post ⟨t10,t11,t12,hd10,hd11,hd12⟩ w1 K1 hxs1 hext hro hinv
   refine zav ?_
   refine zbE ztG rfl dc (fun b9 => ?_)
   refine za6 (k:=5) (vs:=(zr1 x1)) (l':=(zr1 x1)) zho rfl rfl rfl rfl rfl (show _≤_ by simp) rfl rfl ?_
   refine zaO ?_
   exact fun a w ha hw=>⟨b9,(za0 rfl) _ _ _ ha,hw.weaken (zad [0,1,2,3,4,5] kr rfl)⟩
  ·
   rintro lp rc pre x1 post1 ⟨t10,t11,t12,hd10,hd11,hd12⟩ jb1 w1 K1 hxs1 hext hro hinv
   have h:=hinv (x1::post1) hxs1
   obtain ⟨ag1,hag1⟩:∃ ag,ag=zev dn1 (zcG s1 indent1 l1) post1:=⟨_,rfl⟩
   have h:zcG s1 indent1 l1 x1 ag1 t10 t11 t12=some r:=by rw [hag1]; exact h
   unfold zcG at h
   refine zaF ?_
   obtain ⟨j2,hj2,h⟩:=zbG h
   refine zaX (β:=(List Int)×Int×Hd×Hd) 4 rfl (fun b=>j2 b.1 b.2.1=some r) (fun b=>[]) (fun b=>[(6,.pointer none),(7,zP b7),(10,zI b.2.1),(27,.func (.func 33) #[] #[zP b8])]) (fun b=>[cells b7 [zP b6] 179,cells b6 [.string s1,b.2.2.1.v,b.2.2.2.v,hd12.v,zI (max 1 (l1.Width - indent1)),zI (l1.Width - l1.Turn)] 203,zv2 b.2.2.1.v (t10++[x1]),zv0 b.2.2.2.v b.1,zv0 hd12.v t12]) (fun cut => ?_) ?_
   ·
    refine zaI ?_
    obtain ⟨hg3,h⟩:=zbr h
    refine zgs 1 ?_
    refine let vals1:(Nat×Hd)→List (Nat×Nat×Value):=fun b=>[(0,29,zP b6),(1,30,zP b6),(2,31,zP b6),(3,32,.pointer (some ⟨b6,1,none⟩)),(4,33,hd10.v),(5,34,.agg (zr1 x1).toArray),(6,35,.slice (some ⟨b.1,0,none⟩) 1 1),(7,36,b.2.v)]; let LL1:(Nat→Prop)→(Nat×Hd)→List Asn:=fun D b=>[cells b7 [zP b6] 179,cells b6 [.string s1,hd10.v,hd11.v,hd12.v,zI (max 1 (l1.Width - indent1)),zI (l1.Width - l1.Turn)] 203,eD D (zv2 hd10.v t10) [(7,zv2 b.2.v (t10++[x1]))],zv0 hd11.v t11,zv0 hd12.v t12,cells jb1 (zr1 x1) 40,eD D emp [(6,cells b.1 (zr1 x1) 40)]]; ?_
    have zhq:zyQ [6,7] LL1:=fun i h D b=>zae rfl (zae rfl (zae (zjY rfl h) (zae rfl (zae rfl (zae rfl (zae (zjY rfl h) rfl))))))
    refine zd3 (β:=Nat×Hd) 8 ((0:Nat),Hd.nil) vals1 LL1 mixed kr kr dc (fun _=>rfl) (zdh (zae zb7 (zcK (zae zb7 rfl)))) (zi5 zhq rfl (fun _=>rfl) (fun _=>rfl) ?_ (zi5 zhq rfl (fun _=>rfl) (fun _=>rfl) ?_ (zyq zhq rfl (fun _=>rfl) (fun _=>rfl) ?_ (zyq zhq rfl (fun _=>rfl) (fun _=>rfl) ?_ (zi5 zhq rfl (fun _=>rfl) (fun _=>rfl) ?_ (zi5 zhq rfl (fun _=>rfl) (fun _=>rfl) ?_ (zaB ?_ (zaB ?_ DrawG.nil)))))))) ?_
    · exact fun D ⟨b10,hd15⟩ n d c u i=>⟨_,(zwt rfl),zau (k:=0) zht rfl dc (zbe (by rfl) rfl) rfl rfl (zaf 0 u i rfl)⟩
    · exact fun D ⟨b10,hd15⟩ n d c u i=>⟨_,(zdh (zae (zak (fun hD=>n (c 2 _ rfl (c 3 _ rfl (c 4 _ rfl (c 7 _ rfl hD 4 dc) 3 dc) 2 dc) 1 dc)) zaq) (zfL rfl))),zau (k:=0) zht rfl dc (zbe (by rfl) rfl) rfl rfl (zaf 1 u i rfl)⟩
    · exact fun D ⟨b10,hd15⟩ n d c u i=>zaD rfl dc (zaa (m:=1) u rfl (d 1 dc)) (zaf 2 u i rfl)
    · exact fun D ⟨b10,hd15⟩ n d c u i=>zab zg6 rfl dc (zaa (m:=2) u rfl (d 2 dc)) (show _=1 from rfl) (zaf 3 u i rfl)
    · exact fun D ⟨b10,hd15⟩ n d c u i=>⟨_,(zdh (zae (zak (fun hD=>n (c 7 _ rfl hD 4 dc)) zaq) (zfL rfl))),zau (k:=1) zpI rfl dc (zaa (m:=3) u rfl (d 3 dc)) rfl rfl (zaf 4 u i rfl)⟩
    · exact fun D ⟨b10,hd15⟩ n d c u i=>⟨_,(zdh (zae (zak (fun hD=>n (c 6 _ rfl (c 7 _ rfl hD 6 dc) 5 dc)) zaq) (zcK (zae (zak (fun hD=>n (c 6 _ rfl hD 5 dc)) zaq) rfl)))),zbd (k:=5) (cs:=(zr1 x1)) zh9 rfl dc (zbe (by rfl) rfl) rfl rfl rfl (zaf 5 u i rfl)⟩
    ·
     intro D b hn hd hcl
     obtain ⟨zb0,hd15⟩:=b
     refine zaL (zdh (zae (zak (fun hD=>hn (hcl 7 _ rfl hD 6 dc)) zaq) (zcK (zae (zak hn zaq) rfl)))) ?_
     refine zaV (cs:=(zr1 x1)) (te:=40) (ps:=[(0,.tmp 34)]) rfl dc (evP.cons (zaa (m:=5) rfl rfl (hd 5 dc)) evP.nil) (fun _=>by kernel_rfl) (fun b10 => ?_)
     refine zcU 6 rfl rfl ?_
     exact zaW (b:=(zb0,hd15)) (b10,hd15) 6 (by rfl) (by rfl) rfl (ztB (zas (fun hD=>absurd hD hn) (zas (fun _=>rfl) rfl))) (zdh (zae ((zap (by rfl)).trans (zak (fun hD=>hn (hcl 7 _ rfl hD 6 dc)) zaq)) (zcK (zae (zaM (Or.inr rfl) rfl) rfl))))
    ·
     intro D b hn hd hcl
     obtain ⟨b10,zb1⟩:=b
     refine zaL (zdh (zae (zak hn zaq) (zcK (zae (zaM (hd 6 dc) rfl) rfl)))) ?_
     refine za4 (k:=2) (k2:=6) (ys:=[x1]) Tryz.underlying94 zwf zbC zgT rfl dc (zaa (m:=4) rfl rfl (hd 4 dc)) (zaa (m:=6) rfl rfl (hd 6 dc)) rfl rfl rfl rfl hg3 (fun v1 => ?_)
     refine zby (k:=2) rfl (fun hd15 he1 => ?_)
     subst he1
     exact zaW (b:=(b10,zb1)) (b10,hd15) 7 (by rfl) (by rfl) rfl (zjP (zas (fun hD=>absurd hD hn) rfl)) (zdh (zae (zaM (Or.inr rfl) rfl) (zcK (zae ((zap (by rfl)).trans (zaM (hd 6 dc) rfl)) rfl))))
    intro D b hall
    obtain ⟨b10,hd15⟩:=b
    refine zaL (zdh (zae (zaM (hall 7 dc) rfl) (zcK (zae (zaM (hall 6 dc) rfl) rfl)))) (zaD rfl dc rfl (zab zg6 rfl dc rfl (show _=1 from rfl) ?_))
    refine zbb (k:=1) (l':=[.string s1,hd15.v,hd11.v,hd12.v,zI (max 1 (l1.Width - indent1)),zI (l1.Width - l1.Turn)]) zwO rfl rfl rfl rfl rfl (fun _ _=>rfl) rfl ?_
    refine zyH (zau (k:=0) zht rfl dc rfl rfl rfl (zaD rfl dc rfl (zab zg6 rfl dc rfl (show _=1 from rfl) (zau (k:=1) zpI rfl dc rfl rfl rfl (zbg (k:=2) rfl dc rfl rfl Tryz.underlying94 ?_)))))
    obtain ⟨hg4,h⟩:=zbr h
    refine zaU rfl (zbt (r:=((t10++[x1]).length:Int) - 1) (IntWalk.i64_in _ hg4)) (zyR 1 rfl (zyN (zaI ?_)))
    obtain ⟨q1,hq3,h⟩:=zbi h
    obtain ⟨hg5,h⟩:=zbr h
    obtain ⟨hg6,h⟩:=zbr h
    refine zgs 1 ?_
    refine let vals2:(Nat×Hd)→List (Nat×Nat×Value):=fun b=>[(0,45,zP b6),(1,46,zP b6),(2,47,zP b6),(3,48,.pointer (some ⟨b6,2,none⟩)),(4,49,hd11.v),(5,50,zP b6),(6,51,zP b6),(7,52,.pointer (some ⟨b6,2,none⟩)),(8,53,hd11.v),(9,54,zI (((t10++[x1]).length:Int) - 1)),(10,55,.pointer (some ⟨zbY hd11.v,(((t10++[x1]).length:Int) - 1:Int).toNat*1,none⟩)),(11,56,zI q1),(12,57,.pointer (some ⟨jb1,2,none⟩)),(13,58,zI x1.Columns),(14,59,zI (q1+x1.Columns)),(15,60,.slice (some ⟨b.1,0,none⟩) 1 1),(16,61,b.2.v)]; let LL2:(Nat→Prop)→(Nat×Hd)→List Asn:=fun D b=>[cells b7 [zP b6] 179,cells b6 [.string s1,hd15.v,hd11.v,hd12.v,zI (max 1 (l1.Width - indent1)),zI (l1.Width - l1.Turn)] 203,zv2 hd15.v (t10++[x1]),eD D (zv0 hd11.v t11) [(16,zv0 b.2.v (t11++[q1+x1.Columns]))],zv0 hd12.v t12,cells jb1 (zr1 x1) 40,cells b10 (zr1 x1) 40,eD D emp [(15,cells b.1 [zI (q1+x1.Columns)] 3)]]; ?_
    refine zd3 (β:=Nat×Hd) 17 ((0:Nat),Hd.nil) vals2 LL2 mixed kr kr dc (fun _=>rfl) (zcK (zae zb7 (zcK (zae zb7 rfl)))) (zaB ?_ (zaB ?_ (zaB ?_ (zaB ?_ (zaB ?_ (zaB ?_ (zaB ?_ (zaB ?_ (zaB ?_ (zaB ?_ (zaB ?_ (zaB ?_ (zaB ?_ (zaB ?_ (zaB ?_ (zaB ?_ (zaB ?_ DrawG.nil))))))))))))))))) ?_
    ·
     intro D b hn hd hcl
     obtain ⟨b11,hd16⟩:=b
     refine zaL (zip rfl) (zau (k:=0) zht rfl dc (zbe (by rfl) rfl) rfl rfl ?_)
     exact zaW (b:=(b11,hd16)) (b11,hd16) 0 (by rfl) (by rfl) rfl (znk (zcL rfl)) (zcK (zae (zap (by rfl)) (zcK (zae (zap (by rfl)) rfl))))
    ·
     intro D b hn hd hcl
     obtain ⟨b11,hd16⟩:=b
     refine zaL (zcK (zae (zak (fun hD=>hn (hcl 2 _ rfl (hcl 3 _ rfl (hcl 4 _ rfl (hcl 16 _ rfl hD 4 dc) 3 dc) 2 dc) 1 dc)) zaq) (zfL rfl))) ?_
     refine zau (k:=0) zht rfl dc (zbe (by rfl) rfl) rfl rfl ?_
     exact zaW (b:=(b11,hd16)) (b11,hd16) 1 (by rfl) (by rfl) rfl (znk (zcL rfl)) (zcK (zae ((zap (by rfl)).trans (zak (fun hD=>hn (hcl 2 _ rfl (hcl 3 _ rfl (hcl 4 _ rfl (hcl 16 _ rfl hD 4 dc) 3 dc) 2 dc) 1 dc)) zaq)) (zcK (zae (zap (by rfl)) rfl))))
    ·
     intro D b hn hd hcl
     obtain ⟨b11,hd16⟩:=b
     refine zaL (zcK (zae (zak (fun hD=>hn (hcl 3 _ rfl (hcl 4 _ rfl (hcl 16 _ rfl hD 4 dc) 3 dc) 2 dc)) zaq) (zfL rfl))) ?_
     refine zaD rfl dc (zaa (m:=1) rfl rfl (hd 1 dc)) ?_
     exact zaW (b:=(b11,hd16)) (b11,hd16) 2 (by rfl) (by rfl) rfl (znk (zcL rfl)) (zcK (zae ((zap (by rfl)).trans (zak (fun hD=>hn (hcl 3 _ rfl (hcl 4 _ rfl (hcl 16 _ rfl hD 4 dc) 3 dc) 2 dc)) zaq)) (zcK (zae (zap (by rfl)) rfl))))
    ·
     intro D b hn hd hcl
     obtain ⟨b11,hd16⟩:=b
     refine zaL (zcK (zae (zak (fun hD=>hn (hcl 4 _ rfl (hcl 16 _ rfl hD 4 dc) 3 dc)) zaq) (zfL rfl))) ?_
     refine zab ziM rfl dc (zaa (m:=2) rfl rfl (hd 2 dc)) (show _=2 from rfl) ?_
     exact zaW (b:=(b11,hd16)) (b11,hd16) 3 (by rfl) (by rfl) rfl (znk (zcL rfl)) (zcK (zae ((zap (by rfl)).trans (zak (fun hD=>hn (hcl 4 _ rfl (hcl 16 _ rfl hD 4 dc) 3 dc)) zaq)) (zcK (zae (zap (by rfl)) rfl))))
    ·
     intro D b hn hd hcl
     obtain ⟨b11,hd16⟩:=b
     refine zaL (zcK (zae (zak (fun hD=>hn (hcl 16 _ rfl hD 4 dc)) zaq) (zfL rfl))) ?_
     refine zau (k:=1) zhh rfl dc (zaa (m:=3) rfl rfl (hd 3 dc)) rfl rfl ?_
     exact zaW (b:=(b11,hd16)) (b11,hd16) 4 (by rfl) (by rfl) rfl (znk (zcL rfl)) (zcK (zae ((zap (by rfl)).trans (zak (fun hD=>hn (hcl 16 _ rfl hD 4 dc)) zaq)) (zcK (zae (zap (by rfl)) rfl))))
    ·
     intro D b hn hd hcl
     obtain ⟨b11,hd16⟩:=b
     refine zaL (zcK (zae (zak (fun hD=>hn (hcl 6 _ rfl (hcl 7 _ rfl (hcl 8 _ rfl (hcl 10 _ rfl (hcl 11 _ rfl (hcl 14 _ rfl (hcl 15 _ rfl (hcl 16 _ rfl hD 15 dc) 14 dc) 11 dc) 10 dc) 8 dc) 7 dc) 6 dc) 5 dc)) zaq) (zcK (zae (zak (fun hD=>hn (hcl 6 _ rfl (hcl 7 _ rfl (hcl 8 _ rfl (hcl 10 _ rfl (hcl 11 _ rfl (hcl 14 _ rfl (hcl 15 _ rfl hD 14 dc) 11 dc) 10 dc) 8 dc) 7 dc) 6 dc) 5 dc)) zaq) rfl)))) ?_
     refine zau (k:=0) zht rfl dc (zbe (by rfl) rfl) rfl rfl ?_
     exact zaW (b:=(b11,hd16)) (b11,hd16) 5 (by rfl) (by rfl) rfl (znk (zcL rfl)) (zcK (zae ((zap (by rfl)).trans (zak (fun hD=>hn (hcl 6 _ rfl (hcl 7 _ rfl (hcl 8 _ rfl (hcl 10 _ rfl (hcl 11 _ rfl (hcl 14 _ rfl (hcl 15 _ rfl (hcl 16 _ rfl hD 15 dc) 14 dc) 11 dc) 10 dc) 8 dc) 7 dc) 6 dc) 5 dc)) zaq)) (zcK (zae ((zap (by rfl)).trans (zak (fun hD=>hn (hcl 6 _ rfl (hcl 7 _ rfl (hcl 8 _ rfl (hcl 10 _ rfl (hcl 11 _ rfl (hcl 14 _ rfl (hcl 15 _ rfl hD 14 dc) 11 dc) 10 dc) 8 dc) 7 dc) 6 dc) 5 dc)) zaq)) rfl))))
    ·
     intro D b hn hd hcl
     obtain ⟨b11,hd16⟩:=b
     refine zaL (zcK (zae (zak (fun hD=>hn (hcl 7 _ rfl (hcl 8 _ rfl (hcl 10 _ rfl (hcl 11 _ rfl (hcl 14 _ rfl (hcl 15 _ rfl (hcl 16 _ rfl hD 15 dc) 14 dc) 11 dc) 10 dc) 8 dc) 7 dc) 6 dc)) zaq) (zcK (zae (zak (fun hD=>hn (hcl 7 _ rfl (hcl 8 _ rfl (hcl 10 _ rfl (hcl 11 _ rfl (hcl 14 _ rfl (hcl 15 _ rfl hD 14 dc) 11 dc) 10 dc) 8 dc) 7 dc) 6 dc)) zaq) rfl)))) ?_
     refine zaD rfl dc (zaa (m:=5) rfl rfl (hd 5 dc)) ?_
     exact zaW (b:=(b11,hd16)) (b11,hd16) 6 (by rfl) (by rfl) rfl (znk (zcL rfl)) (zcK (zae ((zap (by rfl)).trans (zak (fun hD=>hn (hcl 7 _ rfl (hcl 8 _ rfl (hcl 10 _ rfl (hcl 11 _ rfl (hcl 14 _ rfl (hcl 15 _ rfl (hcl 16 _ rfl hD 15 dc) 14 dc) 11 dc) 10 dc) 8 dc) 7 dc) 6 dc)) zaq)) (zcK (zae ((zap (by rfl)).trans (zak (fun hD=>hn (hcl 7 _ rfl (hcl 8 _ rfl (hcl 10 _ rfl (hcl 11 _ rfl (hcl 14 _ rfl (hcl 15 _ rfl hD 14 dc) 11 dc) 10 dc) 8 dc) 7 dc) 6 dc)) zaq)) rfl))))
    ·
     intro D b hn hd hcl
     obtain ⟨b11,hd16⟩:=b
     refine zaL (zcK (zae (zak (fun hD=>hn (hcl 8 _ rfl (hcl 10 _ rfl (hcl 11 _ rfl (hcl 14 _ rfl (hcl 15 _ rfl (hcl 16 _ rfl hD 15 dc) 14 dc) 11 dc) 10 dc) 8 dc) 7 dc)) zaq) (zcK (zae (zak (fun hD=>hn (hcl 8 _ rfl (hcl 10 _ rfl (hcl 11 _ rfl (hcl 14 _ rfl (hcl 15 _ rfl hD 14 dc) 11 dc) 10 dc) 8 dc) 7 dc)) zaq) rfl)))) ?_
     refine zab ziM rfl dc (zaa (m:=6) rfl rfl (hd 6 dc)) (show _=2 from rfl) ?_
     exact zaW (b:=(b11,hd16)) (b11,hd16) 7 (by rfl) (by rfl) rfl (znk (zcL rfl)) (zcK (zae ((zap (by rfl)).trans (zak (fun hD=>hn (hcl 8 _ rfl (hcl 10 _ rfl (hcl 11 _ rfl (hcl 14 _ rfl (hcl 15 _ rfl (hcl 16 _ rfl hD 15 dc) 14 dc) 11 dc) 10 dc) 8 dc) 7 dc)) zaq)) (zcK (zae ((zap (by rfl)).trans (zak (fun hD=>hn (hcl 8 _ rfl (hcl 10 _ rfl (hcl 11 _ rfl (hcl 14 _ rfl (hcl 15 _ rfl hD 14 dc) 11 dc) 10 dc) 8 dc) 7 dc)) zaq)) rfl))))
    ·
     intro D b hn hd hcl
     obtain ⟨b11,hd16⟩:=b
     refine zaL (zcK (zae (zak (fun hD=>hn (hcl 10 _ rfl (hcl 11 _ rfl (hcl 14 _ rfl (hcl 15 _ rfl (hcl 16 _ rfl hD 15 dc) 14 dc) 11 dc) 10 dc) 8 dc)) zaq) (zcK (zae (zak (fun hD=>hn (hcl 10 _ rfl (hcl 11 _ rfl (hcl 14 _ rfl (hcl 15 _ rfl hD 14 dc) 11 dc) 10 dc) 8 dc)) zaq) rfl)))) ?_
     refine zau (k:=1) zhh rfl dc (zaa (m:=7) rfl rfl (hd 7 dc)) rfl rfl ?_
     exact zaW (b:=(b11,hd16)) (b11,hd16) 8 (by rfl) (by rfl) rfl (znk (zcL rfl)) (zcK (zae ((zap (by rfl)).trans (zak (fun hD=>hn (hcl 10 _ rfl (hcl 11 _ rfl (hcl 14 _ rfl (hcl 15 _ rfl (hcl 16 _ rfl hD 15 dc) 14 dc) 11 dc) 10 dc) 8 dc)) zaq)) (zcK (zae ((zap (by rfl)).trans (zak (fun hD=>hn (hcl 10 _ rfl (hcl 11 _ rfl (hcl 14 _ rfl (hcl 15 _ rfl hD 14 dc) 11 dc) 10 dc) 8 dc)) zaq)) rfl))))
    ·
     intro D b hn hd hcl
     obtain ⟨b11,hd16⟩:=b
     refine zaL (zcK (zae (zak (fun hD=>hn (hcl 10 _ rfl (hcl 11 _ rfl (hcl 14 _ rfl (hcl 15 _ rfl (hcl 16 _ rfl hD 15 dc) 14 dc) 11 dc) 10 dc) 9 dc)) zaq) (zcK (zae (zak (fun hD=>hn (hcl 10 _ rfl (hcl 11 _ rfl (hcl 14 _ rfl (hcl 15 _ rfl hD 14 dc) 11 dc) 10 dc) 9 dc)) zaq) rfl)))) ?_
     refine zeE rfl dc (zbe (by rfl) rfl) ?_
     exact zaW (b:=(b11,hd16)) (b11,hd16) 9 (by rfl) (by rfl) rfl (znk (zcL rfl)) (zcK (zae ((zap (by rfl)).trans (zak (fun hD=>hn (hcl 10 _ rfl (hcl 11 _ rfl (hcl 14 _ rfl (hcl 15 _ rfl (hcl 16 _ rfl hD 15 dc) 14 dc) 11 dc) 10 dc) 9 dc)) zaq)) (zcK (zae ((zap (by rfl)).trans (zak (fun hD=>hn (hcl 10 _ rfl (hcl 11 _ rfl (hcl 14 _ rfl (hcl 15 _ rfl hD 14 dc) 11 dc) 10 dc) 9 dc)) zaq)) rfl))))
    ·
     intro D b hn hd hcl
     obtain ⟨b11,hd16⟩:=b
     refine zaL (zcK (zae (zak (fun hD=>hn (hcl 11 _ rfl (hcl 14 _ rfl (hcl 15 _ rfl (hcl 16 _ rfl hD 15 dc) 14 dc) 11 dc) 10 dc)) zaq) (zcK (zae (zak (fun hD=>hn (hcl 11 _ rfl (hcl 14 _ rfl (hcl 15 _ rfl hD 14 dc) 11 dc) 10 dc)) zaq) rfl)))) ?_
     refine zaj (k:=3) hq3 Tryz.underlying49 zcs rfl dc (zaa (m:=8) rfl rfl (hd 8 dc)) (zaa (m:=9) rfl rfl (hd 9 dc)) rfl rfl ?_
     exact zaW (b:=(b11,hd16)) (b11,hd16) 10 (by rfl) (by rfl) rfl (znk (zcL rfl)) (zcK (zae ((zap (by rfl)).trans (zak (fun hD=>hn (hcl 11 _ rfl (hcl 14 _ rfl (hcl 15 _ rfl (hcl 16 _ rfl hD 15 dc) 14 dc) 11 dc) 10 dc)) zaq)) (zcK (zae ((zap (by rfl)).trans (zak (fun hD=>hn (hcl 11 _ rfl (hcl 14 _ rfl (hcl 15 _ rfl hD 14 dc) 11 dc) 10 dc)) zaq)) rfl))))
    ·
     intro D b hn hd hcl
     obtain ⟨b11,hd16⟩:=b
     refine zaL (zcK (zae (zak (fun hD=>hn (hcl 14 _ rfl (hcl 15 _ rfl (hcl 16 _ rfl hD 15 dc) 14 dc) 11 dc)) zaq) (zcK (zae (zak (fun hD=>hn (hcl 14 _ rfl (hcl 15 _ rfl hD 14 dc) 11 dc)) zaq) rfl)))) ?_
     refine zaA (i:=(((t10++[x1]).length:Int) - 1:Int).toNat) (j:=0) (k:=3) (q:=q1) zbp zaQ rfl dc (zaa (m:=10) rfl rfl (hd 10 dc)) rfl (zaz hq3) rfl dc rfl ?_
     exact zaW (b:=(b11,hd16)) (b11,hd16) 11 (by rfl) (by rfl) rfl (znk (zcL rfl)) (zcK (zae ((zap (by rfl)).trans (zak (fun hD=>hn (hcl 14 _ rfl (hcl 15 _ rfl (hcl 16 _ rfl hD 15 dc) 14 dc) 11 dc)) zaq)) (zcK (zae ((zap (by rfl)).trans (zak (fun hD=>hn (hcl 14 _ rfl (hcl 15 _ rfl hD 14 dc) 11 dc)) zaq)) rfl))))
    ·
     intro D b hn hd hcl
     obtain ⟨b11,hd16⟩:=b
     refine zaL (zcK (zae (zak (fun hD=>hn (hcl 13 _ rfl (hcl 14 _ rfl (hcl 15 _ rfl (hcl 16 _ rfl hD 15 dc) 14 dc) 13 dc) 12 dc)) zaq) (zcK (zae (zak (fun hD=>hn (hcl 13 _ rfl (hcl 14 _ rfl (hcl 15 _ rfl hD 14 dc) 13 dc) 12 dc)) zaq) rfl)))) ?_
     refine zab zhz rfl dc (zbe (by rfl) rfl) (show _=2 from rfl) ?_
     exact zaW (b:=(b11,hd16)) (b11,hd16) 12 (by rfl) (by rfl) rfl (znk (zcL rfl)) (zcK (zae ((zap (by rfl)).trans (zak (fun hD=>hn (hcl 13 _ rfl (hcl 14 _ rfl (hcl 15 _ rfl (hcl 16 _ rfl hD 15 dc) 14 dc) 13 dc) 12 dc)) zaq)) (zcK (zae ((zap (by rfl)).trans (zak (fun hD=>hn (hcl 13 _ rfl (hcl 14 _ rfl (hcl 15 _ rfl hD 14 dc) 13 dc) 12 dc)) zaq)) rfl))))
    ·
     intro D b hn hd hcl
     obtain ⟨b11,hd16⟩:=b
     refine zaL (zcK (zae (zak (fun hD=>hn (hcl 14 _ rfl (hcl 15 _ rfl (hcl 16 _ rfl hD 15 dc) 14 dc) 13 dc)) zaq) (zcK (zae (zak (fun hD=>hn (hcl 14 _ rfl (hcl 15 _ rfl hD 14 dc) 13 dc)) zaq) rfl)))) ?_
     refine zau (k:=5) zbp rfl dc (zaa (m:=12) rfl rfl (hd 12 dc)) rfl rfl ?_
     exact zaW (b:=(b11,hd16)) (b11,hd16) 13 (by rfl) (by rfl) rfl (znk (zcL rfl)) (zcK (zae ((zap (by rfl)).trans (zak (fun hD=>hn (hcl 14 _ rfl (hcl 15 _ rfl (hcl 16 _ rfl hD 15 dc) 14 dc) 13 dc)) zaq)) (zcK (zae ((zap (by rfl)).trans (zak (fun hD=>hn (hcl 14 _ rfl (hcl 15 _ rfl hD 14 dc) 13 dc)) zaq)) rfl))))
    ·
     intro D b hn hd hcl
     obtain ⟨b11,hd16⟩:=b
     refine zaL (zcK (zae (zak (fun hD=>hn (hcl 15 _ rfl (hcl 16 _ rfl hD 15 dc) 14 dc)) zaq) (zcK (zae (zak (fun hD=>hn (hcl 15 _ rfl hD 14 dc)) zaq) rfl)))) ?_
     refine zbz rfl dc (zaa (m:=11) rfl rfl (hd 11 dc)) (zaa (m:=13) rfl rfl (hd 13 dc)) (zaR (r:=q1+x1.Columns) (IntWalk.i64_in _ hg5)) ?_
     exact zaW (b:=(b11,hd16)) (b11,hd16) 14 (by rfl) (by rfl) rfl (znk (zcL rfl)) (zcK (zae ((zap (by rfl)).trans (zak (fun hD=>hn (hcl 15 _ rfl (hcl 16 _ rfl hD 15 dc) 14 dc)) zaq)) (zcK (zae ((zap (by rfl)).trans (zak (fun hD=>hn (hcl 15 _ rfl hD 14 dc)) zaq)) rfl))))
    ·
     intro D b hn hd hcl
     obtain ⟨zb0,hd16⟩:=b
     refine zaL (zcK (zae (zak (fun hD=>hn (hcl 16 _ rfl hD 15 dc)) zaq) (zcK (zae (zak hn zaq) rfl)))) ?_
     refine zaV (cs:=[zI (q1+x1.Columns)]) (te:=3) (ps:=[(0,.tmp 59)]) rfl dc (evP.cons (zaa (m:=14) rfl rfl (hd 14 dc)) evP.nil) (fun _=>by kernel_rfl) (fun b11 => ?_)
     refine zcU 7 rfl rfl ?_
     exact zaW (b:=(zb0,hd16)) (b11,hd16) 15 (by rfl) (by rfl) rfl (zuT (zcL (zas (fun hD=>absurd hD hn) (zas (fun _=>rfl) rfl)))) (zcK (zae ((zap (by rfl)).trans (zak (fun hD=>hn (hcl 16 _ rfl hD 15 dc)) zaq)) (zcK (zae (zaM (Or.inr rfl) rfl) rfl))))
    ·
     intro D b hn hd hcl
     obtain ⟨b11,zb1⟩:=b
     refine zaL (zcK (zae (zak hn zaq) (zcK (zae (zaM (hd 15 dc) rfl) rfl)))) ?_
     refine za4 (k:=3) (k2:=7) (ys:=[q1+x1.Columns]) Tryz.underlying49 zpv zaQ zgC rfl dc (zaa (m:=4) rfl rfl (hd 4 dc)) (zaa (m:=15) rfl rfl (hd 15 dc)) rfl rfl rfl rfl hg6 (fun v2 => ?_)
     refine zby (k:=3) rfl (fun hd16 he2 => ?_)
     subst he2
     exact zaW (b:=(b11,zb1)) (b11,hd16) 16 (by rfl) (by rfl) rfl (znj (zcL (zas (fun hD=>absurd hD hn) rfl))) (zcK (zae (zaM (Or.inr rfl) rfl) (zcK (zae ((zap (by rfl)).trans (zaM (hd 15 dc) rfl)) rfl))))
    intro D b hall
    obtain ⟨b11,hd16⟩:=b
    refine zaL (zcK (zae (zaM (hall 16 dc) rfl) (zcK (zae (zaM (hall 15 dc) rfl) rfl)))) (zaD rfl dc rfl (zab ziM rfl dc rfl (show _=2 from rfl) ?_))
    refine zbb (k:=1) (l':=[.string s1,hd15.v,hd16.v,hd12.v,zI (max 1 (l1.Width - indent1)),zI (l1.Width - l1.Turn)]) zqt rfl rfl rfl rfl rfl (fun _ _=>rfl) rfl ?_
    refine zyH (zyR 1 rfl ?_)
    obtain ⟨hg7,h⟩:=zbr h
    refine zaU rfl (zaR (r:=(((t10++[x1]).length:Int) - 1)+1) (IntWalk.i64_in _ hg7)) (zyR 1 rfl (zyN (cut (zyG (zau (k:=0) zht rfl dc rfl rfl rfl (zyR 1 rfl ?_))))))
    obtain ⟨r2,hq4,h⟩:=zbi h
    refine zch (v:=.bool r2) (vs:=[zP b6,zI (((t10++[x1]).length:Int) - 1)]) (Rd.nil:Rd _ _ []) rfl dc rfl rfl rfl zru (zeO (bt1:=b6) (t1:=(⟨s1,t10++[x1],t11++[q1+x1.Columns],t12,max 1 (l1.Width - indent1),l1.Width - l1.Turn⟩:Gpage_turner)) (t1_h0:=hd15) (t1_h1:=hd16) (t1_h2:=hd12) hq4) (.own (zad [1] (by kernel_rfl) rfl) (fun _ _ h=>sepL.one1.1 h) (.own (zad [2] (by kernel_rfl) rfl) (fun _ _ h=>sepL.one1.1 h) (.own (zad [3] (by kernel_rfl) rfl) (fun _ _ h=>sepL.one1.1 h) (.own (zad [4] (by kernel_rfl) rfl) (fun _ _ h=>sepL.one1.1 h) .nil)))) ?_
    refine zyN ?_
    refine zyB rfl h (fun h => ?_) (fun h => ?_)
    ·
     refine zav (zau (k:=0) zht rfl dc rfl rfl rfl (zaD rfl dc rfl (zab ziL rfl dc rfl (show _=3 from rfl) (zau (k:=1) zhh rfl dc rfl rfl rfl (zyR 1 rfl ?_)))))
     obtain ⟨q2,hq5,h⟩:=zbi h
     refine zaj (k:=4) hq5 Tryz.underlying49 zcs rfl dc rfl rfl rfl rfl (zaA (i:=(((t10++[x1]).length:Int) - 1:Int).toNat) (j:=0) (k:=4) (q:=q2) zbp zaQ rfl dc rfl rfl (zaz hq5) rfl dc rfl (zyR 1 rfl (zaO ?_)))
     exact zal (t11++[q1+x1.Columns],q2,hd15,hd16) h rfl (za0 rfl) (zad [0,1,2,3,4] kr rfl)
    refine zar ?_
    exact zal (t11++[q1+x1.Columns],(((t10++[x1]).length:Int) - 1)+1,hd15,hd16) h rfl (za0 rfl) (zad [0,1,2,3,4] kr rfl)
   rintro ⟨t13,end1,hd13,hd14⟩ h
   rw [hj2] at h
   obtain ⟨hg8,h⟩:=zbr h
   refine zgs 1 ?_
   refine let vals3:(Nat×Hd)→List (Nat×Nat×Value):=fun b=>[(0,76,zP b6),(1,77,zP b6),(2,78,zP b6),(3,79,.pointer (some ⟨b6,3,none⟩)),(4,80,hd12.v),(5,81,zI end1),(6,82,.slice (some ⟨b.1,0,none⟩) 1 1),(7,83,b.2.v)]; let LL3:(Nat→Prop)→(Nat×Hd)→List Asn:=fun D b=>[cells b7 [zP b6] 179,cells b6 [.string s1,hd13.v,hd14.v,hd12.v,zI (max 1 (l1.Width - indent1)),zI (l1.Width - l1.Turn)] 203,zv2 hd13.v (t10++[x1]),zv0 hd14.v t13,eD D (zv0 hd12.v t12) [(7,zv0 b.2.v (t12++[end1]))],eD D emp [(6,cells b.1 [zI end1] 3)]]; ?_
   refine zd3 (β:=Nat×Hd) 8 ((0:Nat),Hd.nil) vals3 LL3 mixed kr kr dc (fun _=>rfl) (zfL (zae zb7 (zae zb7 rfl))) (zaB ?_ (zaB ?_ (zaB ?_ (zaB ?_ (zaB ?_ (zaB ?_ (zaB ?_ (zaB ?_ DrawG.nil)))))))) ?_
   ·
    intro D b hn hd hcl
    obtain ⟨b12,hd17⟩:=b
    refine zaL (ztz rfl) (zau (k:=0) zht rfl dc (zbe (by rfl) rfl) rfl rfl ?_)
    exact zaW (b:=(b12,hd17)) (b12,hd17) 0 (by rfl) (by rfl) rfl (zi6 rfl) (zfL (zae (zap (by rfl)) (zae (zap (by rfl)) rfl)))
   ·
    intro D b hn hd hcl
    obtain ⟨b12,hd17⟩:=b
    refine zaL (zfL (zae (zak (fun hD=>hn (hcl 2 _ rfl (hcl 3 _ rfl (hcl 4 _ rfl (hcl 7 _ rfl hD 4 dc) 3 dc) 2 dc) 1 dc)) zaq) rfl)) ?_
    refine zau (k:=0) zht rfl dc (zbe (by rfl) rfl) rfl rfl ?_
    exact zaW (b:=(b12,hd17)) (b12,hd17) 1 (by rfl) (by rfl) rfl (zi6 rfl) (zfL (zae ((zap (by rfl)).trans (zak (fun hD=>hn (hcl 2 _ rfl (hcl 3 _ rfl (hcl 4 _ rfl (hcl 7 _ rfl hD 4 dc) 3 dc) 2 dc) 1 dc)) zaq)) (zae (zap (by rfl)) rfl)))
   ·
    intro D b hn hd hcl
    obtain ⟨b12,hd17⟩:=b
    refine zaL (zfL (zae (zak (fun hD=>hn (hcl 3 _ rfl (hcl 4 _ rfl (hcl 7 _ rfl hD 4 dc) 3 dc) 2 dc)) zaq) rfl)) ?_
    refine zaD rfl dc (zaa (m:=1) rfl rfl (hd 1 dc)) ?_
    exact zaW (b:=(b12,hd17)) (b12,hd17) 2 (by rfl) (by rfl) rfl (zi6 rfl) (zfL (zae ((zap (by rfl)).trans (zak (fun hD=>hn (hcl 3 _ rfl (hcl 4 _ rfl (hcl 7 _ rfl hD 4 dc) 3 dc) 2 dc)) zaq)) (zae (zap (by rfl)) rfl)))
   ·
    intro D b hn hd hcl
    obtain ⟨b12,hd17⟩:=b
    refine zaL (zfL (zae (zak (fun hD=>hn (hcl 4 _ rfl (hcl 7 _ rfl hD 4 dc) 3 dc)) zaq) rfl)) ?_
    refine zab ziL rfl dc (zaa (m:=2) rfl rfl (hd 2 dc)) (show _=3 from rfl) ?_
    exact zaW (b:=(b12,hd17)) (b12,hd17) 3 (by rfl) (by rfl) rfl (zi6 rfl) (zfL (zae ((zap (by rfl)).trans (zak (fun hD=>hn (hcl 4 _ rfl (hcl 7 _ rfl hD 4 dc) 3 dc)) zaq)) (zae (zap (by rfl)) rfl)))
   ·
    intro D b hn hd hcl
    obtain ⟨b12,hd17⟩:=b
    refine zaL (zfL (zae (zak (fun hD=>hn (hcl 7 _ rfl hD 4 dc)) zaq) rfl)) ?_
    refine zau (k:=1) zhh rfl dc (zaa (m:=3) rfl rfl (hd 3 dc)) rfl rfl ?_
    exact zaW (b:=(b12,hd17)) (b12,hd17) 4 (by rfl) (by rfl) rfl (zi6 rfl) (zfL (zae ((zap (by rfl)).trans (zak (fun hD=>hn (hcl 7 _ rfl hD 4 dc)) zaq)) (zae (zap (by rfl)) rfl)))
   ·
    intro D b hn hd hcl
    obtain ⟨b12,hd17⟩:=b
    refine zaL (zfL (zae (zak (fun hD=>hn (hcl 6 _ rfl (hcl 7 _ rfl hD 6 dc) 5 dc)) zaq) (zae (zak (fun hD=>hn (hcl 6 _ rfl hD 5 dc)) zaq) rfl))) ?_
    refine zeE rfl dc (zbe (by rfl) rfl) ?_
    exact zaW (b:=(b12,hd17)) (b12,hd17) 5 (by rfl) (by rfl) rfl (zi6 rfl) (zfL (zae ((zap (by rfl)).trans (zak (fun hD=>hn (hcl 6 _ rfl (hcl 7 _ rfl hD 6 dc) 5 dc)) zaq)) (zae ((zap (by rfl)).trans (zak (fun hD=>hn (hcl 6 _ rfl hD 5 dc)) zaq)) rfl)))
   ·
    intro D b hn hd hcl
    obtain ⟨zb0,hd17⟩:=b
    refine zaL (zfL (zae (zak (fun hD=>hn (hcl 7 _ rfl hD 6 dc)) zaq) (zae (zak hn zaq) rfl))) ?_
    refine zaV (cs:=[zI end1]) (te:=3) (ps:=[(0,.tmp 81)]) rfl dc (evP.cons (zaa (m:=5) rfl rfl (hd 5 dc)) evP.nil) (fun _=>by kernel_rfl) (fun b12 => ?_)
    refine zcU 5 rfl rfl ?_
    exact zaW (b:=(zb0,hd17)) (b12,hd17) 6 (by rfl) (by rfl) rfl (ztB (zas (fun hD=>absurd hD hn) (zas (fun _=>rfl) rfl))) (zfL (zae ((zap (by rfl)).trans (zak (fun hD=>hn (hcl 7 _ rfl hD 6 dc)) zaq)) (zae (zaM (Or.inr rfl) rfl) rfl)))
   ·
    intro D b hn hd hcl
    obtain ⟨b12,zb1⟩:=b
    refine zaL (zfL (zae (zak hn zaq) (zae (zaM (hd 6 dc) rfl) rfl))) ?_
    refine za4 (k:=4) (k2:=5) (ys:=[end1]) Tryz.underlying49 zpv zaQ zgC rfl dc (zaa (m:=4) rfl rfl (hd 4 dc)) (zaa (m:=6) rfl rfl (hd 6 dc)) rfl rfl rfl rfl hg8 (fun v3 => ?_)
    refine zby (k:=4) rfl (fun hd17 he3 => ?_)
    subst he3
    exact zaW (b:=(b12,zb1)) (b12,hd17) 7 (by rfl) (by rfl) rfl (zjP (zas (fun hD=>absurd hD hn) rfl)) (zfL (zae (zaM (Or.inr rfl) rfl) (zae ((zap (by rfl)).trans (zaM (hd 6 dc) rfl)) rfl)))
   intro D b hall
   obtain ⟨b12,hd17⟩:=b
   refine zaL (zfL (zae (zaM (hall 7 dc) rfl) (zae (zaM (hall 6 dc) rfl) rfl))) (zaD rfl dc rfl (zab ziL rfl dc rfl (show _=3 from rfl) ?_))
   refine zbb (k:=1) (l':=[.string s1,hd13.v,hd14.v,hd17.v,zI (max 1 (l1.Width - indent1)),zI (l1.Width - l1.Turn)]) zqt rfl rfl rfl rfl rfl (fun _ _=>rfl) rfl ?_
   refine zaO (zag ?_)
   exact zhS (t10++[x1],t13,t12++[end1],hd13,hd14,hd17) (fun post2 e2=>by have e9:=zgM hxs1 e2; subst e9; subst hag1; exact h) (zad [0,1,2,3,4] kr rfl)
  ·
   rintro dm1 ⟨t10,t11,t12,hd10,hd11,hd12⟩ hinv
   have h:dn1 t10 t11 t12=some r:=hinv [] (List.append_nil _).symm
   rw [hdn1] at h
   refine zim (k:=13) (j:=0) rfl rfl dc ?_
   refine zag ?_
   exact zal (t10,t11,t12,b7,b6,hd10,hd11,hd12,dm1::([]:List Nat)) h rfl (za0 rfl) (zad [8,9,10,11,12,0] kr rfl)
  rintro dm1 c pre x1 post g hxs hX
  exact (show False from hX).elim
 rintro ⟨t1,t2,t3,b1,b2,hd1,hd2,hd3,ds1⟩ h
 rw [hj1] at h
 refine zyG (zau (k:=0) zht rfl dc rfl rfl rfl (zyR 1 rfl (zyN (zaG ?_))))
 cases h
 exact zrK (rs:=[.tmp 6]) ds1 (b2,hd1,hd2,hd3) (.inl rfl) (zfd (k:=5) rfl) Tryz.results95 (.cons (.tmp rfl) .nil) rfl (zad [1,2,3,4] kr rfl)
def zdy (j1:Int→(List ByteArray)→Option ((List ByteArray)×Int)) (r1:Gpage_turner) (r2:((List Int)×Int)) (ag1:(List ByteArray)→Int→Int→Option ((List ByteArray)×Int)) (out4:List ByteArray) (from3:Int) (x3:Int):Option ((List ByteArray)×Int) :=
zay (decide ((x3:Int)<(r2.1.length:Int))) (
zah (zbm r2.1 x3) fun (q1:Int) =>
zah (zdN r1 from3 q1) fun (r3:ByteArray) =>
grd (out4.length+1≤2147483648) <|
grd (I64 (x3+1)) <|
ag1 (out4++[r3]) q1 (x3+1)
) (
j1 r2.2 out4
)
def ze4 (s1:ByteArray) (indent1:Int) (l1:Gapi_Layout):Option ((List ByteArray)×Int) :=
zbk (fun (j1:Int→(List ByteArray)→Option ((List ByteArray)×Int)) =>
zah (zei s1 indent1 l1) fun (r1:Gpage_turner) =>
zah (zdO r1) fun (r2:((List Int)×Int)) =>
zaE (fun _ _ _=>none) (zdy j1 r1 r2) zbN ([]:List ByteArray) 0 0
) (fun (cost1:Int) (out1:List ByteArray) =>
some (out1,cost1)
)
theorem zjF {s1:ByteArray} {indent1:Int} {l1:Gapi_Layout} {r:((List ByteArray)×Int)} (h:ze4 s1 indent1 l1=some r):Fn Tryz.prog 67 [.string s1,zI indent1,.agg (zr0 l1).toArray] [] (fun v0:Value=>.tuple #[v0,zI r.2]) (fun v0=>[zv5 v0 r.1]):=by
 unfold ze4 at h
 refine Fn.intro Tryz.func67 rfl Tryz.ntmps67 (by simp) ?_
 intro w0 K
 obtain ⟨j1,hj1,h⟩:=zbG h
 refine zaX (β:=Int×(List ByteArray)×Hd) 5 rfl (fun b=>j1 b.1 b.2.1=some r) (fun b=>[]) (fun b=>[(10,zI b.1),(11,b.2.2.v)]) (fun b=>[zv5 b.2.2.v b.2.1]) (fun cut => ?_) ?_
 ·
  refine zyG ?_
  refine zea rfl dc rfl (fun b1 => ?_)
  refine zyR 2 rfl (zyH (zyR 2 rfl (zbd (k:=0) (cs:=(zr0 l1)) zja rfl dc rfl rfl rfl rfl ?_)))
  obtain ⟨r1,hq1,h⟩:=zbi h
  refine zes (vs:=[.string s1,zI indent1,.agg (zr0 l1).toArray]) rfl dc rfl rfl rfl zw8 (zjd (l1:=l1) hq1) Splits.nil ?_
  rintro ⟨b2,hd2,hd3,hd4⟩
  refine zep (L':=[cells b1 (zr0 l1) 23,cells b2 [.string r1.s,hd2.v,hd3.v,hd4.v,zI r1.first,zI r1.rest] 203,zv2 hd2.v r1.cells,zv0 hd3.v r1.wide,zv0 hd4.v r1.ends]) (zad [0,1,2,3,4] kr rfl) (zyR 1 rfl (zyH (zyR 1 rfl ?_)))
  obtain ⟨r2,hq2,h⟩:=zbi h
  refine zft (vs:=[zP b2]) (Rd.nil:Rd _ _ []) rfl dc rfl rfl rfl zw7 (zie (bt1:=b2) (t1:=r1) (t1_h0:=hd2) (t1_h1:=hd3) (t1_h2:=hd4) hq2) Splits.nil (.own (zad [1] (by kernel_rfl) rfl) (fun _ _ h=>sepL.one1.1 h) (.own (zad [2] (by kernel_rfl) rfl) (fun _ _ h=>sepL.one1.1 h) (.own (zad [3] (by kernel_rfl) rfl) (fun _ _ h=>sepL.one1.1 h) (.own (zad [4] (by kernel_rfl) rfl) (fun _ _ h=>sepL.one1.1 h) .nil)))) ?_
  rintro v1
  refine zby (k:=5) rfl (fun hd5 he1 => ?_)
  subst he1
  refine zyR 1 rfl (zaN rfl dc rfl rfl (zaN rfl dc rfl rfl (zyR 2 rfl (zyH (zyR 1 rfl (zyH ?_))))))
  refine zyR 1 rfl (zyN (cut (zyG (zyR 1 rfl (zbg (k:=5) rfl dc rfl rfl Tryz.underlying49 (zyR 1 rfl (zyN (zaF (zcR (enc:=zqa) (e:=9) (size:=1) ?_)))))))))
  refine zbj (β:=Nat×(List ByteArray)×Int×Int×Hd) (fun b=>zaE (fun _ _ _=>none) (zdy j1 r1 r2) b.1 b.2.1 b.2.2.1 b.2.2.2.1=some r) (fun b=>[]) (fun b=>[(8,zP b2),(10,zI r2.2),(11,b.2.2.2.2.v),(12,zI b.2.2.1),(24,hd5.v),(25,zI (r2.1.length:Int)),(26,zI b.2.2.2.1)]) (fun b=>[cells b2 [.string r1.s,hd2.v,hd3.v,hd4.v,zI r1.first,zI r1.rest] 203,zv2 hd2.v r1.cells,zv0 hd3.v r1.wide,zv0 hd4.v r1.ends,zv5 b.2.2.2.2.v b.2.1,zv0 hd5.v r2.1]) (fun b=>b.1) (zbN,([]:List ByteArray),0,0,Hd.nil) h rfl (za0 rfl) (zad [1,2,3,4,6,5] kr rfl) ?_
  rintro ⟨n1,out4,from3,x3,hd8⟩ h
  cases n1 with
  | zero=>exact zdp h
  | succ n1 =>
   obtain ⟨ag1,hag1⟩:∃ ag,ag=zaE (fun _ _ _=>none) (zdy j1 r1 r2) n1:=⟨_,rfl⟩
   have h:zdy j1 r1 r2 ag1 out4 from3 x3=some r:=by rw [hag1]; exact h
   unfold zdy at h
   refine zyG (zaU rfl zbc (zyN (zaI ?_)))
   refine zyB rfl h (fun h => ?_) (fun h => ?_)
   ·
    refine zar (zaH (zaI (zaF (zyG ?_))))
    obtain ⟨q1,hq3,h⟩:=zbi h
    refine zaj (k:=5) hq3 Tryz.underlying49 zcs rfl dc rfl rfl rfl rfl (zaA (i:=(x3:Int).toNat) (j:=0) (k:=5) (q:=q1) zbp zaQ rfl dc rfl rfl (zaz hq3) rfl dc rfl (zyR 1 rfl (zyH (zyR 4 rfl ?_))))
    obtain ⟨r3,hq4,h⟩:=zbi h
    refine zch (v:=.string r3) (vs:=[zP b2,zI from3,zI q1]) (Rd.nil:Rd _ _ []) rfl dc rfl rfl rfl zw6 (zid (bt1:=b2) (t1:=r1) (t1_h0:=hd2) (t1_h1:=hd3) (t1_h2:=hd4) hq4) (.own (zad [0] (by kernel_rfl) rfl) (fun _ _ h=>sepL.one1.1 h) (.own (zad [1] (by kernel_rfl) rfl) (fun _ _ h=>sepL.one1.1 h) (.own (zad [2] (by kernel_rfl) rfl) (fun _ _ h=>sepL.one1.1 h) (.own (zad [3] (by kernel_rfl) rfl) (fun _ _ h=>sepL.one1.1 h) .nil)))) ?_
    refine zaV (cs:=[.string r3]) (te:=9) (ps:=[(0,.tmp 34)]) rfl dc rfl (fun _=>by kernel_rfl) (fun b3 => ?_)
    obtain ⟨hg1,h⟩:=zbr h
    refine za4 (k:=4) (k2:=6) (ys:=[r3]) Tryz.underlying70 zxN zg9 zm1 rfl dc rfl rfl rfl rfl rfl rfl hg1 (fun v2 => ?_)
    refine zby (k:=4) rfl (fun hd9 he2 => ?_)
    subst he2
    refine zyR 1 rfl (zyN (zav (zyR 2 rfl (zaO (zag (zaH (zav ?_)))))))
    obtain ⟨hg2,h⟩:=zbr h
    refine zaU rfl (zaR (r:=x3+1) (IntWalk.i64_in _ hg2)) (zyR 1 rfl (zaO ?_))
    subst hag1
    exact za1 (n1,out4++[r3],q1,x3+1,hd9) h (Nat.lt_succ_self _) rfl (za0 rfl) (zad [0,1,2,3,4,5] kr rfl)
   refine za3 (zan (zan (zax ?_)))
   exact zal (r2.2,out4,hd8) h rfl (za0 rfl) (zad [4] kr rfl)
 rintro ⟨cost1,out1,hd1⟩ h
 rw [hj1] at h
 refine zyG (zyR 4 rfl (zyN (zaG ?_)))
 cases h
 exact zaK (rs:=[.tmp 6,.tmp 7]) hd1.v (.inl rfl) Tryz.results67 (.cons (.tmp rfl) (.cons (.tmp rfl) .nil)) rfl (zad [0] kr rfl)
def zig (text1:ByteArray) (indent1:Int) (l1:Gapi_Layout):Option ((List ByteArray)×Int×Int) :=
zah (zf6 l1) fun (r1:Bool) =>
zay (!r1) (
some (([]:List ByteArray),0,2)
) (
zay (decide ((indent1:Int)<0)) (
some (([]:List ByteArray),0,2)
) (
zay (decide ((1024:Int)<indent1)) (
some (([]:List ByteArray),0,2)
) (
zay (decide ((1024:Int)<(text1.size:Int))) (
some (([]:List ByteArray),0,2)
) (
zah (ze4 text1 indent1 l1) fun (r2:((List ByteArray)×Int)) =>
some (r2.1,r2.2,0)
)
)
)
)
theorem znL {text1:ByteArray} {indent1:Int} {l1:Gapi_Layout} {r:((List ByteArray)×Int×Int)} (h:zig text1 indent1 l1=some r):Fn Tryz.prog 29 [.string text1,zI indent1,.agg (zr0 l1).toArray] [] (fun v0:Value=>.tuple #[v0,zI r.2.1,zI r.2.2]) (fun v0=>[zv5 v0 r.1]):=by
 unfold zig at h
 refine Fn.intro Tryz.func29 rfl Tryz.ntmps29 (by simp) ?_
 intro w0 K
 refine zyG ?_
 refine zea rfl dc rfl (fun b1 => ?_)
 refine zyR 3 rfl (zyN (zaI (zyG (zbd (k:=0) (cs:=(zr0 l1)) zja rfl dc rfl rfl rfl rfl ?_))))
 obtain ⟨r1,hq1,h⟩:=zbi h
 refine zbD (v:=.bool r1) (vs:=[.agg (zr0 l1).toArray]) rfl dc rfl rfl rfl zvT (zkD (l1:=l1) hq1) (zee rfl dc rfl zcN (zyR 1 rfl ?_))
 refine zyS (s:=14) rfl h (fun h => ?_) (fun h => ?_)
 ·
  refine zyR 12 rfl (zyN ?_)
  refine za5 rfl (zyG (zyR 3 rfl (zyN (zaG (zao (zdq (enc:=zqa) (e:=9) (size:=1) ?_))))))
  cases h
  exact zaK (rs:=[.tmp 6,.tmp 7,.tmp 8]) (.slice none 0 0) (.inl rfl) Tryz.results29 (.cons (.tmp rfl) (.cons (.tmp rfl) (.cons (.tmp rfl) .nil))) rfl (zad [1] kr rfl)
 refine zyR 1 rfl (zaU rfl zbc (zyR 2 rfl ?_))
 refine zyS (s:=18) rfl h (fun h => ?_) (fun h => ?_)
 ·
  refine zyR 8 rfl (zyN (za5 rfl (zyG (zyR 1 rfl ?_))))
  refine zyR 2 rfl (zyN (zaG (zao (zdq (enc:=zqa) (e:=9) (size:=1) ?_))))
  cases h
  exact zaK (rs:=[.tmp 6,.tmp 7,.tmp 8]) (.slice none 0 0) (.inl rfl) Tryz.results29 (.cons (.tmp rfl) (.cons (.tmp rfl) (.cons (.tmp rfl) .nil))) rfl (zad [1] kr rfl)
 refine zyR 1 rfl (zaU rfl zct (zyR 2 rfl ?_))
 refine zyS (s:=22) rfl h (fun h => ?_) (fun h => ?_)
 ·
  refine zyR 4 rfl (zyN (za5 rfl (zyG (zyR 3 rfl (zyN ?_)))))
  refine zaG (zao (zdq (enc:=zqa) (e:=9) (size:=1) ?_))
  cases h
  exact zaK (rs:=[.tmp 6,.tmp 7,.tmp 8]) (.slice none 0 0) (.inl rfl) Tryz.results29 (.cons (.tmp rfl) (.cons (.tmp rfl) (.cons (.tmp rfl) .nil))) rfl (zad [1] kr rfl)
 refine zyR 1 rfl (zcg rfl dc rfl Tryz.underlying9 (zaU rfl zct (zyR 1 rfl (zyN ?_))))
 refine zyB rfl h (fun h => ?_) (fun h => ?_)
 ·
  refine zyG (zyR 3 rfl (zyN (zaG (zao (zdq (enc:=zqa) (e:=9) (size:=1) ?_)))))
  cases h
  exact zaK (rs:=[.tmp 6,.tmp 7,.tmp 8]) (.slice none 0 0) (.inl rfl) Tryz.results29 (.cons (.tmp rfl) (.cons (.tmp rfl) (.cons (.tmp rfl) .nil))) rfl (zad [1] kr rfl)
 refine zar (zaH (zyG (zyR 2 rfl (zbd (k:=0) (cs:=(zr0 l1)) zja rfl dc rfl rfl rfl rfl ?_))))
 obtain ⟨r2,hq2,h⟩:=zbi h
 refine zes (vs:=[.string text1,zI indent1,.agg (zr0 l1).toArray]) rfl dc rfl rfl rfl zvS (zjF (l1:=l1) hq2) Splits.nil ?_
 rintro v1
 refine zyR 1 rfl (zaN rfl dc rfl rfl (zaN rfl dc rfl rfl (zyR 2 rfl (zyH (zyR 5 rfl ?_)))))
 refine zyN (zaG ?_)
 cases h
 exact zaK (rs:=[.tmp 6,.tmp 7,.tmp 8]) v1 (.inl rfl) Tryz.results29 (.cons (.tmp rfl) (.cons (.tmp rfl) (.cons (.tmp rfl) .nil))) rfl (zad [1] kr rfl)
end Go.Proofs.YtbempdelckaccaaGreatDoor

namespace Go.Proofs.YtbempdelckaccaaGreatDoor
open Go.RowKit Go.Lib
set_option linter.unusedVariables false
set_option linter.unusedSimpArgs false
abbrev zet:=Gapi_Cell
def spB (s:ByteArray) (c:zet):Bool:=if c.Span_To=c.Span_From+1 then zjg s c.Span_From==some 32 else false
def zdH (l:List zet):Int:=(l.map (·.Columns)).sum
theorem zhP (a b:List zet):zdH (a++b)=zdH a+zdH b:=by unfold zdH; rw [List.map_append,List.sum_append]
theorem zma (c:zet):zdH [c]=c.Columns:=by simp [zdH]
def eN (sp:zet→Bool) (l:List zet):Nat:=(l.reverse.dropWhile sp).length
theorem ztt (sp:zet→Bool):eN sp []=0:=rfl
theorem zhF (sp:zet→Bool) (l:List zet) (x:zet):eN sp (l++[x])=if sp x then eN sp l else l.length+1:=by
 unfold eN
 rw [List.reverse_append,List.reverse_singleton,List.singleton_append,List.dropWhile_cons]
 split
 ·rfl
 ·simp
theorem zn1 (sp:zet→Bool) (l:List zet):eN sp l≤l.length:=by
 unfold eN
 have:=(List.dropWhile_suffix sp (l:=l.reverse)).length_le
 rwa [List.length_reverse] at this
theorem zgL {α:Type} {l:List α} {k:Nat} {x:α} (h:l[k]?=some x):l.take (k+1)=l.take k++[x]:=by
 rw [List.take_add_one,h]; rfl
theorem zoE (sp:zet→Bool) (C:List zet):∀ (d k:Nat),eN sp (C.take k)≤eN sp (C.take (k+d))
 | 0,k=>Nat.le_refl _
 | d+1,k=>by
  refine Nat.le_trans (zoE sp C d k) ?_
  by_cases h:k+d<C.length
  ·rw [show k+(d+1)=k+d+1 by omega,zgL (List.getElem?_eq_getElem h),zhF]
   split
   ·exact Nat.le_refl _
   ·have:=zn1 sp (C.take (k+d)); omega
  ·rw [List.take_of_length_le (by omega),List.take_of_length_le (by omega)]; exact Nat.le_refl _
def wl (P:List zet):List Int:=(List.range (P.length+1)).map fun k=>zdH (P.take k)
def el (sp:zet→Bool) (P:List zet):List Int:=(List.range (P.length+1)).map fun k=>((eN sp (P.take k):Nat):Int)
theorem zqj (P:List zet) (k:Nat) (h:k≤P.length):(wl P)[k]?=some (zdH (P.take k)):=by
 unfold wl; rw [List.getElem?_map,List.getElem?_range (by omega)]; rfl
theorem zrv (sp:zet→Bool) (P:List zet) (k:Nat) (h:k≤P.length):(el sp P)[k]?=some ((eN sp (P.take k):Nat):Int):=by
 unfold el; rw [List.getElem?_map,List.getElem?_range (by omega)]; rfl
theorem zu8 (P:List zet):(wl P).length=P.length+1:=by unfold wl; simp
theorem zwd (sp:zet→Bool) (P:List zet):(el sp P).length=P.length+1:=by unfold el; simp
theorem zo2 {β:Type} (f:List zet→β) (P:List zet) (x:zet):(List.range ((P++[x]).length+1)).map (fun k=>f ((P++[x]).take k))=(List.range (P.length+1)).map (fun k=>f (P.take k))++[f (P++[x])]:=by
 rw [show (P++[x]).length+1=(P.length+1)+1 by simp,List.range_succ,List.map_append,List.map_singleton]
 congr 1
 ·refine List.map_congr_left fun k hk => ?_
  rw [List.take_append_of_le_length (by have:=List.mem_range.1 hk; omega)]
 ·rw [List.take_of_length_le (by simp)]
theorem ztI (P:List zet) (x:zet):wl (P++[x])=wl P++[zdH P+x.Columns]:=by
 unfold wl; rw [zo2 zdH,zhP,zma]
theorem zuD (sp:zet→Bool) (P:List zet) (x:zet):el sp (P++[x])=el sp P++[(((if sp x then eN sp P else P.length+1):Nat):Int)]:=by
 unfold el; rw [zo2 (fun l=>((eN sp l:Nat):Int)),zhF]
theorem Cov.mem:∀ {cs:List zet} {a b:Int},Cov a cs b→∀ c∈cs,a≤c.Span_From∧c.Span_From<c.Span_To∧c.Span_To≤b∧0≤c.Columns∧c.Columns≤2
 | [],a,b,_,c,hc=>by cases hc
 | d::cs,a,b,h,c,hc=>by
  obtain ⟨h1,h2,h3,h4⟩:=h
  have hle:∀ (cs:List zet) (a b:Int),Cov a cs b→a≤b:=by
   intro cs
   induction cs with
   | nil=>intro a b h; have:a=b:=h; omega
   | cons e es ih=>intro a b h; have:=ih _ _ h.2.2.2; have:=h.2.1; omega
  have:=hle _ _ _ h4
  rcases List.mem_cons.1 hc with rfl | hc
  ·exact ⟨by omega,by omega,this,h3.1,h3.2⟩
  ·have:=Cov.mem h4 c hc; omega
theorem zgV:∀ {l:List zet},(∀ c∈l,0≤c.Columns∧c.Columns≤2)→0≤zdH l∧zdH l≤2*l.length
 | [],_=>⟨Int.le_refl _,by simp [zdH]⟩
 | c::l,h=>by
  have h1:=h c (List.mem_cons_self ..)
  have h2:=zgV (l:=l) fun d hd=>h d (List.mem_cons_of_mem _ hd)
  have e:zdH (c::l)=c.Columns+zdH l:=by simp [zdH]
  rw [e,List.length_cons]; omega
theorem zqx (t:Gpage_turner) (k:Nat) (c:zet) (hc:t.cells[k]?=some c) (h0:0≤c.Span_From) (h1:c.Span_From<t.s.size) (hs:t.s.size≤100000):zcb t (k:Int)=some (spB t.s c):=by
 unfold zcb spB
 refine zaJ (zcj hc) (zbl ⟨by omega,by omega⟩ ?_)
 by_cases h:c.Span_To=c.Span_From+1
 ·rw [if_pos h]
  obtain ⟨m,hm⟩:∃ m:Nat,c.Span_From=m:=⟨c.Span_From.toNat,by omega⟩
  have hg:=zmT hm (show m<t.s.size by omega)
  refine zaC (zgt h) (zaJ hg ?_)
  rw [hg]
  show some _=some _
  congr 1
 ·rw [if_neg h]; exact zaw (zgD h) rfl
def zfx (s:ByteArray) (first rest:Int):Gpage_turner:=⟨s,zam s,wl (zam s),el (spB s) (zam s),first,rest⟩
theorem zq5 (s:ByteArray) (hs:s.size≤100000) (ind:Int) (l:Gapi_Layout) (C:List zet) (hC:∀ c∈C,0≤c.Span_From∧c.Span_From<(s.size:Int)∧0≤c.Columns∧c.Columns≤2) (hl:C.length≤100000) (d:List zet→List Int→List Int→Option Gpage_turner) :
  ∀ (xs P:List zet),C=P++xs→zev d (zcG s ind l) xs P (wl P) (el (spB s) P)=d C (wl C) (el (spB s) C)
 | [],P,h=>by rw [List.append_nil] at h; subst h; rfl
 | x::xs,P,h=>by
  have ih:=zq5 s hs ind l C hC hl d xs (P++[x]) (by rw [h]; simp)
  obtain ⟨c1,c2,c3,c4⟩:=hC x (by rw [h]; simp)
  have hPl:P.length+1+xs.length=C.length:=by rw [h]; simp; omega
  have hPs:=zgV (l:=P) fun c hc=>by have:=hC c (by rw [h]; simp [hc]); omega
  rw [zg2]
  generalize zev d (zcG s ind l) xs=ag at ih ⊢
  unfold zcG
  have e1:((P++[x]).length:Int) - 1=(P.length:Int):=by simp
  have hg1:zbm (wl P) (P.length:Int)=some (zdH P):=by
   have:=zcj (zqj P P.length (Nat.le_refl _)); rwa [List.take_length] at this
  have hg2:zbm (el (spB s) P) (P.length:Int)=some ((eN (spB s) P:Nat):Int):=by
   have:=zcj (zrv (spB s) P P.length (Nat.le_refl _)); rwa [List.take_length] at this
  have hwl:=zu8 P
  have hel:=zwd (spB s) P
  refine zbs (zbl (by omega) ?_)
  rw [e1]
  refine zbl ⟨by omega,by omega⟩ (zaJ hg1 (zbl ⟨by omega,by omega⟩ (zbl (by omega) (zbl ⟨by omega,by omega⟩ ?_))))
  refine zaJ (zqx ⟨s,P++[x],wl P++[zdH P+x.Columns],el (spB s) P,max 1 (l.Width - ind),l.Width - l.Turn⟩ P.length x (by simp) c1 c2 hs) ?_
  rw [← ih,ztI,zuD]
  show zay (spB s x) _ _=_
  cases hsp:spB s x with
  | true=>exact zaC rfl (zaJ hg2 (zbl (by omega) rfl))
  | false=>exact zaw rfl (zbl (by omega) rfl)
theorem zov (s:ByteArray) (hs:s.size≤100000) (ind:Int) (l:Gapi_Layout) (h1:I64 (l.Width - ind)) (h2:I64 (l.Width - l.Turn)):zei s ind l=some (zfx s (max 1 (l.Width - ind)) (l.Width - l.Turn)):=by
 unfold zei
 refine zbs (zbl h1 (zbl h2 (zaJ rfl (zaJ (zwi s (by omega)) (zbs ?_)))))
 have hl:=zhQ s
 have hm:=(zeM s).mem
 have:=zq5 s hs ind l (zam s) (fun c hc=>by have:=hm c hc; omega) (by omega) (fun t10 t11 t12=>some (⟨s,t10,t11,t12,max 1 (l.Width - ind),l.Width - l.Turn⟩:Gpage_turner)) (zam s) [] rfl
 exact this
def zju (sp:zet→Bool) (C:List zet) (f t:Nat):Int:=zdH (C.take (max f (eN sp (C.take t)))) - zdH (C.take f)
def ze0 (a b:Int) (f:Nat):Int:=if f=0 then a else b
def zjB (sp:zet→Bool) (C:List zet) (k:Nat):Bool:=match C[k]? with | some c=>sp c | none=>false
def znB (sp:zet→Bool) (C:List zet) (a b:Int) (f t:Nat):Bool:=!(decide (0<f)&&zjB sp C f)&&(decide (zju sp C f t≤ze0 a b f)||decide (eN sp (C.take t)≤f+1))
def zn7 (sp:zet→Bool) (C:List zet) (a b:Int) (f t:Nat):Int:=(if 0<ze0 a b f - zju sp C f t then (ze0 a b f - zju sp C f t)*(ze0 a b f - zju sp C f t) else 0)+(if zjB sp C (t - 1) then 0 else 1000)
theorem zoo {s:ByteArray} {a b:Int} (f:Nat):zcu (zfx s a b) (f:Int)=some (ze0 a b f):=by
 unfold zcu ze0
 by_cases h:f=0
 ·rw [if_pos h]; exact zaC (zgt (by omega)) rfl
 ·rw [if_neg h]; exact zaw (zgD (by omega)) rfl
theorem zmF {a b:Int} (ha:0≤a∧a≤1000000) (hb:0≤b∧b≤1000000) (f:Nat):0≤ze0 a b f∧ze0 a b f≤1000000:=by unfold ze0; split <;> omega
section
variable {s:ByteArray} {a b:Int} (hs:s.size≤100000) (ha:0≤a∧a≤1000000) (hb:0≤b∧b≤1000000)
include hs
theorem zh3:(zam s).length≤100000:=Nat.le_trans (zhQ s) hs
theorem zpx (k:Nat):0≤zdH ((zam s).take k)∧zdH ((zam s).take k)≤200000:=by
 have hm:=(zeM s).mem
 have hl:=zh3 hs
 have:=zgV (l:=(zam s).take k) fun c hc=>by have:=hm c (List.mem_of_mem_take hc); omega
 have hk:((zam s).take k).length≤(zam s).length:=by rw [List.length_take]; omega
 omega
theorem zjt (f t:Nat) (hf:f≤t) (ht:t≤(zam s).length):zb9 (zfx s a b) (f:Int) (t:Int)=some (zju (spB s) (zam s) f t):=by
 unfold zb9
 have he:=zn1 (spB s) ((zam s).take t)
 rw [List.length_take] at he
 have h1:=zpx hs (max f (eN (spB s) ((zam s).take t)))
 have h2:=zpx hs f
 refine zaJ (zcj (zrv (spB s) (zam s) t ht)) (zaJ (zdk (n:=max f (eN (spB s) ((zam s).take t))) (by omega) (zqj _ _ (by omega))) (zaJ (zcj (zqj _ f (by omega))) (zbl ⟨by omega,by omega⟩ rfl)))
theorem zo6 (k:Nat) (hk:k<(zam s).length):zcb (zfx s a b) (k:Int)=some (zjB (spB s) (zam s) k):=by
 have hx:(zam s)[k]?=some (zam s)[k]:=List.getElem?_eq_getElem hk
 have:=(zeM s).mem _ (List.mem_of_getElem? hx)
 unfold zjB
 rw [hx]
 exact zqx (zfx s a b) k _ hx (by omega) (by show _<(s.size:Int); omega) hs
theorem zvw (f t:Nat) (hf:f<t) (ht:t≤(zam s).length):zd5 (zfx s a b) (f:Int) (t:Int)=some (znB (spB s) (zam s) a b f t):=by
 unfold zd5 znB
 have hle:=zh3 hs
 have tail:(zah (zb9 (zfx s a b) (f:Int) (t:Int)) fun (r2:Int)=>zah (zcu (zfx s a b) (f:Int)) fun (r3:Int)=>zay (decide ((r2:Int)≤r3)) (some true) (zah (zbm (zfx s a b).ends (t:Int)) fun (q1:Int)=>grd (I64 ((f:Int)+1))<|some (decide ((q1:Int)≤((f:Int)+1))))) =
   some (decide (zju (spB s) (zam s) f t≤ze0 a b f)||decide (eN (spB s) ((zam s).take t)≤f+1)):=by
  refine zaJ (zjt hs f t (by omega) ht) (zaJ (zoo f) ?_)
  by_cases h:zju (spB s) (zam s) f t≤ze0 a b f
  ·rw [decide_eq_true h]; exact zaC rfl rfl
  ·rw [decide_eq_false h]
   refine zaw rfl (zaJ (zcj (zrv (spB s) (zam s) t ht)) (zbl ⟨by omega,by omega⟩ ?_))
   rw [Bool.false_or]
   congr 1
   by_cases h2:eN (spB s) ((zam s).take t)≤f+1
   ·rw [decide_eq_true h2,decide_eq_true (by omega)]
   ·rw [decide_eq_false h2,decide_eq_false (by omega)]
 refine zbs ?_
 by_cases h0:0<f
 ·rw [decide_eq_true h0]
  refine zaC (decide_eq_true (by omega)) (zaJ (zo6 hs f (by omega)) ?_)
  cases zjB (spB s) (zam s) f with
  | true=>exact zaC rfl rfl
  | false=>exact zaw rfl tail
 ·rw [decide_eq_false h0]
  exact zaw (decide_eq_false (by omega)) tail
theorem zna (f t:Nat) : -200000≤zju (spB s) (zam s) f t∧zju (spB s) (zam s) f t≤200000:=by
 have h1:=zpx hs (max f (eN (spB s) ((zam s).take t)))
 have h2:=zpx hs f
 unfold zju; omega
include ha hb
theorem zfT (f t:Nat):0≤zn7 (spB s) (zam s) a b f t∧zn7 (spB s) (zam s) a b f t≤2000000000000:=by
 have h1:=zmF ha hb f
 have h2:=zna hs f t
 have hz:ze0 a b f - zju (spB s) (zam s) f t≤1200000:=by omega
 have hq:(if zjB (spB s) (zam s) (t - 1) then (0:Int) else 1000)≤1000∧0≤(if zjB (spB s) (zam s) (t - 1) then (0:Int) else 1000):=by split <;> omega
 unfold zn7
 generalize ze0 a b f - zju (spB s) (zam s) f t=z at *
 by_cases h:0<z
 ·rw [if_pos h]
  have g1:0≤z*z:=Int.mul_nonneg (by omega) (by omega)
  have g2:z*z≤1200000*1200000:=Int.mul_le_mul hz hz (by omega) (by omega)
  omega
 ·rw [if_neg h]; omega
theorem zuE (f t:Nat) (hf:f<t) (ht:t≤(zam s).length):zdP (zfx s a b) (f:Int) (t:Int)=some (zn7 (spB s) (zam s) a b f t):=by
 have h1:=zmF ha hb f
 have h2:=zna hs f t
 have h3:=zfT hs ha hb f t
 have hle:=zh3 hs
 unfold zdP
 refine zbs (zaJ (zoo f) (zaJ (zjt hs f t (by omega) ht) (zbl ⟨by omega,by omega⟩ ?_)))
 have tail:∀ n:Int,0≤n→n≤2000000000000→zbk (fun (j2:Int→Option Int)=>grd (I64 ((t:Int) - 1))<|zah (zcb (zfx s a b) ((t:Int) - 1)) fun (r3:Bool)=>zay (!r3) (grd (I64 (n+1000))<|j2 (n+1000)) (j2 n)) (fun (n2:Int)=>some n2)=some (n+(if zjB (spB s) (zam s) (t - 1) then 0 else 1000)):=by
  intro n hn1 hn2
  have hsp:=zo6 (a:=a) (b:=b) hs (t - 1) (by omega)
  rw [show (((t - 1:Nat)):Int)=(t:Int) - 1 by omega] at hsp
  refine zbs (zbl ⟨by omega,by omega⟩ (zaJ hsp ?_))
  cases zjB (spB s) (zam s) (t - 1) with
  | true=>exact zaw rfl (congrArg some (Int.add_zero n).symm)
  | false=>exact zaC rfl (zbl ⟨by omega,by omega⟩ rfl)
 unfold zn7 at h3 ⊢
 have hq:(if zjB (spB s) (zam s) (t - 1) then (0:Int) else 1000)≤1000∧0≤(if zjB (spB s) (zam s) (t - 1) then (0:Int) else 1000):=by split <;> omega
 by_cases h:0<ze0 a b f - zju (spB s) (zam s) f t
 ·rw [if_pos h] at h3 ⊢
  have hm:0≤(ze0 a b f - zju (spB s) (zam s) f t)*(ze0 a b f - zju (spB s) (zam s) f t):=Int.mul_nonneg (by omega) (by omega)
  refine zaC (decide_eq_true h) (zbl ⟨by omega,by omega⟩ (tail _ hm (by omega)))
 ·rw [if_neg h]
  exact zaw (decide_eq_false h) (tail 0 (by omega) (by omega))
end
end Go.Proofs.YtbempdelckaccaaGreatDoor

namespace Go.Proofs.YtbempdelckaccaaGreatDoor
open Go.RowKit Go.Lib
set_option linter.unusedVariables false
set_option linter.unusedSimpArgs false
abbrev Bst:=Gpage_best
def b0:Bst:=⟨0,0,0⟩
def bm:Bst:=⟨0,-1,0⟩
section
variable (R:Nat→Nat→Bool) (K:Nat→Nat→Int) (n:Nat)
def zfv (T:Nat→Bst) (f t:Nat):Option Bst :=
 if R f t then (if t<n then (if (T t).rows<0 then none else some ⟨K f t+(T t).cost,(T t).rows+1,(t:Int)⟩) else some ⟨0,1,(t:Int)⟩) else none
def zoj (x:Bst):Option Bst→Bst
 | none=>x
 | some y=>if x.rows<0∨y.cost<x.cost∨(y.cost=x.cost∧y.rows≤x.rows) then y else x
def zeA (T:Nat→Bst) (f:Nat):Nat→Nat→Bst→Bst
 | 0,_,x=>x
 | d+1,t,x=>zeA T f d (t+1) (zoj x (zfv R K n T f t))
def Bf:Nat→Nat→Bst
 | 0,_=>b0
 | k+1,f=>if f+(k+1)=n then zeA R K n (Bf k) f (n - f) (f+1) bm else Bf k f
end
section
variable {R:Nat→Nat→Bool} {K:Nat→Nat→Int} {n:Nat}
theorem zjh {T:Nat→Bst} {f:Nat}:∀ (d t:Nat) (x:Bst),(∀ t',t≤t'→t'<t+d→zfv R K n T f t'=none)→zeA R K n T f d t x=x
 | 0,t,x,_=>rfl
 | d+1,t,x,h=>by
  unfold zeA
  rw [h t (Nat.le_refl _) (by omega)]
  exact zjh d (t+1) x fun t' h1 h2=>h t' (by omega) (by omega)
theorem zgJ (x y:Bst):zoj x (some y)=if x.rows<0∨y.cost<x.cost∨(y.cost=x.cost∧y.rows≤x.rows) then y else x:=rfl
theorem ztJ (x:Bst) (c:Option Bst):zoj x c=x∨c=some (zoj x c):=by
 cases c with
 | none=>exact .inl rfl
 | some y =>
  rw [zgJ]
  split
  ·exact .inr rfl
  ·exact .inl rfl
theorem zkO {T:Nat→Bst} {f:Nat}:∀ (d t:Nat) (x:Bst),zeA R K n T f d t x=x∨∃ t',t≤t'∧t'<t+d∧zfv R K n T f t'=some (zeA R K n T f d t x)
 | 0,t,x=>.inl rfl
 | d+1,t,x=>by
  unfold zeA
  rcases zkO (T:=T) (f:=f) d (t+1) (zoj x (zfv R K n T f t)) with h | ⟨t',h1,h2,h3⟩
  ·rw [h]
   rcases ztJ x (zfv R K n T f t) with h' | h'
   ·exact .inl h'
   ·exact .inr ⟨t,Nat.le_refl _,by omega,h'⟩
  ·exact .inr ⟨t',by omega,by omega,h3⟩
def le1 (x y:Bst):Prop:=0≤x.rows∧x.cost≤y.cost
theorem ztK {x y:Bst} (h:0≤x.rows) {c:Option Bst} (hc:∀ y,c=some y→0≤y.rows):le1 (zoj x c) x:=by
 cases c with
 | none=>exact ⟨h,Int.le_refl _⟩
 | some y =>
  have hy:=hc y rfl
  rw [zgJ]
  split
  ·exact ⟨hy,by omega⟩
  ·exact ⟨h,Int.le_refl _⟩
theorem zsc {x y:Bst} (hy:0≤y.rows):le1 (zoj x (some y)) y:=by
 rw [zgJ]
 split
 ·exact ⟨hy,Int.le_refl _⟩
 ·exact ⟨by omega,by omega⟩
theorem zmU {T:Nat→Bst} {f:Nat} (hT:∀ t y,zfv R K n T f t=some y→0≤y.rows):∀ (d t:Nat) (x:Bst),(0≤x.rows→le1 (zeA R K n T f d t x) x)∧∀ t' y,t≤t'→t'<t+d→zfv R K n T f t'=some y→le1 (zeA R K n T f d t x) y
 | 0,t,x=>⟨fun h=>⟨h,Int.le_refl _⟩,fun t' y h1 h2=>by omega⟩
 | d+1,t,x=>by
  have ih:=zmU hT d (t+1) (zoj x (zfv R K n T f t))
  unfold zeA
  refine ⟨fun h => ?_,fun t' y h1 h2 hc => ?_⟩
  ·have h1:=ztK (y:=x) h (hT t)
   have h2:=ih.1 h1.1
   exact ⟨h2.1,Int.le_trans h2.2 h1.2⟩
  ·by_cases e:t'=t
   ·subst e
    have hy:=hT t' y hc
    have h1:le1 (zoj x (zfv R K n T f t')) y:=by rw [hc]; exact zsc hy
    have h2:=ih.1 h1.1
    exact ⟨h2.1,Int.le_trans h2.2 h1.2⟩
   ·exact ih.2 t' y (by omega) (by omega) hc
theorem zfu (k f:Nat):Bf R K n (k+1) f=if f+(k+1)=n then zeA R K n (Bf R K n k) f (n - f) (f+1) bm else Bf R K n k f:=rfl
theorem zrS:∀ (k f:Nat),f+k<n→Bf R K n k f=b0
 | 0,f,_=>rfl
 | k+1,f,h=>by rw [zfu,if_neg (by omega)]; exact zrS k f (by omega)
theorem zoW:∀ (k j f:Nat),n≤f+k→Bf R K n (k+j) f=Bf R K n k f
 | k,0,f,_=>rfl
 | k,j+1,f,h=>by
  rw [show k+(j+1)=(k+j)+1 by omega,zfu,if_neg (by omega)]
  exact zoW k j f h
def BB (R:Nat→Nat→Bool) (K:Nat→Nat→Int) (n:Nat):Nat→Bst:=Bf R K n n
theorem zp1 {T T':Nat→Bst} {f t:Nat} (h:T t=T' t):zfv R K n T f t=zfv R K n T' f t:=by unfold zfv; rw [h]
theorem zkP {T T':Nat→Bst} {f:Nat}:∀ (d t:Nat) (x:Bst),(∀ t',t≤t'→t'<t+d→T t'=T' t')→zeA R K n T f d t x=zeA R K n T' f d t x
 | 0,t,x,_=>rfl
 | d+1,t,x,h=>by
  unfold zeA
  rw [zp1 (h t (Nat.le_refl _) (by omega))]
  exact zkP d (t+1) _ fun t' h1 h2=>h t' (by omega) (by omega)
theorem zws {f:Nat} (h:f<n):BB R K n f=zeA R K n (BB R K n) f (n - f) (f+1) bm:=by
 have h1:Bf R K n n f=Bf R K n (n - f) f:=by
  have:=zoW (R:=R) (K:=K) (n:=n) (n - f) f f (by omega)
  rwa [show n - f+f=n by omega] at this
 unfold BB
 rw [h1]
 obtain ⟨k,hk⟩:∃ k,n - f=k+1:=⟨n - f - 1,by omega⟩
 rw [hk]
 rw [zfu,if_pos (by omega),hk]
 refine zkP _ _ _ fun t' h1 h2 => ?_
 have:=zoW (R:=R) (K:=K) (n:=n) k (n - k) t' (by omega)
 rw [show k+(n - k)=n by omega] at this
 exact this.symm
def okB (k:Nat) (x:Bst):Prop:=0≤x.cost∧x.cost≤2000000000000*k∧-1≤x.rows∧x.rows≤k
theorem zhb {T:Nat→Bst} {f t k:Nat} {y:Bst} (hK:∀ f t,0≤K f t∧K f t≤2000000000000) (hT:∀ t,okB k (T t)) (h:zfv R K n T f t=some y):okB (k+1) y∧0≤y.rows:=by
 unfold zfv at h
 have h1:=hK f t
 obtain ⟨t1,t2,t3,t4⟩:=hT t
 split at h
 ·split at h
  ·split at h
   ·cases h
   ·cases h
    refine ⟨⟨?_,?_,?_,?_⟩,?_⟩ <;> (try simp only) <;> (try push_cast) <;> (try omega)
  ·cases h
   refine ⟨⟨?_,?_,?_,?_⟩,?_⟩ <;> (try simp only) <;> (try push_cast) <;> (try omega)
 ·cases h
theorem zq2 (k:Nat):okB k bm:=⟨Int.le_refl _,by show (0:Int)≤_; omega,Int.le_refl _,by show (-1:Int)≤_; omega⟩
theorem zsw {k j:Nat} {x:Bst} (h:okB k x) (hj:k≤j):okB j x:=by obtain ⟨h1,h2,h3,h4⟩:=h; exact ⟨h1,by omega,h3,by omega⟩
theorem zsG {T:Nat→Bst} {f k:Nat} (hK:∀ f t,0≤K f t∧K f t≤2000000000000) (hT:∀ t,okB k (T t)) (d t:Nat) {x:Bst} (hx:okB (k+1) x):okB (k+1) (zeA R K n T f d t x):=by
 rcases zkO (R:=R) (K:=K) (n:=n) (T:=T) (f:=f) d t x with h | ⟨t',_,_,h⟩
 ·rw [h]; exact hx
 ·exact (zhb hK hT h).1
theorem zjX (hK:∀ f t,0≤K f t∧K f t≤2000000000000):∀ (k f:Nat),okB k (Bf R K n k f)
 | 0,f=>by show okB 0 b0; unfold okB b0; simp
 | k+1,f=>by
  rw [zfu]
  split
  ·exact zsG hK (zjX hK k) _ _ (zq2 _)
  ·exact zsw (zjX hK k f) (by omega)
theorem zuS (hK:∀ f t,0≤K f t∧K f t≤2000000000000) {f t:Nat} {y:Bst} (h:zfv R K n (BB R K n) f t=some y):0≤y.rows:=(zhb hK (zjX hK n) h).2
theorem zwq (hK:∀ f t,0≤K f t∧K f t≤2000000000000) {f:Nat} (hf:f<n) (hr:0≤(BB R K n f).rows):∃ t:Nat,(BB R K n f).to_=(t:Int)∧f<t∧t≤n∧R f t=true∧(t<n→0≤(BB R K n t).rows∧(BB R K n f).cost=K f t+(BB R K n t).cost)∧(t=n→(BB R K n f).cost=0):=by
 have he:=zws (R:=R) (K:=K) hf
 rcases zkO (R:=R) (K:=K) (n:=n) (T:=BB R K n) (f:=f) (n - f) (f+1) bm with h | ⟨t,h1,h2,h3⟩
 ·rw [← he] at h; rw [h] at hr; exact absurd hr (by decide)
 ·rw [← he] at h3
  generalize BB R K n f=x at h3 hr ⊢
  refine ⟨t,?_⟩
  unfold zfv at h3
  by_cases hR:R f t=true
  ·rw [if_pos hR] at h3
   by_cases ht:t<n
   ·rw [if_pos ht] at h3
    by_cases hn:(BB R K n t).rows<0
    ·rw [if_pos hn] at h3; cases h3
    ·rw [if_neg hn] at h3
     cases h3
     exact ⟨rfl,by omega,by omega,hR,fun _=>⟨by omega,rfl⟩,fun h=>by omega⟩
   ·rw [if_neg ht] at h3
    cases h3
    exact ⟨rfl,by omega,by omega,hR,fun h=>absurd h ht,fun _=>rfl⟩
  ·rw [if_neg hR] at h3; cases h3
theorem zwr (hK:∀ f t,0≤K f t∧K f t≤2000000000000) {f t:Nat} (hf:f<t) (ht:t≤n) (hR:R f t=true):(t=n→0≤(BB R K n f).rows∧(BB R K n f).cost≤0)∧(t<n→0≤(BB R K n t).rows→0≤(BB R K n f).rows∧(BB R K n f).cost≤K f t+(BB R K n t).cost):=by
 have he:=zws (R:=R) (K:=K) (show f<n by omega)
 have hl:=(zmU (R:=R) (K:=K) (n:=n) (T:=BB R K n) (f:=f) (fun t y h=>zuS hK h) (n - f) (f+1) bm).2
 rw [← he] at hl
 refine ⟨fun e => ?_,fun h hr => ?_⟩
 ·have hc:zfv R K n (BB R K n) f t=some ⟨0,1,(t:Int)⟩:=by unfold zfv; rw [if_pos hR,if_neg (by omega)]
  exact hl t _ (by omega) (by omega) hc
 ·have hc:zfv R K n (BB R K n) f t=some ⟨K f t+(BB R K n t).cost,(BB R K n t).rows+1,(t:Int)⟩:=by unfold zfv; rw [if_pos hR,if_pos h,if_neg (by omega)]
  exact hl t _ (by omega) (by omega) hc
end
theorem zvM {R T:Type} {t:T→Option R} {k:T} {x:Option R} (Q:T→Prop) (hk:Q k) (h:∀ j,Q j→t j=x):zbk t k=x:=h k hk
section
variable {s:ByteArray} {a b:Int} (hs:s.size≤100000) (ha:0≤a∧a≤1000000) (hb:0≤b∧b≤1000000)
abbrev Rs (s:ByteArray) (a b:Int):Nat→Nat→Bool:=znB (spB s) (zam s) a b
abbrev Ks (s:ByteArray) (a b:Int):Nat→Nat→Int:=zn7 (spB s) (zam s) a b
def zff (T:Nat→Bst) (n:Nat):List Bst:=(List.range (n+1)).map T
theorem zeF (T:Nat→Bst) (n k:Nat) (h:k≤n):(zff T n)[k]?=some (T k):=by unfold zff; rw [List.getElem?_map,List.getElem?_range (by omega)]; rfl
theorem zgw (T:Nat→Bst) (n:Nat):(zff T n).length=n+1:=by unfold zff; simp
theorem zrB (sp:zet→Bool) (C:List zet) (hC:∀ c∈C,0≤c.Columns∧c.Columns≤2) (f t d:Nat):zju sp C f t≤zju sp C f (t+d):=by
 have he:=zoE sp C d t
 unfold zju
 have key:∀ i j:Nat,i≤j→zdH (C.take i)≤zdH (C.take j):=by
  intro i j h
  have:C.take j=C.take i++(C.take j).drop i:=by
   have:=(List.take_append_drop i (C.take j)).symm
   rwa [List.take_take,show min i j=i by omega] at this
  rw [this,zhP]
  have:=zgV (l:=(C.take j).drop i) fun c hc=>hC c (List.mem_of_mem_take (List.mem_of_mem_drop hc))
  omega
 have:=key (max f (eN sp (C.take t))) (max f (eN sp (C.take (t+d)))) (by omega)
 omega
theorem zt3 (sp:zet→Bool) (C:List zet) (hC:∀ c∈C,0≤c.Columns∧c.Columns≤2) {f t:Nat} (h:znB sp C a b f t=false) (h2:ze0 a b f<zju sp C f t) (d:Nat):znB sp C a b f (t+d)=false:=by
 have hm:=zrB sp C hC f t d
 have he:=zoE sp C d t
 unfold znB at h ⊢
 cases h0:(decide (0<f)&&zjB sp C f) with
 | true=>rfl
 | false =>
  rw [h0] at h
  simp only [Bool.not_false,Bool.true_and,Bool.or_eq_false_iff,decide_eq_false_iff_not] at h ⊢
  omega
theorem zsg {α:Type} {l:List α} {i:Nat} {x:α} (h:l[i]?=some x):l.set i x=l:=by
 apply List.ext_getElem?
 intro j
 by_cases e:i=j
 ·subst e; rw [List.getElem?_set_self (List.getElem?_eq_some_iff.1 h).1,h]
 ·rw [List.getElem?_set_ne e]
include hs ha hb
theorem zt1 (k f:Nat) (hf:f<(zam s).length) (hk:k≤100000) (j2:List Bst→Option ((List Int)×Int)) :
  ∀ (d t m:Nat) (x:Bst),f<t→t+d=(zam s).length+1→d<m→okB (k+1) x→zaE (fun _ _=>none) (zbW (zfx s a b) (f:Int) j2) m ((zff (Bf (Rs s a b) (Ks s a b) (zam s).length k) (zam s).length).set f x) (t:Int) =
   j2 ((zff (Bf (Rs s a b) (Ks s a b) (zam s).length k) (zam s).length).set f (zeA (Rs s a b) (Ks s a b) (zam s).length (Bf (Rs s a b) (Ks s a b) (zam s).length k) f d t x)):=by
 have hle:=zh3 hs
 have hK:=zfT hs ha hb
 have hcol:∀ c∈zam s,0≤c.Columns∧c.Columns≤2:=fun c hc=>by have:=(zeM s).mem c hc; omega
 have hok:=zjX (R:=Rs s a b) (K:=Ks s a b) (n:=(zam s).length) hK k
 intro d
 induction d with
 | zero =>
  intro t m x hft htd hm hx
  obtain ⟨m,rfl⟩:∃ q,m=q+1:=⟨m - 1,by omega⟩
  rw [zb5]
  generalize zaE (fun _ _=>none) (zbW (zfx s a b) (f:Int) j2) m=ag
  unfold zbW
  exact zaw (decide_eq_false (by show ¬ ((t:Int)≤((zam s).length:Int)); omega)) rfl
 | succ d ih =>
  intro t m x hft htd hm hx
  obtain ⟨m,rfl⟩:∃ q,m=q+1:=⟨m - 1,by omega⟩
  have ih':=fun y hy=>ih (t+1) m y (by omega) (by omega) (by omega) hy
  rw [zb5]
  generalize zaE (fun _ _=>none) (zbW (zfx s a b) (f:Int) j2) m=ag at ih' ⊢
  have hn1:((t+1:Nat):Int)=(t:Int)+1:=by omega
  rw [hn1] at ih'
  unfold zbW
  have htl:=zgw (Bf (Rs s a b) (Ks s a b) (zam s).length k) (zam s).length
  have hgt:∀ y:Bst,zbm ((zff (Bf (Rs s a b) (Ks s a b) (zam s).length k) (zam s).length).set f y) (t:Int)=some (Bf (Rs s a b) (Ks s a b) (zam s).length k t):=fun y=>zcj (by rw [List.getElem?_set_ne (by omega)]; exact zeF _ _ _ (by omega))
  have hgf:∀ y:Bst,zbm ((zff (Bf (Rs s a b) (Ks s a b) (zam s).length k) (zam s).length).set f y) (f:Int)=some y:=fun y=>zcj (by rw [List.getElem?_set_self (by omega)])
  have hnext:∀ y,okB (k+1) y→(grd (I64 ((t:Int)+1))<|ag ((zff (Bf (Rs s a b) (Ks s a b) (zam s).length k) (zam s).length).set f y) ((t:Int)+1))=j2 ((zff (Bf (Rs s a b) (Ks s a b) (zam s).length k) (zam s).length).set f (zeA (Rs s a b) (Ks s a b) (zam s).length (Bf (Rs s a b) (Ks s a b) (zam s).length k) f d (t+1) y)):=fun y hy=>zbl ⟨by omega,by omega⟩ (ih' y hy)
  refine zaC (decide_eq_true (by show (t:Int)≤((zam s).length:Int); omega)) (zbs (zaJ (zvw hs f t hft (by omega)) ?_))
  unfold zeA
  cases hR:znB (spB s) (zam s) a b f t with
  | false =>
   have hc:zfv (Rs s a b) (Ks s a b) (zam s).length (Bf (Rs s a b) (Ks s a b) (zam s).length k) f t=none:=by unfold zfv; rw [if_neg (by show ¬ (znB (spB s) (zam s) a b f t=true); rw [hR]; decide)]
   rw [hc]
   refine zaC rfl (zaJ (zjt hs f t (by omega) (by omega)) (zaJ (zoo f) ?_))
   by_cases hw:ze0 a b f<zju (spB s) (zam s) f t
   ·refine zaC (decide_eq_true hw) ?_
    rw [zjh d (t+1) (zoj x none) (fun t' h1 h2=>by
     have:=zt3 (a:=a) (b:=b) (spB s) (zam s) hcol hR hw (t' - t)
     rw [show t+(t' - t)=t' by omega] at this
     unfold zfv; rw [if_neg (by show ¬ (znB (spB s) (zam s) a b f t'=true); rw [this]; decide)])]
    rfl
   ·exact zaw (decide_eq_false hw) (hnext x hx)
  | true =>
   refine zaw rfl (zvM (fun j4=>∀ y:Bst,okB (k+1) y→y.to_=(t:Int)→j4 y.cost y.rows=j2 ((zff (Bf (Rs s a b) (Ks s a b) (zam s).length k) (zam s).length).set f (zeA (Rs s a b) (Ks s a b) (zam s).length (Bf (Rs s a b) (Ks s a b) (zam s).length k) f d (t+1) (zoj x (some y))))) ?_ ?_)
   ·intro y hy hto
    have ey:(⟨y.cost,y.rows,(t:Int)⟩:Gpage_best)=y:=by rw [← hto]
    have hput:(grd (I64 ((t:Int)+1))<|ag (((zff (Bf (Rs s a b) (Ks s a b) (zam s).length k) (zam s).length).set f x).set (f:Int).toNat (⟨y.cost,y.rows,(t:Int)⟩:Gpage_best)) ((t:Int)+1))=j2 ((zff (Bf (Rs s a b) (Ks s a b) (zam s).length k) (zam s).length).set f (zeA (Rs s a b) (Ks s a b) (zam s).length (Bf (Rs s a b) (Ks s a b) (zam s).length k) f d (t+1) y)):=by
     rw [ey,Int.toNat_natCast,List.set_set]; exact hnext y hy
    have hkeep:=hnext x hx
    refine zaJ (hgf x) ?_
    rw [zgJ]
    by_cases h1:x.rows<0
    ·rw [if_pos (.inl h1)]; exact zaC (decide_eq_true h1) (zaJ (hgf x) hput)
    refine zaw (decide_eq_false h1) ?_
    by_cases h2:y.cost<x.cost
    ·rw [if_pos (.inr (.inl h2))]; exact zaC (decide_eq_true h2) (zaJ (hgf x) hput)
    refine zaw (decide_eq_false h2) ?_
    by_cases h3:y.cost=x.cost
    ·refine zaC (zgt h3) ?_
     by_cases h4:y.rows≤x.rows
     ·rw [if_pos (.inr (.inr ⟨h3,h4⟩))]; exact zaC (decide_eq_true h4) (zaJ (hgf x) hput)
     ·rw [if_neg (by omega)]; exact zaw (decide_eq_false h4) hkeep
    ·rw [if_neg (by omega)]; exact zaw (zgD h3) hkeep
   intro j4 held
   by_cases ht:t<(zam s).length
   ·refine zaC (decide_eq_true (by show (t:Int)<((zam s).length:Int); omega)) (zaJ (hgt x) ?_)
    obtain ⟨o1,o2,o3,o4⟩:=hok t
    have hk2:=hK f t
    by_cases hn:(Bf (Rs s a b) (Ks s a b) (zam s).length k t).rows<0
    ·have hc:zfv (Rs s a b) (Ks s a b) (zam s).length (Bf (Rs s a b) (Ks s a b) (zam s).length k) f t=none:=by unfold zfv; rw [if_pos hR,if_pos ht,if_pos hn]
     rw [hc]
     exact zaC (decide_eq_true hn) (hnext x hx)
    ·have hc:zfv (Rs s a b) (Ks s a b) (zam s).length (Bf (Rs s a b) (Ks s a b) (zam s).length k) f t=some ⟨Ks s a b f t+(Bf (Rs s a b) (Ks s a b) (zam s).length k t).cost,(Bf (Rs s a b) (Ks s a b) (zam s).length k t).rows+1,(t:Int)⟩:=by unfold zfv; rw [if_pos hR,if_pos ht,if_neg hn]
     have hyok:=(zhb hK hok hc).1
     rw [hc]
     refine zaw (decide_eq_false hn) (zaJ (zuE hs ha hb f t hft (by omega)) (zaJ (hgt x) (zbl ⟨by omega,by omega⟩ (zbl ⟨by omega,by omega⟩ ?_))))
     exact held _ hyok rfl
   ·have hc:zfv (Rs s a b) (Ks s a b) (zam s).length (Bf (Rs s a b) (Ks s a b) (zam s).length k) f t=some ⟨0,1,(t:Int)⟩:=by unfold zfv; rw [if_pos hR,if_neg ht]
    have hyok:=(zhb hK hok hc).1
    rw [hc]
    refine zaw (decide_eq_false (by show ¬ ((t:Int)<((zam s).length:Int)); omega)) ?_
    exact held _ hyok rfl
end
end Go.Proofs.YtbempdelckaccaaGreatDoor

namespace Go.Proofs.YtbempdelckaccaaGreatDoor
open Go.RowKit Go.Lib
set_option linter.unusedVariables false
set_option linter.unusedSimpArgs false
theorem zq4 (sp:zet→Bool) (C:List zet):∀ (d f:Nat),f+d=C.length→f<C.length→∃ t,f<t∧t≤C.length∧(t=C.length∨zjB sp C t=false)∧∀ j,f<j→j<t→zjB sp C j=true
 | 0,f,h,hf=>by omega
 | d+1,f,h,hf=>by
  by_cases h1:f+1=C.length
  ·exact ⟨f+1,by omega,by omega,.inl h1,fun j a b=>by omega⟩
  ·cases h2:zjB sp C (f+1) with
   | false=>exact ⟨f+1,by omega,by omega,.inr h2,fun j a b=>by omega⟩
   | true =>
    obtain ⟨t,g1,g2,g3,g4⟩:=zq4 sp C d (f+1) (by omega) (by omega)
    refine ⟨t,by omega,g2,g3,fun j a b => ?_⟩
    by_cases e:j=f+1
    ·rw [e]; exact h2
    ·exact g4 j (by omega) b
theorem zn0 (sp:zet→Bool) (C:List zet) (f:Nat):∀ (i:Nat),f+1+i≤C.length→(∀ j,f<j→j<f+1+i→zjB sp C j=true)→eN sp (C.take (f+1+i))≤f+1
 | 0,h,_=>by have:=zn1 sp (C.take (f+1)); rw [List.length_take] at this; show eN sp (C.take (f+1))≤_; omega
 | i+1,h,hsp=>by
  have hx:C[f+1+i]?=some C[f+1+i]:=List.getElem?_eq_getElem (by omega)
  have h1:=hsp (f+1+i) (by omega) (by omega)
  unfold zjB at h1
  rw [hx] at h1
  rw [show f+1+(i+1)=f+1+i+1 by omega,zgL hx,zhF,if_pos h1]
  exact zn0 sp C f i (by omega) fun j a b=>hsp j a (by omega)
theorem zx3 {sp:zet→Bool} {C:List zet} {a b:Int} {K:Nat→Nat→Int} (hK:∀ f t,0≤K f t∧K f t≤2000000000000):∀ (d f:Nat),C.length≤f+d→f<C.length→(f=0∨zjB sp C f=false)→0≤(BB (znB sp C a b) K C.length f).rows
 | 0,f,h,hf,_=>by omega
 | d+1,f,h,hf,h0=>by
  obtain ⟨t,g1,g2,g3,g4⟩:=zq4 sp C (C.length - f) f (by omega) hf
  have he:=zn0 sp C f (t - (f+1)) (by omega) (fun j x y=>g4 j x (by omega))
  rw [show f+1+(t - (f+1))=t by omega] at he
  have hR:znB sp C a b f t=true:=by
   unfold znB
   have:(decide (0<f)&&zjB sp C f)=false:=by
    rcases h0 with h0 | h0
    ·subst h0; rfl
    ·rw [h0,Bool.and_false]
   rw [this,decide_eq_true he,Bool.or_true]; rfl
  have hm:=zwr (R:=znB sp C a b) (K:=K) (n:=C.length) hK g1 g2 hR
  by_cases e:t=C.length
  ·exact (hm.1 e).1
  ·have:=zx3 (a:=a) (b:=b) hK d t (by omega) (by omega) (.inr (g3.resolve_left e))
   exact (hm.2 (by omega) this).1
section
variable {s:ByteArray} {a b:Int} (hs:s.size≤100000) (ha:0≤a∧a≤1000000) (hb:0≤b∧b≤1000000)
abbrev TT (s:ByteArray) (a b:Int):Nat→Bst:=BB (Rs s a b) (Ks s a b) (zam s).length
def zoC (s:ByteArray) (a b:Int) (f:Nat):Prop:=f=(zam s).length∨f<(zam s).length∧0≤(TT s a b f).rows
def zlD (s:ByteArray) (a b:Int):Nat→Nat→List Nat
 | 0,_=>[]
 | m+1,f=>if f<(zam s).length then (TT s a b f).to_.toNat::zlD s a b m (TT s a b f).to_.toNat else []
theorem zmq {T T':Nat→Bst} {n f:Nat} (hf:f≤n) (h1:∀ j,j≠f→T' j=T j):(zff T n).set f (T' f)=zff T' n:=by
 apply List.ext_getElem?
 intro j
 by_cases hj:j≤n
 ·rw [zeF T' n j hj]
  by_cases e:f=j
  ·subst e; rw [List.getElem?_set_self (by rw [zgw]; omega)]
  ·rw [List.getElem?_set_ne e,zeF T n j hj,h1 j (fun h=>e h.symm)]
 ·rw [List.getElem?_eq_none (by rw [List.length_set,zgw]; omega),List.getElem?_eq_none (by rw [zgw]; omega)]
include hs ha hb
theorem zso (j1:List Bst→Option ((List Int)×Int)):∀ (d k m:Nat),k+d=(zam s).length→d<m→zaE (fun _ _=>none) (zbX (zfx s a b) j1) m (zff (Bf (Rs s a b) (Ks s a b) (zam s).length k) (zam s).length) (((zam s).length:Int) - 1 - (k:Int)) =
  j1 (zff (TT s a b) (zam s).length):=by
 have hle:=zh3 hs
 intro d
 induction d with
 | zero =>
  intro k m hk hm
  obtain ⟨m,rfl⟩:∃ q,m=q+1:=⟨m - 1,by omega⟩
  rw [zb5]
  generalize zaE (fun _ _=>none) (zbX (zfx s a b) j1) m=ag
  unfold zbX
  refine zaw (decide_eq_false (by omega)) ?_
  rw [show k=(zam s).length by omega]; rfl
 | succ d ih =>
  intro k m hk hm
  obtain ⟨m,rfl⟩:∃ q,m=q+1:=⟨m - 1,by omega⟩
  have ih':=ih (k+1) m (by omega) (by omega)
  rw [zb5]
  generalize zaE (fun _ _=>none) (zbX (zfx s a b) j1) m=ag at ih' ⊢
  obtain ⟨f,hf⟩:∃ f:Nat,f+(k+1)=(zam s).length:=⟨d,by omega⟩
  rw [show ((zam s).length:Int) - 1 - (k:Int)=(f:Int) by omega]
  rw [show ((zam s).length:Int) - 1 - ((k+1:Nat):Int)=(f:Int) - 1 by omega] at ih'
  unfold zbX
  have hg:zbm (zff (Bf (Rs s a b) (Ks s a b) (zam s).length k) (zam s).length) (f:Int)=some b0:=by
   rw [zcj (zeF _ _ f (by omega)),zrS k f (by omega)]
  refine zaC (decide_eq_true (by omega)) (zbs (zaJ hg (zbl ⟨by omega,by omega⟩ ?_)))
  have hin:=zt1 hs ha hb k f (by omega) (by omega) (fun (all5:List Gpage_best)=>grd (I64 ((f:Int) - 1))<|ag all5 ((f:Int) - 1)) ((zam s).length - f) (f+1) zbN bm (by omega) (by omega) (by have:=zbM (n:=(zam s).length) (by omega); omega) (zq2 _)
  rw [show ((f+1:Nat):Int)=(f:Int)+1 by omega] at hin
  have et:(zff (Bf (Rs s a b) (Ks s a b) (zam s).length k) (zam s).length).set f (zeA (Rs s a b) (Ks s a b) (zam s).length (Bf (Rs s a b) (Ks s a b) (zam s).length k) f ((zam s).length - f) (f+1) bm)=zff (Bf (Rs s a b) (Ks s a b) (zam s).length (k+1)) (zam s).length:=by
   have e1:Bf (Rs s a b) (Ks s a b) (zam s).length (k+1) f=zeA (Rs s a b) (Ks s a b) (zam s).length (Bf (Rs s a b) (Ks s a b) (zam s).length k) f ((zam s).length - f) (f+1) bm:=by rw [zfu,if_pos hf]
   rw [← e1]
   exact zmq (by omega) fun j hj=>by rw [zfu,if_neg (by omega)]
  rw [et] at hin
  refine hin.trans (zbl ⟨by omega,by omega⟩ ih')
theorem zmZ {f:Nat} (h:zoC s a b f) (hf:f<(zam s).length):∃ t:Nat,(TT s a b f).to_=(t:Int)∧f<t∧t≤(zam s).length∧Rs s a b f t=true∧zoC s a b t∧(t<(zam s).length→(TT s a b f).cost=Ks s a b f t+(TT s a b t).cost)∧(t=(zam s).length→(TT s a b f).cost=0):=by
 have hr:0≤(TT s a b f).rows:=by
  rcases h with h | h
  ·omega
  ·exact h.2
 obtain ⟨t,h1,h2,h3,h4,h5,h6⟩:=zwq (zfT hs ha hb) hf hr
 refine ⟨t,h1,h2,h3,h4,?_,fun h=>(h5 h).2,h6⟩
 by_cases e:t=(zam s).length
 ·exact .inl e
 ·exact .inr ⟨by omega,(h5 (by omega)).1⟩
theorem zsp (j5:List Int→Option ((List Int)×Int)):∀ (m f N:Nat) (out:List Int),zoC s a b f→(zam s).length≤f+m→m<N→out.length≤f→f≤(zam s).length→zaE (fun _ _=>none) (zbR (zfx s a b) (zff (TT s a b) (zam s).length) j5) N out (f:Int)=j5 (out++(zlD s a b m f).map (fun t=>((t:Nat):Int))):=by
 have hle:=zh3 hs
 intro m
 induction m with
 | zero =>
  intro f N out hfe hm hN ho hf
  obtain ⟨N,rfl⟩:∃ q,N=q+1:=⟨N - 1,by omega⟩
  rw [zb5]
  generalize zaE (fun _ _=>none) (zbR (zfx s a b) (zff (TT s a b) (zam s).length) j5) N=ag
  unfold zbR
  refine zaw (decide_eq_false (by show ¬ ((f:Int)<((zam s).length:Int)); omega)) ?_
  show j5 out=j5 (out++[])
  rw [List.append_nil]
 | succ m ih =>
  intro f N out hfe hm hN ho hf
  obtain ⟨N,rfl⟩:∃ q,N=q+1:=⟨N - 1,by omega⟩
  rw [zb5]
  have ih':=fun t out=>ih t N out
  generalize zaE (fun _ _=>none) (zbR (zfx s a b) (zff (TT s a b) (zam s).length) j5) N=ag at ih' ⊢
  unfold zbR zlD
  by_cases h:f<(zam s).length
  ·obtain ⟨t,h1,h2,h3,h4,h5,_⟩:=zmZ hs ha hb hfe h
   have hg:zbm (zff (TT s a b) (zam s).length) (f:Int)=some (TT s a b f):=zcj (zeF _ _ f (by omega))
   rw [if_pos h,h1,Int.toNat_natCast]
   refine zaC (decide_eq_true (by show (f:Int)<((zam s).length:Int); omega)) (zaJ hg (zbl (by omega) (zaJ hg ?_)))
   rw [h1]
   rw [ih' t (out++[(t:Int)]) h5 (by omega) (by omega) (by rw [List.length_append]; simp; omega) h3,List.append_assoc]; rfl
  ·rw [if_neg h]
   refine zaw (decide_eq_false (by show ¬ ((f:Int)<((zam s).length:Int)); omega)) ?_
   show j5 out=j5 (out++[])
   rw [List.append_nil]
theorem zp0:zoC s a b 0:=by
 by_cases h:0<(zam s).length
 ·exact .inr ⟨h,zx3 (zfT hs ha hb) (zam s).length 0 (by omega) h (.inl rfl)⟩
 ·exact .inl (by omega)
abbrev zkW (s:ByteArray) (a b:Int):List Nat:=zlD s a b (zam s).length 0
theorem zt2:zdO (zfx s a b)=some ((zkW s a b).map (fun t=>((t:Nat):Int)),(TT s a b 0).cost):=by
 have hle:=zh3 hs
 unfold zdO
 refine zbs (zbl ⟨by show _≤((zam s).length:Int)+1; omega,by show ((zam s).length:Int)+1≤_; omega⟩ (zbl ⟨by show _≤((zam s).length:Int)+1; omega,by show ((zam s).length:Int)+1≤_; omega⟩ (zbl ⟨by show _≤((zam s).length:Int) - 1; omega,by show ((zam s).length:Int) - 1≤_; omega⟩ ?_)))
 have e0:List.replicate (((zfx s a b).cells.length:Int)+1:Int).toNat (⟨0,0,0⟩:Gpage_best)=zff (Bf (Rs s a b) (Ks s a b) (zam s).length 0) (zam s).length:=by
  show List.replicate (((zam s).length:Int)+1:Int).toNat b0=_
  rw [show (((zam s).length:Int)+1:Int).toNat=(zam s).length+1 by omega]
  apply List.ext_getElem?
  intro j
  by_cases hj:j≤(zam s).length
  ·rw [zeF _ _ j hj,List.getElem?_replicate,if_pos (by omega)]; rfl
  ·rw [List.getElem?_eq_none (by rw [List.length_replicate]; omega),List.getElem?_eq_none (by rw [zgw]; omega)]
 rw [e0]
 have ho:=zso hs ha hb (fun (all1:List Gpage_best)=>zbk (fun (j5:(List Int)→Option ((List Int)×Int))=>zaE (fun _ _=>none) (zbR (zfx s a b) all1 j5) zbN ([]:List Int) 0) (fun (out1:List Int)=>zah (zbm all1 0) fun (q10:Gpage_best)=>some (out1,q10.cost))) (zam s).length 0 zbN (by omega) (by have:=zbM (n:=(zam s).length) (by omega); omega)
 rw [show ((zam s).length:Int) - 1 - ((0:Nat):Int)=((zam s).length:Int) - 1 by omega] at ho
 refine ho.trans (zbs ?_)
 have he:=zsp hs ha hb (fun (out1:List Int)=>zah (zbm (zff (TT s a b) (zam s).length) 0) fun (q10:Gpage_best)=>some (out1,q10.cost)) (zam s).length 0 zbN [] (zp0 hs ha hb) (by omega) (by have:=zbM (n:=(zam s).length) (by omega); omega) (Nat.zero_le _) (Nat.zero_le _)
 rw [show ((0:Nat):Int)=0 from rfl,List.nil_append] at he
 refine he.trans (zaJ (zdk (n:=0) rfl (zeF _ _ 0 (Nat.zero_le _))) rfl)
end
def stN (s:ByteArray) (k:Nat):Int:=match (zam s)[k]? with | some c=>c.Span_From | none=>(s.size:Int)
theorem zpy:∀ (cs:List zet) (a b:Int),Cov a cs b→∀ (k:Nat) (c:zet),cs[k]?=some c→c.Span_To=(match cs[k+1]? with | some d=>d.Span_From | none=>b)
 | [],_,_,_,k,c,h=>by simp at h
 | d::cs,a,b,hc,k,c,h=>by
  obtain ⟨h1,h2,h3,h4⟩:=hc
  cases k with
  | zero =>
   have e:d=c:=by simpa using h
   subst e
   cases cs with
   | nil=>exact h4
   | cons e es=>exact h4.1.symm
  | succ k =>
   have:=zpy cs _ b h4 k c (by simpa using h)
   simpa using this
theorem znq (s:ByteArray) {k:Nat} {c:zet} (h:(zam s)[k]?=some c):stN s k=c.Span_From∧stN s (k+1)=c.Span_To∧0≤c.Span_From∧c.Span_From<c.Span_To∧c.Span_To≤(s.size:Int):=by
 have hm:=(zeM s).mem c (List.mem_of_getElem? h)
 refine ⟨by unfold stN; rw [h],?_,hm.1,hm.2.1,hm.2.2.1⟩
 have:=zpy _ _ _ (zeM s) k c h
 unfold stN; exact this.symm
theorem zkp (s:ByteArray):∀ (d f:Nat),f+d≤(zam s).length→stN s f+d≤stN s (f+d)
 | 0,f,h=>by show stN s f+(0:Int)≤stN s f; omega
 | d+1,f,h=>by
  have ih:=zkp s d f (by omega)
  have hx:(zam s)[f+d]?=some (zam s)[f+d]:=List.getElem?_eq_getElem (by omega)
  obtain ⟨h1,h2,h3,h4,h5⟩:=znq s hx
  rw [show f+(d+1)=f+d+1 by omega,h2]
  rw [h1] at ih
  push_cast; omega
theorem zvl (s:ByteArray):stN s 0=0:=by
 have h:=zeM s
 unfold stN
 cases hc:zam s with
 | nil=>rw [hc] at h; exact (show (0:Int)=_ from h).symm
 | cons c cs=>rw [hc] at h; exact h.1
theorem zvk (s:ByteArray):stN s (zam s).length=(s.size:Int):=by
 unfold stN; rw [List.getElem?_eq_none (Nat.le_refl _)]
theorem zqu (s:ByteArray) {k:Nat} (h:k≤(zam s).length):0≤stN s k∧stN s k≤(s.size:Int):=by
 have h1:=zkp s k 0 (by omega)
 have h2:=zkp s ((zam s).length - k) k (by omega)
 rw [Nat.zero_add,zvl] at h1
 rw [show k+((zam s).length - k)=(zam s).length by omega,zvk] at h2
 omega
def zsd (s:ByteArray) (f t:Nat):ByteArray:=zb8 s (stN s f) (stN s t)
theorem ztN {s:ByteArray} {a b:Int} (hs:s.size≤100000) (f t:Nat) (hf:f<t) (ht:t≤(zam s).length):zdN (zfx s a b) (f:Int) (t:Int)=some (zsd s f t):=by
 have hle:=zh3 hs
 unfold zdN zsd
 have hx:(zam s)[f]?=some (zam s)[f]:=List.getElem?_eq_getElem (by omega)
 have hy:(zam s)[t - 1]?=some (zam s)[t - 1]:=List.getElem?_eq_getElem (by omega)
 obtain ⟨h1,h2,h3,h4,h5⟩:=znq s hx
 obtain ⟨g1,g2,g3,g4,g5⟩:=znq s hy
 rw [show t - 1+1=t by omega] at g2
 have hl:=zkp s (t - f) f (by omega)
 rw [show f+(t - f)=t by omega] at hl
 refine zaJ (zcj hx) (zbl ⟨by omega,by omega⟩ (zaJ (zdk (n:=t - 1) (by omega) hy) (zbl ?_ ?_)))
 ·show 0≤(zam s)[f].Span_From∧(zam s)[f].Span_From≤(zam s)[t - 1].Span_To∧(zam s)[t - 1].Span_To≤(s.size:Int)
  rw [← h1,← g2]; omega
 ·show some (zb8 s (zam s)[f].Span_From (zam s)[t - 1].Span_To)=_
  rw [h1,g2]
def zgK (s:ByteArray):Nat→List Nat→List ByteArray
 | _,[]=>[]
 | f,t::ts=>zsd s f t::zgK s t ts
def zu0 (n:Nat):Nat→List Nat→Prop
 | _,[]=>True
 | f,t::ts=>f<t∧t≤n∧zu0 n t ts
section
variable {s:ByteArray} {a b:Int} (hs:s.size≤100000) (ha:0≤a∧a≤1000000) (hb:0≤b∧b≤1000000)
include hs ha hb
theorem ziX:∀ (m f:Nat),zoC s a b f→f≤(zam s).length→zu0 (zam s).length f (zlD s a b m f)
 | 0,f,_,_=>trivial
 | m+1,f,hfe,hf=>by
  unfold zlD
  split
  ·rename_i h
   obtain ⟨t,h1,h2,h3,h4,h5,_⟩:=zmZ hs ha hb hfe h
   rw [h1,Int.toNat_natCast]
   exact ⟨h2,h3,ziX m t h5 h3⟩
  ·trivial
end
theorem zqp (s:ByteArray) (hs:s.size≤100000) (a b:Int) (c:Int) (j1:Int→List ByteArray→Option ((List ByteArray)×Int)) (E:List Nat):∀ (ts pre:List Nat) (f m:Nat) (out:List ByteArray),E=pre++ts→zu0 (zam s).length f ts→ts.length<m→out.length≤pre.length→E.length≤100000 →
  zaE (fun _ _ _=>none) (zdy j1 (zfx s a b) (E.map (fun t=>((t:Nat):Int)),c)) m out (f:Int) (pre.length:Int)=j1 c (out++zgK s f ts)
 | [],pre,f,m,out,hE,_,hm,_,_=>by
  obtain ⟨m,rfl⟩:∃ q,m=q+1:=⟨m - 1,by simp at hm; omega⟩
  rw [zb5]
  generalize zaE (fun _ _ _=>none) (zdy j1 (zfx s a b) (E.map (fun t=>((t:Nat):Int)),c)) m=ag
  unfold zdy
  refine zaw (decide_eq_false (by rw [List.length_map,hE]; simp)) ?_
  show j1 c out=j1 c (out++[])
  rw [List.append_nil]
 | t::ts,pre,f,m,out,hE,hr,hm,ho,hl=>by
  obtain ⟨m,rfl⟩:∃ q,m=q+1:=⟨m - 1,by simp at hm; omega⟩
  obtain ⟨r1,r2,r3⟩:=hr
  have ih:=zqp s hs a b c j1 E ts (pre++[t]) t m (out++[zsd s f t]) (by rw [hE]; simp) r3 (by simp at hm; omega) (by simp; omega) hl
  have hpl:pre.length<E.length:=by rw [hE]; simp
  rw [zb5]
  generalize zaE (fun _ _ _=>none) (zdy j1 (zfx s a b) (E.map (fun t=>((t:Nat):Int)),c)) m=ag at ih ⊢
  have hg:(E.map (fun t=>((t:Nat):Int)))[pre.length]?=some (t:Int):=by rw [List.getElem?_map,hE]; simp
  rw [show (((pre++[t]).length:Nat):Int)=(pre.length:Int)+1 by simp] at ih
  unfold zdy
  refine zaC (zow hg) (zaJ (zcj hg) (zaJ (ztN hs f t r1 r2) (zbl (by omega) (zbl ⟨by omega,by omega⟩ ?_))))
  rw [ih,List.append_assoc]; rfl
theorem zmG {n:Nat}:∀ {ts:List Nat} {f:Nat},zu0 n f ts→f+ts.length≤max n f
 | [],f,_=>by simp; omega
 | t::ts,f,h=>by
  obtain ⟨h1,h2,h3⟩:=h
  have:=zmG h3
  rw [List.length_cons]; omega
theorem zvb (s:ByteArray) (hs:s.size≤100000) (ind:Int) (l:Gapi_Layout) (h1:I64 (l.Width - ind)) (ha:0≤max 1 (l.Width - ind)∧max 1 (l.Width - ind)≤1000000) (hb:0≤l.Width - l.Turn∧l.Width - l.Turn≤1000000) :
  ze4 s ind l=some (zgK s 0 (zkW s (max 1 (l.Width - ind)) (l.Width - l.Turn)),(TT s (max 1 (l.Width - ind)) (l.Width - l.Turn) 0).cost):=by
 unfold ze4
 refine zbs (zaJ (zov s hs ind l h1 ⟨by omega,by omega⟩) (zaJ (zt2 hs ha hb) ?_))
 have hr:=ziX hs ha hb (zam s).length 0 (zp0 hs ha hb) (Nat.zero_le _)
 have hl:0+(zkW s (max 1 (l.Width - ind)) (l.Width - l.Turn)).length≤max (zam s).length 0:=zmG hr
 have hle:=zh3 hs
 have:=zqp s hs (max 1 (l.Width - ind)) (l.Width - l.Turn) (TT s (max 1 (l.Width - ind)) (l.Width - l.Turn) 0).cost (fun (cost1:Int) (out1:List ByteArray)=>some (out1,cost1)) (zkW s (max 1 (l.Width - ind)) (l.Width - l.Turn)) (zkW s (max 1 (l.Width - ind)) (l.Width - l.Turn)) [] 0 zbN [] rfl hr (by have:=zbM (n:=(zam s).length) (by omega); omega) (Nat.le_refl _) (by omega)
 exact this
end Go.Proofs.YtbempdelckaccaaGreatDoor

namespace Go.Proofs.YtbempdelckaccaaGreatDoor
open Go.RowKit Go.Lib
set_option linter.unusedVariables false
set_option linter.unusedSimpArgs false
def zwC:List ByteArray→ByteArray
 | []=>⟨#[]⟩
 | x::xs=>x++zwC xs
section
variable {s:ByteArray} {a b:Int} (hs:s.size≤100000) (ha:0≤a∧a≤1000000) (hb:0≤b∧b≤1000000)
include hs ha hb
end
end Go.Proofs.YtbempdelckaccaaGreatDoor
