/-
  Texts laid together: LpR, LpC, LpT, LqE, LgA, LgB, LpF, LpG, LgC. Nothing is assumed.
-/
import Derived.Test.YtbempdelckaccaaGreatDoorPageNames1
import Derived.Test.YtbempdelckaccaaGreatDoorPageNames2
set_option maxRecDepth 100000
set_option maxHeartbeats 4000000
namespace Go.Proofs.YtbempdelckaccaaGreatDoor
abbrev zI (x : Int) : Value := .int .i64 x
abbrev zP (x : Nat) : Value := .pointer (some ⟨x, 0, none⟩)
end Go.Proofs.YtbempdelckaccaaGreatDoor

namespace Go.Proofs.YtbempdelckaccaaGreatDoor
open Go.RowKit Go.Lib
set_option linter.unusedVariables false
set_option linter.unusedSimpArgs false
theorem za7 {σ:List (Nat×Value)}:∀ {σ':List (Nat×Value)},σ'.map (fun p=>σ.lookup p.1)=σ'.map (fun p=>some p.2)→Sbs σ σ'
  | [],_=>zfM
  | (t,v)::σ',h=>zjw (List.cons.inj h).1 (za7 (List.cons.inj h).2)
theorem zdd {α:Type} {a0 a1:α} {l l':List α} (h:l=l'):a0::a1::l=a0::a1::l':=by rw [h]
theorem zbU {α:Type} {a0 a1 a2:α} {l l':List α} (h:l=l'):a0::a1::a2::l=a0::a1::a2::l':=by rw [h]
theorem zdr {α:Type} {a0 a1 a2 a3:α} {l l':List α} (h:l=l'):a0::a1::a2::a3::l=a0::a1::a2::a3::l':=by rw [h]
theorem zj5 {α:Type} {a0 a1 a2 a3 a4:α} {l l':List α} (h:l=l'):a0::a1::a2::a3::a4::l=a0::a1::a2::a3::a4::l':=by rw [h]
theorem zmE {α:Type} {a0 a1 a2 a3 a4 a5:α} {l l':List α} (h:l=l'):a0::a1::a2::a3::a4::a5::l=a0::a1::a2::a3::a4::a5::l':=by rw [h]
theorem zog {α:Type} {a0 a1 a2 a3 a4 a5 a6:α} {l l':List α} (h:l=l'):a0::a1::a2::a3::a4::a5::a6::l=a0::a1::a2::a3::a4::a5::a6::l':=by rw [h]
theorem zgi {α:Type} {a0 a1 a2 a3 a4 a5 a6 a7:α} {l l':List α} (h:l=l'):a0::a1::a2::a3::a4::a5::a6::a7::l=a0::a1::a2::a3::a4::a5::a6::a7::l':=by rw [h]
theorem zor {α:Type} {a0 a1 a2 a3 a4 a5 a6 a7 a8:α} {l l':List α} (h:l=l'):a0::a1::a2::a3::a4::a5::a6::a7::a8::l=a0::a1::a2::a3::a4::a5::a6::a7::a8::l':=by rw [h]
theorem zi5 {α:Type} {a0 a1 a2 a3 a4 a5 a6 a7 a8 a9:α} {l l':List α} (h:l=l'):a0::a1::a2::a3::a4::a5::a6::a7::a8::a9::l=a0::a1::a2::a3::a4::a5::a6::a7::a8::a9::l':=by rw [h]
theorem zos {α:Type} {a0 a1 a2 a3 a4 a5 a6 a7 a8 a9 a10:α} {l l':List α} (h:l=l'):a0::a1::a2::a3::a4::a5::a6::a7::a8::a9::a10::l=a0::a1::a2::a3::a4::a5::a6::a7::a8::a9::a10::l':=by rw [h]
theorem znk {α:Type} {a0 a1 a2 a3 a4 a5 a6 a7 a8 a9 a10 a11:α} {l l':List α} (h:l=l'):a0::a1::a2::a3::a4::a5::a6::a7::a8::a9::a10::a11::l=a0::a1::a2::a3::a4::a5::a6::a7::a8::a9::a10::a11::l':=by rw [h]
theorem znl {D:Nat→Prop} {i0 t0 i1 t1:Nat} {v0 v1:Value} {r r':List (Nat×Nat×Value)} (h:dl D r=dl D r'):dl D ((i0,t0,v0)::(i1,t1,v1)::r)=dl D ((i0,t0,v0)::(i1,t1,v1)::r'):=zam (fun _=>rfl) (zam (fun _=>rfl) h)
theorem zne {D:Nat→Prop} {i0 t0 i1 t1 i2 t2:Nat} {v0 v1 v2:Value} {r r':List (Nat×Nat×Value)} (h:dl D r=dl D r'):dl D ((i0,t0,v0)::(i1,t1,v1)::(i2,t2,v2)::r)=dl D ((i0,t0,v0)::(i1,t1,v1)::(i2,t2,v2)::r'):=zam (fun _=>rfl) (zam (fun _=>rfl) (zam (fun _=>rfl) h))
theorem zot {D:Nat→Prop} {i0 t0 i1 t1 i2 t2 i3 t3:Nat} {v0 v1 v2 v3:Value} {r r':List (Nat×Nat×Value)} (h:dl D r=dl D r'):dl D ((i0,t0,v0)::(i1,t1,v1)::(i2,t2,v2)::(i3,t3,v3)::r)=dl D ((i0,t0,v0)::(i1,t1,v1)::(i2,t2,v2)::(i3,t3,v3)::r'):=zam (fun _=>rfl) (zam (fun _=>rfl) (zam (fun _=>rfl) (zam (fun _=>rfl) h)))
theorem zjx {D:Nat→Prop} {i0 t0 i1 t1 i2 t2 i3 t3 i4 t4:Nat} {v0 v1 v2 v3 v4:Value} {r r':List (Nat×Nat×Value)} (h:dl D r=dl D r'):dl D ((i0,t0,v0)::(i1,t1,v1)::(i2,t2,v2)::(i3,t3,v3)::(i4,t4,v4)::r)=dl D ((i0,t0,v0)::(i1,t1,v1)::(i2,t2,v2)::(i3,t3,v3)::(i4,t4,v4)::r'):=zam (fun _=>rfl) (zam (fun _=>rfl) (zam (fun _=>rfl) (zam (fun _=>rfl) (zam (fun _=>rfl) h))))
theorem zmF {D:Nat→Prop} {i0 t0 i1 t1 i2 t2 i3 t3 i4 t4 i5 t5:Nat} {v0 v1 v2 v3 v4 v5:Value} {r r':List (Nat×Nat×Value)} (h:dl D r=dl D r'):dl D ((i0,t0,v0)::(i1,t1,v1)::(i2,t2,v2)::(i3,t3,v3)::(i4,t4,v4)::(i5,t5,v5)::r)=dl D ((i0,t0,v0)::(i1,t1,v1)::(i2,t2,v2)::(i3,t3,v3)::(i4,t4,v4)::(i5,t5,v5)::r'):=zam (fun _=>rfl) (zam (fun _=>rfl) (zam (fun _=>rfl) (zam (fun _=>rfl) (zam (fun _=>rfl) (zam (fun _=>rfl) h)))))
theorem zhC {D:Nat→Prop} {i0 t0 i1 t1 i2 t2 i3 t3 i4 t4 i5 t5 i6 t6:Nat} {v0 v1 v2 v3 v4 v5 v6:Value} {r r':List (Nat×Nat×Value)} (h:dl D r=dl D r'):dl D ((i0,t0,v0)::(i1,t1,v1)::(i2,t2,v2)::(i3,t3,v3)::(i4,t4,v4)::(i5,t5,v5)::(i6,t6,v6)::r)=dl D ((i0,t0,v0)::(i1,t1,v1)::(i2,t2,v2)::(i3,t3,v3)::(i4,t4,v4)::(i5,t5,v5)::(i6,t6,v6)::r'):=zam (fun _=>rfl) (zam (fun _=>rfl) (zam (fun _=>rfl) (zam (fun _=>rfl) (zam (fun _=>rfl) (zam (fun _=>rfl) (zam (fun _=>rfl) h))))))
theorem zgW {D:Nat→Prop} {i0 t0 i1 t1 i2 t2 i3 t3 i4 t4 i5 t5 i6 t6 i7 t7:Nat} {v0 v1 v2 v3 v4 v5 v6 v7:Value} {r r':List (Nat×Nat×Value)} (h:dl D r=dl D r'):dl D ((i0,t0,v0)::(i1,t1,v1)::(i2,t2,v2)::(i3,t3,v3)::(i4,t4,v4)::(i5,t5,v5)::(i6,t6,v6)::(i7,t7,v7)::r)=dl D ((i0,t0,v0)::(i1,t1,v1)::(i2,t2,v2)::(i3,t3,v3)::(i4,t4,v4)::(i5,t5,v5)::(i6,t6,v6)::(i7,t7,v7)::r'):=zam (fun _=>rfl) (zam (fun _=>rfl) (zam (fun _=>rfl) (zam (fun _=>rfl) (zam (fun _=>rfl) (zam (fun _=>rfl) (zam (fun _=>rfl) (zam (fun _=>rfl) h)))))))
theorem zpy {D:Nat→Prop} {i0 t0 i1 t1 i2 t2 i3 t3 i4 t4 i5 t5 i6 t6 i7 t7 i8 t8:Nat} {v0 v1 v2 v3 v4 v5 v6 v7 v8:Value} {r r':List (Nat×Nat×Value)} (h:dl D r=dl D r'):dl D ((i0,t0,v0)::(i1,t1,v1)::(i2,t2,v2)::(i3,t3,v3)::(i4,t4,v4)::(i5,t5,v5)::(i6,t6,v6)::(i7,t7,v7)::(i8,t8,v8)::r)=dl D ((i0,t0,v0)::(i1,t1,v1)::(i2,t2,v2)::(i3,t3,v3)::(i4,t4,v4)::(i5,t5,v5)::(i6,t6,v6)::(i7,t7,v7)::(i8,t8,v8)::r'):=zam (fun _=>rfl) (zam (fun _=>rfl) (zam (fun _=>rfl) (zam (fun _=>rfl) (zam (fun _=>rfl) (zam (fun _=>rfl) (zam (fun _=>rfl) (zam (fun _=>rfl) (zam (fun _=>rfl) h))))))))
theorem zmG {D:Nat→Prop} {i0 t0 i1 t1 i2 t2 i3 t3 i4 t4 i5 t5 i6 t6 i7 t7 i8 t8 i9 t9:Nat} {v0 v1 v2 v3 v4 v5 v6 v7 v8 v9:Value} {r r':List (Nat×Nat×Value)} (h:dl D r=dl D r'):dl D ((i0,t0,v0)::(i1,t1,v1)::(i2,t2,v2)::(i3,t3,v3)::(i4,t4,v4)::(i5,t5,v5)::(i6,t6,v6)::(i7,t7,v7)::(i8,t8,v8)::(i9,t9,v9)::r)=dl D ((i0,t0,v0)::(i1,t1,v1)::(i2,t2,v2)::(i3,t3,v3)::(i4,t4,v4)::(i5,t5,v5)::(i6,t6,v6)::(i7,t7,v7)::(i8,t8,v8)::(i9,t9,v9)::r'):=zam (fun _=>rfl) (zam (fun _=>rfl) (zam (fun _=>rfl) (zam (fun _=>rfl) (zam (fun _=>rfl) (zam (fun _=>rfl) (zam (fun _=>rfl) (zam (fun _=>rfl) (zam (fun _=>rfl) (zam (fun _=>rfl) h)))))))))
theorem znm {D:Nat→Prop} {i0 t0 i1 t1 i2 t2 i3 t3 i4 t4 i5 t5 i6 t6 i7 t7 i8 t8 i9 t9 i10 t10:Nat} {v0 v1 v2 v3 v4 v5 v6 v7 v8 v9 v10:Value} {r r':List (Nat×Nat×Value)} (h:dl D r=dl D r'):dl D ((i0,t0,v0)::(i1,t1,v1)::(i2,t2,v2)::(i3,t3,v3)::(i4,t4,v4)::(i5,t5,v5)::(i6,t6,v6)::(i7,t7,v7)::(i8,t8,v8)::(i9,t9,v9)::(i10,t10,v10)::r)=dl D ((i0,t0,v0)::(i1,t1,v1)::(i2,t2,v2)::(i3,t3,v3)::(i4,t4,v4)::(i5,t5,v5)::(i6,t6,v6)::(i7,t7,v7)::(i8,t8,v8)::(i9,t9,v9)::(i10,t10,v10)::r'):=zam (fun _=>rfl) (zam (fun _=>rfl) (zam (fun _=>rfl) (zam (fun _=>rfl) (zam (fun _=>rfl) (zam (fun _=>rfl) (zam (fun _=>rfl) (zam (fun _=>rfl) (zam (fun _=>rfl) (zam (fun _=>rfl) (zam (fun _=>rfl) h))))))))))
theorem zct {D:Nat→Prop} {i0 t0 i1 t1 i2 t2 i3 t3 i4 t4 i5 t5 i6 t6 i7 t7 i8 t8 i9 t9 i10 t10 i11 t11:Nat} {v0 v1 v2 v3 v4 v5 v6 v7 v8 v9 v10 v11:Value} {r r':List (Nat×Nat×Value)} (h:dl D r=dl D r'):dl D ((i0,t0,v0)::(i1,t1,v1)::(i2,t2,v2)::(i3,t3,v3)::(i4,t4,v4)::(i5,t5,v5)::(i6,t6,v6)::(i7,t7,v7)::(i8,t8,v8)::(i9,t9,v9)::(i10,t10,v10)::(i11,t11,v11)::r)=dl D ((i0,t0,v0)::(i1,t1,v1)::(i2,t2,v2)::(i3,t3,v3)::(i4,t4,v4)::(i5,t5,v5)::(i6,t6,v6)::(i7,t7,v7)::(i8,t8,v8)::(i9,t9,v9)::(i10,t10,v10)::(i11,t11,v11)::r'):=zam (fun _=>rfl) (zam (fun _=>rfl) (zam (fun _=>rfl) (zam (fun _=>rfl) (zam (fun _=>rfl) (zam (fun _=>rfl) (zam (fun _=>rfl) (zam (fun _=>rfl) (zam (fun _=>rfl) (zam (fun _=>rfl) (zam (fun _=>rfl) (zam (fun _=>rfl) h)))))))))))
def znf (lk:Nat→Option Value):Operand→Option Value
  | .tmp t=>lk t
  | .const v=>some v
  | .func f=>some (.func (.func f) #[] #[])
  | .global _=>none
def zoh (lk:Nat→Option Value) (ops:Array Oper):Option (Nat×Bool)→Option Bool
  | none=>some true
  | some (j,b)=>match (ops[j]?).bind (·.dst) with
    | some t=>match lk t with
      | some (.bool c)=>some (c==b)
      | some (.tuple _)=>some false
      | _=>none
    | none=>none
def znn (lk:Nat→Option Value) (N:Nat) (ops:Array Oper) (o:Oper):Option (Nat×Value) :=
  match o.dst with
  | none=>none
  | some d=>match Nat.blt d N with
    | false=>none
    | true=>match zoh lk ops o.guard with
      | none=>none
      | some false=>some (d,undef)
      | some true=>match o.op with
        | .move x=>match znf lk x with
          | some v=>some (d,v)
          | none=>none
        | .assign x=>match znf lk x with
          | some v=>some (d,v)
          | none=>none
        | .pick x y z=>match znf lk x with
          | some (.bool true)=>match znf lk y with
            | some v=>some (d,v)
            | none=>none
          | some (.bool false)=>match znf lk z with
            | some v=>some (d,v)
            | none=>none
          | _=>none
        | _=>none
theorem zgX {lk:Nat→Option Value} {S:List (Nat×Value)} (hl:∀ t v,lk t=some v→S.lookup t=some v) {x:Operand} {v:Value} (h:znf lk x=some v):ev S x=some v:=by
  cases x with
  | tmp t=>exact hl t v h
  | const c=>exact h
  | func f=>exact h
  | global g=>exact h
theorem zmH {lk:Nat→Option Value} {S:List (Nat×Value)} {ops:Array Oper} (hl:∀ t v,lk t=some v→S.lookup t=some v) {g:Option (Nat×Bool)} {r:Bool} (h:zoh lk ops g=some r):gd ops S g=some r:=by
  cases g with
  | none=>exact h
  | some p =>
    obtain ⟨j,b⟩:=p
    unfold zoh at h; unfold gd
    dsimp only at h ⊢
    cases ht:(ops[j]?).bind (·.dst) with
    | none=>rw [ht] at h; cases h
    | some t =>
      rw [ht] at h; dsimp only at h ⊢
      cases hk:lk t with
      | none=>rw [hk] at h; cases h
      | some v=>rw [hk] at h; rw [hl t v hk]; exact h
theorem zi6 {F:Fence} [WideF F] {P:Program} {w0:World} {K:Nat→Prop} {N:Nat} {dfs:List Deferred} {ops:Array Oper} {Q:Exit→Act→World→Prop} {rest:List Oper} {lk:Nat→Option Value} {S:List (Nat×Value)} {L:List Asn} {o:Oper} {t:Nat} {v:Value}
    (hl:∀ t v,lk t=some v→S.lookup t=some v) (e:znn lk N ops o=some (t,v)) (h:TO F P w0 K N dfs ops Q rest ((t,v)::S) L):TO F P w0 K N dfs ops Q (o::rest) S L:=by
  obtain ⟨dst,op,ty,pos,aft,g⟩:=o
  unfold znn at e
  cases dst with
  | none=>cases e
  | some d =>
    dsimp only at e
    cases hb:Nat.blt d N with
    | false=>rw [hb] at e; cases e
    | true =>
    have hd:d<N:=Nat.lt_of_lt_of_le (Nat.lt_succ_self d) (Nat.le_of_ble_eq_true hb)
    rw [hb] at e; dsimp only at e
    cases hg:zoh lk ops g with
    | none=>rw [hg] at e; cases e
    | some gb =>
      rw [hg] at e
      have hg':=zmH hl hg
      cases gb with
      | false=>cases e; exact zna hg' hd h
      | true =>
        cases op <;> dsimp only at e <;> first | (cases e; done) | skip
        · split at e
          · cases e; exact zfl hg' hd (zgX hl (by assumption)) h
          · cases e
        · split at e
          · cases e; exact zlN hg' hd (zgX hl (by assumption)) h
          · cases e
        · split at e
          · split at e
            · cases e; exact zlL (b:=true) hg' hd (zgX hl (by assumption)) (zgX hl (by assumption)) h
            · cases e
          · split at e
            · cases e; exact zlL (b:=false) hg' hd (zgX hl (by assumption)) (zgX hl (by assumption)) h
            · cases e
          · cases e
def zou (N:Nat) (ops:Array Oper):Nat→List Oper→List (Nat×Value)→Option (List Oper×List (Nat×Value))
  | 0,r,σ=>some (r,σ)
  | n+1,o::r,σ=>match znn (fun t=>σ.lookup t) N ops o with
    | some p=>zou N ops n r (p::σ)
    | none=>none
  | _+1,[],_=>none
theorem zyR {F:Fence} [WideF F] {P:Program} {w0:World} {K:Nat→Prop} {N:Nat} {dfs:List Deferred} {ops:Array Oper} {Q:Exit→Act→World→Prop} {L:List Asn} (n:Nat):∀ {rest rest':List Oper} {σ σ':List (Nat×Value)},
    zou N ops n rest σ=some (rest',σ')→TO F P w0 K N dfs ops Q rest' σ' L→TO F P w0 K N dfs ops Q rest σ L:=by
  induction n with
  | zero=>intro rest rest' σ σ' e h; cases e; exact h
  | succ n ih =>
    intro rest rest' σ σ' e h
    cases rest with
    | nil=>cases e
    | cons o r =>
      simp only [zou] at e
      split at e
      · exact zi6 (fun _ _ h=>h) (by assumption) (ih e h)
      · cases e
def zno (deps:List Nat) (σ:List (Nat×Value)) (t:Nat):List (Nat×Nat×Value)→Option Value
  | []=>σ.lookup t
  | (i,t',v)::r=>match Nat.beq t t' with
    | true=>match deps.contains i with
      | true=>some v
      | false=>none
    | false=>zno deps σ t r
theorem zi7 {D:Nat→Prop} {deps:List Nat} {σ:List (Nat×Value)} (hd:∀ j∈deps,D j) (t:Nat) (v:Value):∀ {vals:List (Nat×Nat×Value)},zno deps σ t vals=some v→(dl D vals++σ).lookup t=some v
  | [],h=>h
  | (i,t',v')::r,h=>by
    unfold zno at h
    cases hb:Nat.beq t t' with
    | true =>
      rw [hb] at h; dsimp only at h
      have e:t=t':=Nat.eq_of_beq_eq_true hb
      subst e
      split at h
      · cases h
        have hD:D i:=hd i (by simpa using (by assumption:deps.contains i=true))
        simp only [dl]
        rw [if_pos hD]
        simp
      · cases h
    | false =>
      rw [hb] at h; dsimp only at h
      have ih:=zi7 (σ:=σ) hd t v h
      have hn:(t==t')=false:=by
        have:t≠t':=Nat.ne_of_beq_eq_false hb
        simpa using this
      simp only [dl]
      split
      · simp only [List.cons_append,List.lookup,hn]; exact ih
      · exact ih
def zlU (N:Nat) (ops:Array Oper) (σ:List (Nat×Value)) (vals:List (Nat×Nat×Value)):Nat→List Oper→Nat→Option (List Oper×Nat×List (Nat×Nat×Value))
  | 0,r,i=>some (r,i,[])
  | n+1,o::r,i=>match znn (fun t=>zno (zb9 o) σ t vals) N ops o with
    | some p=>match zlU N ops σ vals n r (i+1) with
      | some q=>some (q.1,q.2.1,(i,p.1,p.2)::q.2.2)
      | none=>none
    | none=>none
  | _+1,[],_=>none
section
variable {F:Fence} {P:Program} {w0:World} {K:Nat→Prop} {N:Nat} {dfs:List Deferred} {Q:Exit→Act→World→Prop} {σ:List (Nat×Value)} {L:List Asn} {ops:Array Oper}
theorem zgk {vals:List (Nat×Nat×Value)} {n m i i':Nat} {o:Oper} {r rest':List Oper} (e:zlU N ops σ vals (n+1) (o::r) i=some (rest',i',(vals.drop m).take (n+1))) :
    ∃ t v,znn (fun t=>zno (zb9 o) σ t vals) N ops o=some (t,v)∧vals[m]?=some (i,t,v)∧zlU N ops σ vals n r (i+1)=some (rest',i',(vals.drop (m+1)).take n):=by
  simp only [zlU] at e
  split at e
  · rename_i p hp
    split at e
    · rename_i q hq
      obtain ⟨q1,q2,q3⟩:=q
      simp only [Option.some.injEq,Prod.mk.injEq] at e
      obtain ⟨rfl,rfl,e⟩:=e
      cases hdr:vals.drop m with
      | nil=>rw [hdr] at e; simp at e
      | cons x xs =>
        rw [hdr,List.take_succ_cons,List.cons.injEq] at e
        have hm:vals[m]?=some x:=by
          have:(vals.drop m)[0]?=some x:=by rw [hdr]; rfl
          simpa using this
        refine ⟨p.1,p.2,hp,by rw [hm,← e.1],?_⟩
        have:vals.drop (m+1)=xs:=by rw [← List.drop_drop,hdr]; rfl
        rw [this,← e.2]; exact hq
    · cases e
  · cases e
theorem zyP [WideF F] {vals:List (Nat×Nat×Value)} (n m:Nat):∀ {l rest':List Oper} {i i':Nat},zlU N ops σ vals n l i=some (rest',i',(vals.drop m).take n) →
    DrawPre F P w0 K N dfs Q ops σ L vals rest' i'→DrawPre F P w0 K N dfs Q ops σ L vals l i:=by
  induction n generalizing m with
  | zero=>intro l rest' i i' e h; cases e; exact h
  | succ n ih =>
    intro l rest' i i' e h
    cases l with
    | nil=>cases e
    | cons o r =>
      obtain ⟨t,v,h1,h2,h3⟩:=zgk e
      exact zad (fun D hn hd hcl hu hi=>zi6 (fun t v h=>zi7 hd t v h) h1 (zaf m hu hi h2)) (ih (m+1) h3 h)
theorem zyE [WideF F] {vals:List (Nat×Nat×Value)} {x:Nat} (n m:Nat):∀ {l rest':List Oper} {i i':Nat},zlU N ops σ vals n l i=some (rest',i',(vals.drop m).take n) →
    DrawPreX F P w0 K N dfs Q ops σ L vals x rest' i'→DrawPreX F P w0 K N dfs Q ops σ L vals x l i:=by
  induction n generalizing m with
  | zero=>intro l rest' i i' e h; cases e; exact h
  | succ n ih =>
    intro l rest' i i' e h
    cases l with
    | nil=>cases e
    | cons o r =>
      obtain ⟨t,v,h1,h2,h3⟩:=zgk e
      exact zaW (fun D hn hd hcl hu hi=>zi6 (fun t v h=>zi7 hd t v h) h1 (zaf m hu hi h2)) (ih (m+1) h3 h)
def zyQ {β:Type} (S:List Nat) (LL:(Nat→Prop)→β→List Asn):Prop:=∀ i,S.contains i=false→∀ D b,LL (fun j=>D j∨j=i) b=LL D b
theorem ziw {D:Nat→Prop} {i:Nat} {base:Asn} {r:List (Nat×Asn)} {S:List Nat} (hs:(r.map Prod.fst).all (fun x=>S.contains x)=true) (h:S.contains i=false):eD (fun j=>D j∨j=i) base r=eD D base r:=by
  refine zal ?_
  cases hc:(r.map Prod.fst).contains i with
  | false=>rfl
  | true =>
    have h1:i∈r.map Prod.fst:=by simpa using hc
    have h2:=List.all_eq_true.1 hs i h1
    have h3:S.contains i=true:=h2
    rw [h] at h3; cases h3
theorem zov {β:Type} {vals:β→List (Nat×Nat×Value)} {LL:(Nat→Prop)→β→List Asn} (hb:¬ Nonempty β):∀ (l:List Oper) (i:Nat),DrawG F P w0 K N dfs Q ops σ vals LL l i
  | [],_=>trivial
  | o::r,i=>⟨fun D b=>absurd ⟨b⟩ hb,zov hb r (i+1)⟩
theorem zyq {β:Type} {vals:β→List (Nat×Nat×Value)} {LL:(Nat→Prop)→β→List Asn} {S:List Nat} {o:Oper} {rest:List Oper} {i:Nat} (hq:zyQ S LL) (hs:S.contains i=false)
    (hu:∀ b,zb6 ((vals b).map (fun p=>p.2.1))=true) (hi:∀ b,zb6 ((vals b).map (fun p=>p.1))=true)
    (h:∀ (D:Nat→Prop) (b:β),¬ D i→(∀ j∈zb9 o,D j)→Clo ops D→zb6 ((vals b).map (fun p=>p.2.1))=true→zb6 ((vals b).map (fun p=>p.1))=true →
      TO F P w0 K N dfs ops (Exit.then (fun a w=>At N dfs (dl (fun j=>D j∨j=i) (vals b)++σ) a∧Holds w0 K (LL D b) w) Q) [o] (dl D (vals b)++σ) (LL D b))
    (hr:DrawG F P w0 K N dfs Q ops σ vals LL rest (i+1)):DrawG F P w0 K N dfs Q ops σ vals LL (o::rest) i :=
  zas (fun D b hn hd hcl a w ha hw=>by
    have h0:=h D b hn hd hcl (hu b) (hi b) a w ha hw
    exact zbn (fun a' w' h2=>⟨b,h2.1,by rw [hq i hs D b]; exact h2.2⟩) h0) hr
theorem zj4 [WideF F] {β:Type} {vals:β→List (Nat×Nat×Value)} {LL:(Nat→Prop)→β→List Asn} {S:List Nat} (hq:zyQ S LL)
    (hu:∀ b,zb6 ((vals b).map (fun p=>p.2.1))=true) (hi:∀ b,zb6 ((vals b).map (fun p=>p.1))=true) (n m:Nat):∀ {l rest':List Oper} {i i':Nat},
    (∀ b,zlU N ops σ (vals b) n l i=some (rest',i',((vals b).drop m).take n))→(List.range n).all (fun j=>!S.contains (i+j))=true →
    DrawG F P w0 K N dfs Q ops σ vals LL rest' i'→DrawG F P w0 K N dfs Q ops σ vals LL l i:=by
  induction n generalizing m with
  | zero =>
    intro l rest' i i' e hs h
    by_cases hb:Nonempty β
    · obtain ⟨b⟩:=hb
      have e:=e b
      simp only [zlU,Option.some.injEq,Prod.mk.injEq] at e
      obtain ⟨rfl,rfl,_⟩:=e
      exact h
    · exact zov hb _ _
  | succ n ih =>
    intro l rest' i i' e hs h
    by_cases hb:Nonempty β
    · obtain ⟨b0⟩:=hb
      cases l with
      | nil=>exact absurd (e b0) (by simp [zlU])
      | cons o r =>
        have hs0:S.contains i=false:=by
          have:=List.all_eq_true.1 hs 0 (by simp)
          simpa using this
        have hs1:(List.range n).all (fun j=>!S.contains (i+1+j))=true:=by
          refine List.all_eq_true.2 fun j hj => ?_
          have:=List.all_eq_true.1 hs (j+1) (by simp at hj ⊢; omega)
          rwa [show i+(j+1)=i+1+j by omega] at this
        refine zyq hq hs0 hu hi (fun D b hn hd hcl hu' hi' => ?_) (ih (m+1) (fun b => ?_) hs1 h)
        · obtain ⟨t,v,h1,h2,h3⟩:=zgk (e b)
          exact zi6 (fun t v h=>zi7 hd t v h) h1 (zaf m hu' hi' h2)
        · obtain ⟨t,v,h1,h2,h3⟩:=zgk (e b)
          exact h3
    · exact zov hb _ _
end
section
variable {F:Fence} {P:Program} {w0:World} {K:Nat→Prop} {N:Nat} {dfs:List Deferred} {Q:Exit→Act→World→Prop} {σ:List (Nat×Value)} {L:List Asn} {ops:Array Oper}
theorem zgV {β:Type} {vals:β→List (Nat×Nat×Value)} {LL:(Nat→Prop)→β→List Asn} {S:List Nat} {o:Oper} {rest:List Oper} {i:Nat} (hq:zyQ S LL) (hs:S.contains i=false)
    (hu:∀ b,zb6 ((vals b).map (fun p=>p.2.1))=true) (hi:∀ b,zb6 ((vals b).map (fun p=>p.1))=true)
    (h:∀ (D:Nat→Prop) (b:β),¬ D i→(∀ j∈zb9 o,D j)→Clo ops D→zb6 ((vals b).map (fun p=>p.2.1))=true→zb6 ((vals b).map (fun p=>p.1))=true→∃ L',LL D b=L' ∧
      TO F P w0 K N dfs ops (Exit.then (fun a w=>At N dfs (dl (fun j=>D j∨j=i) (vals b)++σ) a∧Holds w0 K L' w) Q) [o] (dl D (vals b)++σ) L')
    (hr:DrawG F P w0 K N dfs Q ops σ vals LL rest (i+1)):DrawG F P w0 K N dfs Q ops σ vals LL (o::rest) i :=
  zyq hq hs hu hi (fun D b hn hd hcl hu hi=>by obtain ⟨L',e,h0⟩:=h D b hn hd hcl hu hi; rw [e]; exact h0) hr
end
section
variable {R:Type} {F:Fence} {P:Program} {w0:World} {K:Nat→Prop} {N:Nat} {dfs:List Deferred} {ops:Array Oper} {Q:Exit→Act→World→Prop} {rest:List Oper} {σ:List (Nat×Value)} {L:List Asn} {x:Operand} {c c1 c2:Code} {p q:Option R} {r:R} {b:Bool}
theorem zyB (hc:ev σ x=some (.bool b)) (h:zav b p q=some r) (ht:p=some r→TC F P w0 K N dfs Q c1 σ L) (hf:q=some r→TC F P w0 K N dfs Q c2 σ L):TC F P w0 K N dfs Q (.cond x c1 c2) σ L:=zmq hc (fun e=>ht (zfI e h)) (fun e=>hf (zfJ e h))
theorem zaO [WideF F] {b:BinOp} {t yt ty:TypeId} {d:Nat} {pos:String} {aft:Array Edge} {g:Option (Nat×Bool)} {x y:Operand} {v v1 v2:Value} (e:(gd ops σ g,decide (d<N),ev σ x,ev σ y)=(some true,true,some v1,some v2))
    (hb:∀ w:World,(do eqGuard b t x y v1 v2; binOp b t v1 v2:Sem Value).run P w=.ok v w) (h:TO F P w0 K N dfs ops Q rest ((d,v)::σ) L) :
    TO F P w0 K N dfs ops Q (⟨some d,.binOp b t x y yt,ty,pos,aft,g⟩::rest) σ L:=by
  simp only [Prod.mk.injEq] at e
  exact zbJ e.1 (of_decide_eq_true e.2.1) e.2.2.1 e.2.2.2 hb h
theorem zyN (h:TC F P w0 K N dfs Q c σ L):TO F P w0 K N dfs ops (Exit.then (c.wpIn F 0 P Q) Q) [] σ L:=zaV (zaE h)
theorem zyG {id:Nat} {l:List Oper} (h:TO F P w0 K N dfs l.toArray (Exit.then (c.wpIn F 0 P Q) Q) l σ L):TC F P w0 K N dfs Q (.seq (.region id l.toArray false) c) σ L:=zay (zaA h)
theorem zyH {id:Nat} {l:List Oper} (h:TO F P w0 K N dfs l.toArray (Exit.then (c.wpIn F 0 P Q) Q) l σ L):TO F P w0 K N dfs ops (Exit.then ((Code.seq (.region id l.toArray false) c).wpIn F 0 P Q) Q) [] σ L:=zaV (zaE (zay (zaA h)))
theorem zyS {s:Nat} (hs:σ.lookup s=some (.bool b)) (h:zav b p q=some r) (ht:p=some r→TO F P w0 K N dfs ops Q rest ((s,.bool true)::σ) L) (hf:q=some r→TO F P w0 K N dfs ops Q rest ((s,.bool false)::σ) L):TO F P w0 K N dfs ops Q rest σ L:=zmm hs (fun e=>ht (zfI e h)) (fun e=>hf (zfJ e h))
theorem zyO (h:zav b p q=some r) (ht:p=some r→TO F P w0 K N dfs ops Q rest σ L) (hf:q=some r→TO F P w0 K N dfs ops Q rest σ L):TO F P w0 K N dfs ops Q rest σ L:=zdg (b:=b) (fun e=>ht (zfI e h)) (fun e=>hf (zfJ e h))
theorem zyC (h:zav b p q=some r) (ht:p=some r→TC F P w0 K N dfs Q c σ L) (hf:q=some r→TC F P w0 K N dfs Q c σ L):TC F P w0 K N dfs Q c σ L:=zev (b:=b) (fun e=>ht (zfI e h)) (fun e=>hf (zfJ e h))
abbrev zpB (F:Fence) (P:Program) (w0:World) (K:Nat→Prop) (N:Nat) (dfs:List Deferred) (ops:Array Oper) (Q:Exit→Act→World→Prop) (rest:List Oper) (σ:List (Nat×Value)) (L:List Asn):Prop:=TO F P w0 K N dfs ops Q rest σ L
end
abbrev zr0 (x:Gapi_Layout):List Value:=[zI x.Width,zI x.Height,zI x.Turn,zI x.Every]
abbrev zr1 (x:Gapi_Cell):List Value:=[zI x.Span_From,zI x.Span_To,zI x.Columns]
abbrev zr2 (x:Gapi_Piece):List Value:=[zI x.At,zI x.Width,.int .i32 x.Rune,.bool x.Broken]
abbrev zr3 (x:Gapi_Verse):List Value:=[.string x.Text,zI x.Indent,zI x.Stanza,zI x.In,zI x.Span_From,zI x.Span_To]
abbrev zr4 (x:Gapi_Row):List Value:=[zI x.Line,zI x.Stanza,zI x.Part,zI x.Indent,zI x.Number,.string x.Text]
abbrev zr5 (x:Gapi_Spot):List Value:=[zI x.Err,zI x.At]
abbrev zr6 (x:Gpage_best):List Value:=[zI x.cost,zI x.rows,zI x.to_]
abbrev zr7 (x:Gapi_Span):List Value:=[zI x.From,zI x.To]
abbrev zv0 (v:Value):=vec (zmh (.i64)) 3 1 v
abbrev zv1 (v:Value):=vec zbI 33 6 v
abbrev zv2 (v:Value):=vec zcu 157 4 v
abbrev zv3 (v:Value):=vec zcW 155 5 v
abbrev zv4 (v:Value):=vec zdL 40 3 v
abbrev zv5 (v:Value):=vec zhX 9 1 v
abbrev zv6 (v:Value):=vec zcV 76 6 v
abbrev zv7 (v:Value):=vec zde 38 2 v
abbrev zv8 (v:Value):=vec zf0 176 3 v
def ze7 (r1:Int):Option Int :=
zbp (fun (j1:Option Int) =>
zav ((r1:Int) != 65533) (
zav (decide (Utf8.encode r1=(⟨#[239,191,189]⟩:ByteArray))) (
some 0
) (
j1
)
) (
j1
)
) (
some ((Utf8.encode r1).size:Int)
)
theorem ziC {r1:Int} {r:Int} (h:ze7 r1=some r):FnP Tryz.prog 102 [.int .i32 r1] (zI r):=by
 unfold ze7 at h
 refine FnP.intro Tryz.func102 rfl Tryz.ntmps102 (by simp) ?_
 intro w0 K
 obtain ⟨j1,hj1,h⟩:=zbw h
 refine zaU (β:=Unit) 1 rfl (fun b=>j1=some r) (fun b=>[]) (fun b=>[(0,.int .i32 r1)]) (fun b=>[]) (fun cut => ?_) ?_
 ·
  refine zyG (zyR 1 rfl (zyN (cut (zyG (zyR 1 rfl (zaO rfl zbq (zyR 1 rfl ?_)))))))
  refine zyS (s:=5) rfl h (fun h => ?_) (fun h => ?_)
  ·
   refine zyR 1 rfl (zhm rfl dc rfl (zgN Tryz.underlying21 Tryz.underlying9) (zaO rfl zeL (zyR 1 rfl (zyN ?_))))
   refine zyB rfl h (fun h => ?_) (fun h => ?_)
   ·
    refine zyG (zyR 1 rfl (zyN (zau (zah ?_))))
    cases h
    exact zaC (rs:=[.tmp 2]) () (.inl rfl) Tryz.results102 (.cons (.tmp rfl) .nil) rfl Splits.nil
   refine zat ?_
   exact zaq () h rfl (za7 rfl) Splits.nil
  refine zyR 4 rfl (zyN (zaL rfl (zat ?_)))
  exact zaq () h rfl (za7 rfl) Splits.nil
 rintro _ h
 rw [hj1] at h
 refine zyG (zyR 1 rfl (zhm rfl dc rfl (zgN Tryz.underlying21 Tryz.underlying9) (zbG rfl dc rfl Tryz.underlying9 (zyR 1 rfl (zyN (zau ?_))))))
 cases h
 exact zaC (rs:=[.tmp 2]) () (.inl rfl) Tryz.results102 (.cons (.tmp rfl) .nil) rfl Splits.nil
def zdD (s1:ByteArray) (at1:Int) (j1:Option Gapi_Piece) (ag1:Option Gapi_Piece):Option Gapi_Piece :=
zav (decide (0<(pcs (zdx s1 at1 (s1.size:Int)).data.toList).length)) (
zar ((pcs (zdx s1 at1 (s1.size:Int)).data.toList)[0]?) fun (p1:Pc) =>
zbp (fun (j2:Int→Option Gapi_Piece) =>
zar (ze7 (p1.r:Int)) fun (r1:Int) =>
zav (((p1.r:Int):Int)==65533) (
grd (I64 ((s1.size:Int) - at1)) <|
zav (decide ((((s1.size:Int) - at1):Int)<3)) (
some (⟨at1,1,65533,true⟩:Gapi_Piece)
) (
grd (I64 (at1+3)) <|
grd (0≤(at1:Int)∧(at1:Int)≤(at1+3)∧(at1+3:Int)≤(s1.size:Int)) <|
zav (!decide (zdx s1 at1 (at1+3)=(⟨#[239,191,189]⟩:ByteArray))) (
some (⟨at1,1,65533,true⟩:Gapi_Piece)
) (
j2 r1
)
)
) (
j2 r1
)
) (fun (n2:Int) =>
some (⟨at1,n2,(p1.r:Int),false⟩:Gapi_Piece)
)
) (
j1
)
def zfz (s1:ByteArray) (at1:Int):Option Gapi_Piece :=
zbp (fun (j1:Option Gapi_Piece) =>
grd (0≤(at1:Int)∧(at1:Int)≤(s1.size:Int)∧((s1.size:Int):Int)≤(s1.size:Int)) <|
za9 none (zdD s1 at1 j1) zcN
) (
some (⟨0,0,0,false⟩:Gapi_Piece)
)
theorem zjg {s1:ByteArray} {at1:Int} {r:Gapi_Piece} (h:zfz s1 at1=some r):FnP Tryz.prog 70 [.string s1,zI at1] (.agg (zr2 r).toArray):=by
 unfold zfz at h
 refine FnP.intro Tryz.func70 rfl Tryz.ntmps70 (by simp) ?_
 intro w0 K
 obtain ⟨j1,hj1,h⟩:=zbw h
 refine zaU (β:=Nat) 1 rfl (fun b=>j1=some r) (fun b=>[]) (fun b=>[(4,zP b)]) (fun b=>[cells b [zI 0,zI 0,.int .i32 0,.bool false] 85]) (fun cut => ?_) ?_
 ·
  refine zyG ?_
  refine zbb zmJ rfl dc (fun b2 => ?_)
  refine zyN (cut (zyG (zyR 2 rfl ?_)))
  obtain ⟨hg1,h⟩:=zbs h
  refine zd5 rfl dc rfl rfl rfl (zb7 (i:=at1) (j:=(s1.size:Int)) Tryz.underlying9 (.inr rfl) (.inl ⟨rfl,rfl⟩) hg1) ?_
  refine zdc Tryz.underlying9 rfl dc rfl (fun b3 => ?_)
  refine zyN (zaB ?_)
  refine zbm (β:=Nat) (fun b=>za9 none (zdD s1 at1 j1) b=some r) (fun b=>[]) (fun b=>[(0,.string s1),(1,zI at1),(4,zP b2),(11,zP b3)]) (fun b=>[cells b2 [zI 0,zI 0,.int .i32 0,.bool false] 85,obj b3 (.stringIter (zdx s1 at1 (s1.size:Int)) (zeg (zdx s1 at1 (s1.size:Int)) 0))]) (fun b=>b) zcN h rfl (za7 rfl) (zae [0,1] kr rfl) ?_
  rintro n1 h
  cases n1 with
  | zero=>exact zcS h
  | succ n1 =>
   obtain ⟨ag1,hag1⟩:∃ ag,ag=za9 none (zdD s1 at1 j1) n1:=⟨_,rfl⟩
   have h:zdD s1 at1 j1 ag1=some r:=by rw [hag1]; exact h
   unfold zdD at h
   refine zyG ?_
   refine zdg (b:=decide (0<(pcs (zdx s1 at1 (s1.size:Int)).data.toList).length)) (fun hb1 => ?_) (fun hb1 => ?_)
   ·
    have h:=zfI hb1 h
    obtain ⟨p1,hq1,h⟩:=zbl h
    refine zdz (k:=1) (m:=0) (p:=p1) rfl dc rfl rfl hq1 (zax rfl dc rfl rfl (zyN (zay (za0 rfl (zat (zaE (zaB ?_)))))))
    obtain ⟨j2,hj2,h⟩:=zbw h
    refine zaU (β:=Int) 2 rfl (fun b=>j2 b=some r) (fun b=>[]) (fun b=>[(1,zI at1),(4,zP b2),(6,.int .i32 (p1.r:Int)),(7,zI b)]) (fun b=>[cells b2 [zI 0,zI 0,.int .i32 0,.bool false] 85]) (fun cut => ?_) ?_
    ·
     refine zyG (zax rfl dc rfl rfl (zyR 1 rfl (zyH (zyR 1 rfl ?_))))
     obtain ⟨r1,hq2,h⟩:=zbl h
     refine za5 (v:=zI r1) (vs:=[.int .i32 (p1.r:Int)]) rfl dc rfl rfl rfl zn5 (ziC hq2) (zyR 1 rfl (zyN (cut (zyG (zyR 1 rfl (zaO rfl zaP (zyR 1 rfl ?_)))))))
     refine zyS (s:=19) rfl h (fun h => ?_) (fun h => ?_)
     ·
      refine zyR 1 rfl (zbG rfl dc rfl Tryz.underlying9 (zyR 1 rfl ?_))
      obtain ⟨hg2,h⟩:=zbs h
      refine zaO rfl (zbD (r:=(s1.size:Int) - at1) (IntWalk.i64_in _ hg2)) (zaO rfl zbv (zyR 1 rfl ?_))
      refine zyS (s:=25) rfl h (fun h => ?_) (fun h => ?_)
      ·
       refine zyR 8 rfl (zyN (za0 rfl (zyG (zyR 1 rfl ?_))))
       refine zbg (v:=.agg #[zI at1,zI 1,.int .i32 65533,.bool true]) (ps:=[(0,.tmp 34),(1,.const (zI 1)),(2,.const (.int .i32 65533)),(3,.const (.bool true))]) rfl dc rfl (fun _=>by kernel_rfl) ?_
       refine zaR (k:=0) (vs:=[zI at1,zI 1,.int .i32 65533,.bool true]) (l':=[zI at1,zI 1,.int .i32 65533,.bool true]) zjb rfl rfl rfl rfl rfl (show _≤_ by simp) rfl rfl ?_
       refine zyN (zau (zah (zaj (zah (zaj (zah ?_))))))
       cases h
       exact zaC (rs:=[.cell 4 85]) () (.inl rfl) Tryz.results70 (.cons (.cells zfr (k:=0) rfl rfl rfl) .nil) rfl Splits.nil
      refine zyR 3 rfl ?_
      obtain ⟨hg3,h⟩:=zbs h
      refine zaO rfl (zaT (r:=at1+3) (IntWalk.i64_in _ hg3)) ?_
      obtain ⟨hg4,h⟩:=zbs h
      refine zd5 rfl dc rfl rfl rfl (zb7 (i:=at1) (j:=at1+3) Tryz.underlying9 (.inr rfl) (.inr rfl) hg4) (zaO rfl zgP (zyR 2 rfl (zyN ?_)))
      refine zyB rfl h (fun h => ?_) (fun h => ?_)
      ·
       refine zyG (zyR 1 rfl ?_)
       refine zbg (v:=.agg #[zI at1,zI 1,.int .i32 65533,.bool true]) (ps:=[(0,.tmp 34),(1,.const (zI 1)),(2,.const (.int .i32 65533)),(3,.const (.bool true))]) rfl dc rfl (fun _=>by kernel_rfl) ?_
       refine zaR (k:=0) (vs:=[zI at1,zI 1,.int .i32 65533,.bool true]) (l':=[zI at1,zI 1,.int .i32 65533,.bool true]) zjb rfl rfl rfl rfl rfl (show _≤_ by simp) rfl rfl ?_
       refine zyN (zau (zah (zaj (zah (zaj (zah ?_))))))
       cases h
       exact zaC (rs:=[.cell 4 85]) () (.inl rfl) Tryz.results70 (.cons (.cells zfr (k:=0) rfl rfl rfl) .nil) rfl Splits.nil
      refine zat ?_
      exact zaq r1 h rfl (za7 rfl) (zae [0] kr rfl)
     refine zyR 14 rfl ?_
     refine zyN (zaL rfl (zat ?_))
     exact zaq r1 h rfl (za7 rfl) (zae [0] kr rfl)
    rintro n2 h
    rw [hj2] at h
    refine zyG (zyR 3 rfl ?_)
    refine zbg (v:=.agg #[zI at1,zI n2,.int .i32 (p1.r:Int),.bool false]) (ps:=[(0,.tmp 36),(1,.tmp 37),(2,.tmp 38)]) rfl dc rfl (fun _=>by kernel_rfl) ?_
    refine zaR (k:=0) (vs:=[zI at1,zI n2,.int .i32 (p1.r:Int),.bool false]) (l':=[zI at1,zI n2,.int .i32 (p1.r:Int),.bool false]) zjb rfl rfl rfl rfl rfl (show _≤_ by simp) rfl rfl (zyN (zau (zaj (zah (zaj (zah ?_))))))
    cases h
    exact zaC (rs:=[.cell 4 85]) () (.inl rfl) Tryz.results70 (.cons (.cells zfr (k:=0) rfl rfl rfl) .nil) rfl Splits.nil
   have h:=zfJ hb1 h
   refine zdA (k:=1) (m:=0) rfl dc rfl rfl (Nat.le_of_not_lt (of_decide_eq_false hb1)) (zax rfl dc rfl rfl (zyN (zay (zaL rfl (za6 (zao (zao (zaw ?_))))))))
   exact zaq b2 h rfl (za7 rfl) (zae [0] kr rfl)
 rintro b1 h
 rw [hj1] at h
 refine zyG ?_
 refine zbg (v:=.agg #[zI 0,zI 0,.int .i32 0,.bool false]) (ps:=[]) rfl dc rfl (fun _=>by kernel_rfl) ?_
 refine zaR (k:=0) (vs:=[zI 0,zI 0,.int .i32 0,.bool false]) (l':=[zI 0,zI 0,.int .i32 0,.bool false]) zjb rfl rfl rfl rfl rfl (show _≤_ by simp) rfl rfl (zyN (zau ?_))
 cases h
 exact zaC (rs:=[.cell 4 85]) () (.inl rfl) Tryz.results70 (.cons (.cells zfr (k:=0) rfl rfl rfl) .nil) rfl Splits.nil
def zcE (c0:ByteArray) (ag1:Nat→Option (List Gapi_Piece)) (m3:Nat):Option (List Gapi_Piece) :=
zav (decide (m3<(pcs c0.data.toList).length)) (
zar ((pcs c0.data.toList)[m3]?) fun (p1:Pc) =>
zar (zfz c0 (p1.i:Int)) fun (r1:Gapi_Piece) =>
zhi r1 <|
ag1 (m3+1)
) (
some []
)
def zef (c0:ByteArray):Option (List Gapi_Piece) :=
za9 (fun _=>none) (zcE c0) zcN 0
theorem zgm {b_c0:Nat} {c0:ByteArray} {xs:(List Gapi_Piece)} (h:zef c0=some xs):Itr Tryz.prog 69 [zP b_c0] (fun q:Gapi_Piece=>[.agg (zr2 q).toArray]) xs [(b_c0,.cells #[.string c0] 9 (0,0))]:=by
 unfold zef at h
 refine Itr.intro Tryz.func69 rfl Tryz.ntmps69 (by simp) ?_
 intro l w0 K I X hRo hy
 obtain ⟨r0,hx0⟩:∃ r,xs=[]++r:=⟨xs,rfl⟩
 have hr0:xs=r0:=hx0
 rw [hr0] at h
 refine zyG (ziq (i:=0) hRo ziz rfl dc rfl rfl rfl ?_)
 refine zdc Tryz.underlying9 rfl dc rfl (fun b1 => ?_)
 refine zyN (zaB ?_)
 refine zbm (β:=Nat×Nat×(List Gapi_Piece)×(List Gapi_Piece)) (fun b=>za9 (fun _=>none) (zcE c0) b.1 b.2.1=some b.2.2.2∧xs=b.2.2.1++b.2.2.2) (fun b=>[]) (fun b=>[(0,.func (.yield l) #[] #[]),(1,zP b_c0),(5,zP b1)]) (fun b=>[I b.2.2.1,obj b1 (.stringIter c0 (zeg c0 b.2.1))]) (fun b=>b.1) (zcN,0,([]:List Gapi_Piece),r0) ⟨h,hx0⟩ rfl (za7 rfl) (zae [0,1] kr rfl) ?_
 rintro ⟨n1,m3,acc3,rr3⟩ ⟨h,hx3⟩
 cases n1 with
 | zero=>exact zcS h
 | succ n1 =>
  obtain ⟨ag1,hag1⟩:∃ ag,ag=za9 (fun _=>none) (zcE c0) n1:=⟨_,rfl⟩
  have h:zcE c0 ag1 m3=some rr3:=by rw [hag1]; exact h
  unfold zcE at h
  refine zyG ?_
  refine zdg (b:=decide (m3<(pcs c0.data.toList).length)) (fun hb1 => ?_) (fun hb1 => ?_)
  ·
   have h:=zfI hb1 h
   obtain ⟨p1,hq1,h⟩:=zbl h
   refine zdz (k:=1) (m:=m3) (p:=p1) rfl dc rfl rfl hq1 (zax rfl dc rfl rfl (zyN (zay (za0 rfl (zat (zaE (zaB (zyG (zax rfl dc rfl rfl (zyR 1 rfl (zaV ?_)))))))))))
   refine zaE (zyG (zyR 1 rfl (ziq (i:=0) hRo ziz rfl dc rfl rfl rfl (zyR 1 rfl ?_))))
   obtain ⟨r1,hq2,h⟩:=zbl h
   refine za5 (v:=.agg (zr2 r1).toArray) (vs:=[.string c0,zI (p1.i:Int)]) rfl dc rfl rfl rfl zoS (zjg hq2) ?_
   obtain ⟨rr4,hr1,h⟩:=zhH h
   have hx4:xs=acc3++r1::rr4:=by rw [hx3,hr1]
   refine zdq hy rfl dc rfl hx4 rfl (k:=0) rfl ?_ ?_
   ·
    have hx5:xs=(acc3++[r1])++rr4:=by rw [hx4]; simp
    refine zcZ rfl dc rfl zbZ (zyN (zaL rfl (zat (zai ?_))))
    subst hag1
    exact zaZ (n1,m3+1,acc3++[r1],rr4) ⟨h,hx5⟩ (Nat.lt_succ_self _) rfl (za7 rfl) (zae [0,1] kr rfl)
   refine zcZ rfl dc rfl zbZ (zyN (za0 rfl (zau (zaj (zah (zaj ?_))))))
   exact zip (ds:=[]) acc3 r1 rr4 hx4 (.inl rfl) Splits.nil Tryz.results69 (zae [0] kr rfl)
  have h:=zfJ hb1 h
  refine zdA (k:=1) (m:=m3) rfl dc rfl rfl (Nat.le_of_not_lt (of_decide_eq_false hb1)) (zax rfl dc rfl rfl (zyN (zay (zaL rfl (za6 (zao (zao (zaw ?_))))))))
  cases h
  exact zhk (ds:=[]) (.inr rfl) Splits.nil Tryz.results69 (congrArg I (hx3.trans (List.append_nil _))) (zae [0] kr rfl)
def zeP (s1:ByteArray):Option ByteArray :=
some s1
theorem zh5 {s1:ByteArray} {r:ByteArray} (h:zeP s1=some r):Fn Tryz.prog 34 [.string s1] [] (fun v0:Nat=>.func (.func 69) #[] #[zP v0]) (fun v0=>[cells v0 [.string r] 9]):=by
 unfold zeP at h
 refine Fn.intro Tryz.func34 rfl Tryz.ntmps34 (by simp) ?_
 intro w0 K
 refine zyG ?_
 refine zcP rfl dc rfl (fun b1 => ?_)
 refine zyR 1 rfl (zyH (zeF (x1:=[]) (x2:=[.tmp 1]) rfl dc rfl rfl (zyR 1 rfl (zyN (zau ?_)))))
 cases h
 exact zaC (rs:=[.tmp 2]) b1 (.inl rfl) Tryz.results34 (.cons (.tmp rfl) .nil) rfl (zae [0] kr rfl)
end Go.Proofs.YtbempdelckaccaaGreatDoor

namespace Go.Proofs.YtbempdelckaccaaGreatDoor
open Go.RowKit Go.Lib
set_option linter.unusedVariables false
set_option linter.unusedSimpArgs false
def zdb (r1:Int) (j1:Option Bool) (ag1:Bool→Nat→Option Bool) (within3:Bool) (m3:Nat):Option Bool :=
zav (decide (m3<(pcs (⟨#[225,132,128,225,133,159,226,186,128,227,128,190,227,129,129,228,182,191,228,184,128,234,147,143,234,176,128,237,158,163,239,164,128,239,171,191,239,184,176,239,185,175,239,188,128,239,189,160,239,191,160,239,191,166,240,159,140,128,240,159,153,143,240,159,164,128,240,159,167,191,240,160,128,128,240,191,191,189]⟩:ByteArray).data.toList).length)) (
zar ((pcs (⟨#[225,132,128,225,133,159,226,186,128,227,128,190,227,129,129,228,182,191,228,184,128,234,147,143,234,176,128,237,158,163,239,164,128,239,171,191,239,184,176,239,185,175,239,188,128,239,189,160,239,191,160,239,191,166,240,159,140,128,240,159,153,143,240,159,164,128,240,159,167,191,240,160,128,128,240,191,191,189]⟩:ByteArray).data.toList)[m3]?) fun (p1:Pc) =>
zbp (fun (j2:Bool→Bool→Option Bool) =>
zav (!within3) (
zav (decide ((r1:Int)<(p1.r:Int))) (
some within3
) (
zav (within3) (
zav (decide ((r1:Int)≤(p1.r:Int))) (
some within3
) (
j2 true (decide ((r1:Int)≤(p1.r:Int)))
)
) (
j2 false false
)
)
) (
zav (within3) (
zav (decide ((r1:Int)≤(p1.r:Int))) (
some within3
) (
j2 true (decide ((r1:Int)≤(p1.r:Int)))
)
) (
j2 false false
)
)
) (fun (x1:Bool) (x2:Bool) =>
ag1 (!within3) (m3+1)
)
) (
j1
)
def zeU (r1:Int):Option Bool :=
zbp (fun (j1:Option Bool) =>
za9 (fun _ _=>none) (zdb r1 j1) zcN false 0
) (
some false
)
theorem zin {r1:Int} {r:Bool} (h:zeU r1=some r):FnP Tryz.prog 72 [.int .i32 r1] (.bool r):=by
 unfold zeU at h
 refine FnP.intro Tryz.func72 rfl Tryz.ntmps72 (by simp) ?_
 intro w0 K
 obtain ⟨j1,hj1,h⟩:=zbw h
 refine zaU (β:=Unit) 2 rfl (fun b=>j1=some r) (fun b=>[]) (fun b=>[]) (fun b=>[]) (fun cut => ?_) ?_
 ·
  refine zyG (zyR 1 rfl (zyH (zyR 1 rfl (zyN (cut (zyG ?_))))))
  refine zdc Tryz.underlying9 rfl dc rfl (fun b1 => ?_)
  refine zyN (zaB ?_)
  refine zbm (β:=Nat×Bool×Nat) (fun b=>za9 (fun _ _=>none) (zdb r1 j1) b.1 b.2.1 b.2.2=some r) (fun b=>[]) (fun b=>[(0,.int .i32 r1),(3,.bool b.2.1),(6,zP b1)]) (fun b=>[obj b1 (.stringIter (⟨#[225,132,128,225,133,159,226,186,128,227,128,190,227,129,129,228,182,191,228,184,128,234,147,143,234,176,128,237,158,163,239,164,128,239,171,191,239,184,176,239,185,175,239,188,128,239,189,160,239,191,160,239,191,166,240,159,140,128,240,159,153,143,240,159,164,128,240,159,167,191,240,160,128,128,240,191,191,189]⟩:ByteArray) (zeg (⟨#[225,132,128,225,133,159,226,186,128,227,128,190,227,129,129,228,182,191,228,184,128,234,147,143,234,176,128,237,158,163,239,164,128,239,171,191,239,184,176,239,185,175,239,188,128,239,189,160,239,191,160,239,191,166,240,159,140,128,240,159,153,143,240,159,164,128,240,159,167,191,240,160,128,128,240,191,191,189]⟩:ByteArray) b.2.2))]) (fun b=>b.1) (zcN,false,0) (by exact h) rfl (za7 rfl) (zae [0] kr rfl) ?_
  rintro ⟨n1,within3,m3⟩ h
  cases n1 with
  | zero=>exact zcS h
  | succ n1 =>
   obtain ⟨ag1,hag1⟩:∃ ag,ag=za9 (fun _ _=>none) (zdb r1 j1) n1:=⟨_,rfl⟩
   have h:zdb r1 j1 ag1 within3 m3=some r:=by rw [hag1]; exact h
   unfold zdb at h
   refine zyG ?_
   refine zdg (b:=decide (m3<(pcs (⟨#[225,132,128,225,133,159,226,186,128,227,128,190,227,129,129,228,182,191,228,184,128,234,147,143,234,176,128,237,158,163,239,164,128,239,171,191,239,184,176,239,185,175,239,188,128,239,189,160,239,191,160,239,191,166,240,159,140,128,240,159,153,143,240,159,164,128,240,159,167,191,240,160,128,128,240,191,191,189]⟩:ByteArray).data.toList).length)) (fun hb1 => ?_) (fun hb1 => ?_)
   ·
    have h:=zfI hb1 h
    obtain ⟨p1,hq1,h⟩:=zbl h
    refine zdz (k:=0) (m:=m3) (p:=p1) rfl dc rfl rfl hq1 (zax rfl dc rfl rfl (zyN (zay (za0 rfl (zat (zaE (zaB ?_)))))))
    obtain ⟨j2,hj2,h⟩:=zbw h
    refine zaU (β:=Bool×Bool) 1 rfl (fun b=>j2 b.1 b.2=some r) (fun b=>[]) (fun b=>[(0,.int .i32 r1),(3,.bool within3),(6,zP b1),(18,.bool within3),(19,.bool b.1),(23,.bool b.2)]) (fun b=>[obj b1 (.stringIter (⟨#[225,132,128,225,133,159,226,186,128,227,128,190,227,129,129,228,182,191,228,184,128,234,147,143,234,176,128,237,158,163,239,164,128,239,171,191,239,184,176,239,185,175,239,188,128,239,189,160,239,191,160,239,191,166,240,159,140,128,240,159,153,143,240,159,164,128,240,159,167,191,240,160,128,128,240,191,191,189]⟩:ByteArray) (zeg (⟨#[225,132,128,225,133,159,226,186,128,227,128,190,227,129,129,228,182,191,228,184,128,234,147,143,234,176,128,237,158,163,239,164,128,239,171,191,239,184,176,239,185,175,239,188,128,239,189,160,239,191,160,239,191,166,240,159,140,128,240,159,153,143,240,159,164,128,240,159,167,191,240,160,128,128,240,191,191,189]⟩:ByteArray) (m3+1)))]) (fun cut => ?_) ?_
    ·
     refine zyG (zax rfl dc rfl rfl (zyR 1 rfl (zyN (cut (zyG (zyR 1 rfl (zcZ rfl dc rfl zbZ (zyR 1 rfl ?_))))))))
     refine zyS (s:=12) rfl h (fun h => ?_) (fun h => ?_)
     ·
      refine zyR 2 rfl (zaO rfl zbv (zyR 2 rfl ?_))
      refine zyS (s:=17) rfl h (fun h => ?_) (fun h => ?_)
      ·
       refine zyR 7 rfl (zyN (za0 rfl (zyG (zyR 2 rfl ?_))))
       refine zyN (zau (zah (zaj (zah (zaj (zah ?_))))))
       cases h
       exact zaC (rs:=[.tmp 2]) () (.inl rfl) Tryz.results72 (.cons (.tmp rfl) .nil) rfl Splits.nil
      refine zyR 2 rfl ?_
      refine zyS (s:=19) rfl h (fun h => ?_) (fun h => ?_)
      ·
       refine zyR 2 rfl (zaO rfl zdn (zyR 2 rfl (zyN ?_)))
       refine zyB rfl h (fun h => ?_) (fun h => ?_)
       ·
        refine zyG (zyR 2 rfl (zyN (zau (zah (zaj (zah (zaj (zah ?_))))))))
        cases h
        exact zaC (rs:=[.tmp 2]) () (.inl rfl) Tryz.results72 (.cons (.tmp rfl) .nil) rfl Splits.nil
       refine zat ?_
       exact zaq (true,decide ((r1:Int)≤(p1.r:Int))) h rfl (za7 rfl) (zae [0] kr rfl)
      refine zyR 5 rfl (zyN (zaL rfl (zat ?_)))
      exact zaq (false,false) h rfl (za7 rfl) (zae [0] kr rfl)
     refine zyR 7 rfl ?_
     refine zyS (s:=19) rfl h (fun h => ?_) (fun h => ?_)
     ·
      refine zyR 2 rfl (zaO rfl zdn (zyR 2 rfl (zyN ?_)))
      refine zyB rfl h (fun h => ?_) (fun h => ?_)
      ·
       refine zyG (zyR 2 rfl (zyN (zau (zah (zaj (zah (zaj (zah ?_))))))))
       cases h
       exact zaC (rs:=[.tmp 2]) () (.inl rfl) Tryz.results72 (.cons (.tmp rfl) .nil) rfl Splits.nil
      refine zat ?_
      exact zaq (true,decide ((r1:Int)≤(p1.r:Int))) h rfl (za7 rfl) (zae [0] kr rfl)
     refine zyR 5 rfl (zyN (zaL rfl (zat ?_)))
     exact zaq (false,false) h rfl (za7 rfl) (zae [0] kr rfl)
    rintro ⟨x1,x2⟩ h
    rw [hj2] at h
    refine zaA (zyR 1 rfl (zcZ rfl dc rfl zbZ (zyR 1 rfl (zaV (zai ?_)))))
    subst hag1
    exact zaZ (n1,!within3,m3+1) h (Nat.lt_succ_self _) rfl (za7 rfl) (zae [0] kr rfl)
   have h:=zfJ hb1 h
   refine zdA (k:=0) (m:=m3) rfl dc rfl rfl (Nat.le_of_not_lt (of_decide_eq_false hb1)) (zax rfl dc rfl rfl (zyN (zay (zaL rfl (za6 (zao (zao (zaw ?_))))))))
   exact zaq () h rfl (zfM) Splits.nil
 rintro _ h
 rw [hj1] at h
 refine zyG (zyR 1 rfl (zyN (zau ?_)))
 cases h
 exact zaC (rs:=[.tmp 2]) () (.inl rfl) Tryz.results72 (.cons (.tmp rfl) .nil) rfl Splits.nil
def zcI (p1:Gapi_Piece):Option Int :=
grd (I32 p1.Rune) <|
zav (((zc1 p1.Broken p1.Rune):Int)==11) (
some 1
) (
zbp (fun (j1:Bool→Option Int) =>
zav (((zc1 p1.Broken p1.Rune):Int)==2) (
j1 (((zc1 p1.Broken p1.Rune):Int)==2)
) (
zav (((zc1 p1.Broken p1.Rune):Int)==4) (
j1 (((zc1 p1.Broken p1.Rune):Int)==4)
) (
j1 (((zc1 p1.Broken p1.Rune):Int)==9)
)
)
) (fun (x1:Bool) =>
zav (x1) (
some 0
) (
zar (zeU p1.Rune) fun (r1:Bool) =>
zav (r1) (
some 2
) (
some 1
)
)
)
)
theorem zdO {p1:Gapi_Piece} {r:Int} (h:zcI p1=some r):FnP Tryz.prog 37 [.agg (zr2 p1).toArray] (zI r):=by
 unfold zcI at h
 refine FnP.intro Tryz.func37 rfl Tryz.ntmps37 (by simp) ?_
 intro w0 K
 refine zyG ?_
 refine zcP rfl dc rfl (fun b1 => ?_)
 refine zyR 1 rfl (zyN (zay (zyG (zaY (k:=0) (cs:=(zr2 p1)) zfr rfl dc rfl rfl rfl rfl ?_))))
 obtain ⟨hg1,h⟩:=zbs h
 refine za5 (v:=zI (zc1 p1.Broken p1.Rune)) (vs:=[.agg (zr2 p1).toArray]) rfl dc rfl rfl rfl zmZ (zoG p1.At p1.Width p1.Rune p1.Broken hg1.1 hg1.2) (zyN (zaB (zyG (zaO rfl zaP (zyR 1 rfl (zyN ?_))))))
 refine zyB rfl h (fun h => ?_) (fun h => ?_)
 ·
  refine zyG (zyR 1 rfl (zyN (zau (zaj (zah ?_)))))
  cases h
  exact zaC (rs:=[.tmp 2]) () (.inl rfl) Tryz.results37 (.cons (.tmp rfl) .nil) rfl Splits.nil
 obtain ⟨j1,hj1,h⟩:=zbw h
 refine zaU (β:=Bool) 0 rfl (fun b=>j1 b=some r) (fun b=>[]) (fun b=>[(1,zP b1),(7,.bool b)]) (fun b=>[cells b1 (zr2 p1) 85]) (fun cut => ?_) ?_
 ·
  refine cut (zyG (zaO rfl zaP (zyR 1 rfl (zyN ?_))))
  refine zyB rfl h (fun h => ?_) (fun h => ?_)
  ·
   refine zat ?_
   exact zaq (((zc1 p1.Broken p1.Rune):Int)==2) h rfl (za7 rfl) (zae [0] kr rfl)
  refine zyG (zaO rfl zaP (zyR 1 rfl (zyN ?_)))
  refine zyB rfl h (fun h => ?_) (fun h => ?_)
  ·
   refine zat ?_
   exact zaq (((zc1 p1.Broken p1.Rune):Int)==4) h rfl (za7 rfl) (zae [0] kr rfl)
  refine zaA (zaO rfl zaP (zyR 1 rfl (zaV ?_)))
  exact zaq (((zc1 p1.Broken p1.Rune):Int)==9) h rfl (za7 rfl) (zae [0] kr rfl)
 rintro x1 h
 rw [hj1] at h
 refine zyB rfl h (fun h => ?_) (fun h => ?_)
 ·
  refine zyG (zyR 1 rfl (zyN (zau (zaj (zah ?_)))))
  cases h
  exact zaC (rs:=[.tmp 2]) () (.inl rfl) Tryz.results37 (.cons (.tmp rfl) .nil) rfl Splits.nil
 refine zat (zai (zaE (zay (zyG (zac zig rfl dc rfl (show _=2 from rfl) (zan (k:=0) zlh rfl dc rfl rfl rfl ?_))))))
 obtain ⟨r1,hq1,h⟩:=zbl h
 refine za5 (v:=.bool r1) (vs:=[.int .i32 p1.Rune]) rfl dc rfl rfl rfl zoR (zin hq1) (zyN ?_)
 refine zyB rfl h (fun h => ?_) (fun h => ?_)
 ·
  refine zyG (zyR 1 rfl (zyN (zau (zah ?_))))
  cases h
  exact zaC (rs:=[.tmp 2]) () (.inl rfl) Tryz.results37 (.cons (.tmp rfl) .nil) rfl Splits.nil
 refine zat (zaE (zyG (zyR 1 rfl (zyN (zau ?_)))))
 cases h
 exact zaC (rs:=[.tmp 2]) () (.inl rfl) Tryz.results37 (.cons (.tmp rfl) .nil) rfl Splits.nil
def zdN (head1:Int) (behind1:Gapi_Piece) (p1:Gapi_Piece):Option Bool :=
zav (p1.Broken) (
some false
) (
grd (I32 p1.Rune) <|
zav (((zc1 p1.Broken p1.Rune):Int)==2) (
some true
) (
zav ((p1.Rune:Int)==8205) (
some true
) (
zav ((head1:Int)==10) (
zav (((zc1 p1.Broken p1.Rune):Int)==10) (
some ((behind1.Rune:Int)==8205)
) (
some false
)
) (
some false
)
)
)
)
theorem zfn {head1:Int} {behind1:Gapi_Piece} {p1:Gapi_Piece} {r:Bool} (h:zdN head1 behind1 p1=some r):FnP Tryz.prog 36 [zI head1,.agg (zr2 behind1).toArray,.agg (zr2 p1).toArray] (.bool r):=by
 unfold zdN at h
 refine FnP.intro Tryz.func36 rfl Tryz.ntmps36 (by simp) ?_
 intro w0 K
 refine zyG ?_
 refine zcP rfl dc rfl (fun b1 => ?_)
 refine zcP rfl dc rfl (fun b2 => ?_)
 refine zyR 1 rfl (zyN (zay (zyG (zac zmT rfl dc rfl (show _=3 from rfl) (zan (k:=1) zf2 rfl dc rfl rfl rfl (zyN ?_))))))
 refine zyB rfl h (fun h => ?_) (fun h => ?_)
 ·
  refine zyG (zyR 1 rfl (zyN (zau (zah ?_))))
  cases h
  exact zaC (rs:=[.tmp 6]) () (.inl rfl) Tryz.results36 (.cons (.tmp rfl) .nil) rfl Splits.nil
 refine zat (zaE (zyG (zaY (k:=1) (cs:=(zr2 p1)) zfr rfl dc rfl rfl rfl rfl ?_)))
 obtain ⟨hg1,h⟩:=zbs h
 refine za5 (v:=zI (zc1 p1.Broken p1.Rune)) (vs:=[.agg (zr2 p1).toArray]) rfl dc rfl rfl rfl zmZ (zoG p1.At p1.Width p1.Rune p1.Broken hg1.1 hg1.2) (zyR 1 rfl (zyH (zyR 1 rfl (zaO rfl zaP (zyR 1 rfl ?_)))))
 refine zyS (s:=14) rfl h (fun h => ?_) (fun h => ?_)
 ·
  refine zyR 14 rfl ?_
  refine zyR 4 rfl (zyN (zau ?_))
  cases h
  exact zaC (rs:=[.tmp 6]) () (.inl rfl) Tryz.results36 (.cons (.tmp rfl) .nil) rfl Splits.nil
 refine zac zig rfl dc rfl (show _=2 from rfl) (zan (k:=1) zlh rfl dc rfl rfl rfl (zaO rfl zaP (zyR 2 rfl ?_)))
 refine zyS (s:=19) rfl h (fun h => ?_) (fun h => ?_)
 ·
  refine zyR 13 rfl (zaV ?_)
  refine zaE (zau ?_)
  cases h
  exact zaC (rs:=[.tmp 6]) () (.inl rfl) Tryz.results36 (.cons (.tmp rfl) .nil) rfl Splits.nil
 refine zyR 1 rfl (zaO rfl zaP (zyR 1 rfl ?_))
 refine zyS (s:=22) rfl h (fun h => ?_) (fun h => ?_)
 ·
  refine zyR 1 rfl (zaO rfl zaP (zyR 2 rfl ?_))
  refine zyS (s:=26) rfl h (fun h => ?_) (fun h => ?_)
  ·
   refine zac zig rfl dc rfl (show _=2 from rfl) (zan (k:=0) zlh rfl dc rfl rfl rfl (zaO rfl zaP (zyR 3 rfl (zyN (zau ?_)))))
   cases h
   exact zaC (rs:=[.tmp 6]) () (.inl rfl) Tryz.results36 (.cons (.tmp rfl) .nil) rfl Splits.nil
  refine zyR 6 rfl (zyN (zau ?_))
  cases h
  exact zaC (rs:=[.tmp 6]) () (.inl rfl) Tryz.results36 (.cons (.tmp rfl) .nil) rfl Splits.nil
 refine zyR 10 rfl (zyN (zau ?_))
 cases h
 exact zaC (rs:=[.tmp 6]) () (.inl rfl) Tryz.results36 (.cons (.tmp rfl) .nil) rfl Splits.nil
def zcJ (x1:Gapi_Piece) (ag1:Int→Int→Int→Int→Int→Int→Int→Bool→Bool→Option (List Gapi_Cell)) (now13:Int) (now14:Int) (now15:Int) (head4:Int) (last13:Int) (last14:Int) (last15:Int) (last16:Bool) (open5:Bool):Option (List Gapi_Cell) :=
zbp (fun (j2:Option (List Gapi_Cell)) =>
grd (I32 x1.Rune) <|
zav (!open5) (
j2
) (
zav ((last15:Int)==13) (
zav ((x1.Rune:Int)==10) (
grd (I64 (x1.At+x1.Width)) <|
ag1 now13 (x1.At+x1.Width) now15 head4 x1.At x1.Width x1.Rune x1.Broken open5
) (
zav ((head4:Int) != 11) (
zav ((head4:Int) != 4) (
zav ((head4:Int) != 9) (
zar (zdN head4 (⟨last13,last14,last15,last16⟩:Gapi_Piece) x1) fun (r2:Bool) =>
zav (r2) (
grd (I64 (x1.At+x1.Width)) <|
zar (zcI x1) fun (r3:Int) =>
ag1 now13 (x1.At+x1.Width) (max now15 r3) head4 x1.At x1.Width x1.Rune x1.Broken open5
) (
zhi (⟨now13,now14,now15⟩:Gapi_Cell) <|
j2
)
) (
zhi (⟨now13,now14,now15⟩:Gapi_Cell) <|
j2
)
) (
zhi (⟨now13,now14,now15⟩:Gapi_Cell) <|
j2
)
) (
zhi (⟨now13,now14,now15⟩:Gapi_Cell) <|
j2
)
)
) (
zav ((head4:Int) != 11) (
zav ((head4:Int) != 4) (
zav ((head4:Int) != 9) (
zar (zdN head4 (⟨last13,last14,last15,last16⟩:Gapi_Piece) x1) fun (r4:Bool) =>
zav (r4) (
grd (I64 (x1.At+x1.Width)) <|
zar (zcI x1) fun (r5:Int) =>
ag1 now13 (x1.At+x1.Width) (max now15 r5) head4 x1.At x1.Width x1.Rune x1.Broken open5
) (
zhi (⟨now13,now14,now15⟩:Gapi_Cell) <|
j2
)
) (
zhi (⟨now13,now14,now15⟩:Gapi_Cell) <|
j2
)
) (
zhi (⟨now13,now14,now15⟩:Gapi_Cell) <|
j2
)
) (
zhi (⟨now13,now14,now15⟩:Gapi_Cell) <|
j2
)
)
)
) (
grd (I64 (x1.At+x1.Width)) <|
zar (zcI x1) fun (r6:Int) =>
ag1 x1.At (x1.At+x1.Width) r6 (zc1 x1.Broken x1.Rune) x1.At x1.Width x1.Rune x1.Broken true
)
def zeo (c0:ByteArray):Option (List Gapi_Cell) :=
zbp (fun (j1:Int→Int→Int→Bool→Option (List Gapi_Cell)) =>
zar (zeP c0) fun (r1:ByteArray) =>
zar (zef r1) fun (its1:(List Gapi_Piece)) =>
zbp (fun (dn1:Int→Int→Int→Int→Int→Int→Int→Bool→Bool→Option (List Gapi_Cell)) =>
zdE dn1 (zcJ) its1 0 0 0 0 0 0 0 false false
) (fun (now13:Int) (now14:Int) (now15:Int) (head4:Int) (last13:Int) (last14:Int) (last15:Int) (last16:Bool) (open5:Bool) =>
j1 now13 now14 now15 open5
)
) (fun (now1:Int) (now2:Int) (now3:Int) (open1:Bool) =>
zav (open1) (
zhi (⟨now1,now2,now3⟩:Gapi_Cell) <|
some []
) (
some []
)
)
theorem zgO {b_c0:Nat} {c0:ByteArray} {xs:(List Gapi_Cell)} (h:zeo c0=some xs):Itr Tryz.prog 33 [zP b_c0] (fun q:Gapi_Cell=>[.agg (zr1 q).toArray]) xs [(b_c0,.cells #[.string c0] 9 (0,0))]:=by
 unfold zeo at h
 refine Itr.intro Tryz.func33 rfl Tryz.ntmps33 (by simp) ?_
 intro l w0 K I X hRo hy
 obtain ⟨r0,hx0⟩:∃ r,xs=[]++r:=⟨xs,rfl⟩
 have hr0:xs=r0:=hx0
 rw [hr0] at h
 refine zfR ?_
 refine zyG ?_
 refine zcP rfl dc rfl (fun b1 => ?_)
 refine zyN ?_
 refine zeM (β:=Unit) (l:=0) (fun _=>False) (fun _=>[]) (fun _=>[]) rfl ?_ ?_
 ·
  obtain ⟨j1,hj1,h⟩:=zbw h
  refine zaU (β:=Int×Int×Int×Bool×(List Gapi_Cell)×(List Gapi_Cell)×Nat×Nat×(List Nat)) 5 rfl (fun b=>j1 b.1 b.2.1 b.2.2.1 b.2.2.2.1=some b.2.2.2.2.2.1∧xs=b.2.2.2.2.1++b.2.2.2.2.2.1) (fun b=>zeC b.2.2.2.2.2.2.2.2) (fun b=>[(2,zP b1),(3,zP b.2.2.2.2.2.2.1),(6,zP b.2.2.2.2.2.2.2.1)]) (fun b=>[I b.2.2.2.2.1,cells b1 [.func (.yield l) #[] #[]] 82,cells b.2.2.2.2.2.2.1 [zI b.1,zI b.2.1,zI b.2.2.1] 40,cells b.2.2.2.2.2.2.2.1 [.bool b.2.2.2.1] 4,zfS ((b.2.2.2.2.2.2.2.2:List Nat).map zhD)]) (fun cut => ?_) ?_
  ·
   refine zyG ?_
   refine zbb znp rfl dc (fun b4 => ?_)
   refine zyH ?_
   refine zbb zow rfl dc (fun b5 => ?_)
   refine zyH ?_
   refine zbb zmJ rfl dc (fun b6 => ?_)
   refine zyH ?_
   refine zbb zpq rfl dc (fun b7 => ?_)
   refine zaG (k:=6) (l':=[.bool false]) zgj rfl rfl rfl rfl rfl (fun _ _=>rfl) rfl ?_
   refine zyN (zay (zhZ (zaE (cut (zyG (ziq (i:=0) hRo ziz rfl dc rfl rfl rfl ?_))))))
   obtain ⟨r1,hq1,h⟩:=zbl h
   refine zcB (vs:=[.string c0]) rfl dc rfl rfl rfl zo5 (zh5 hq1) Splits.nil ?_
   rintro b8
   refine zyN (zaB ?_)
   obtain ⟨its1,hq2,h⟩:=zbl h
   obtain ⟨dn1,hdn1,h⟩:=zbw h
   refine zkK (α:=Gapi_Piece) (β:=Int×Int×Int×Int×Int×Int×Int×Bool×Bool×(List Gapi_Cell)×(List Gapi_Cell)) (γ:=(List Gapi_Cell×Gapi_Cell×List Gapi_Cell)) (δ:=Nat) (ps:=[11]) hRo rfl zoT (zgm hq2) (fun pre b=>(∀ post,its1=pre++post→zdE dn1 (zcJ) post b.1 b.2.1 b.2.2.1 b.2.2.2.1 b.2.2.2.2.1 b.2.2.2.2.2.1 b.2.2.2.2.2.2.1 b.2.2.2.2.2.2.2.1 b.2.2.2.2.2.2.2.2.1=some b.2.2.2.2.2.2.2.2.2.2)∧xs=b.2.2.2.2.2.2.2.2.2.1++b.2.2.2.2.2.2.2.2.2.2) (fun pre b=>[I b.2.2.2.2.2.2.2.2.2.1,cells b1 [.func (.yield l) #[] #[]] 82,cells b4 [zI b.1,zI b.2.1,zI b.2.2.1] 40,cells b5 [zI b.2.2.2.1] 83,cells b6 [zI b.2.2.2.2.1,zI b.2.2.2.2.2.1,.int .i32 b.2.2.2.2.2.2.1,.bool b.2.2.2.2.2.2.2.1] 85,cells b7 [.bool b.2.2.2.2.2.2.2.2.1] 4]) (fun c pre g=>(fun g=>c=Code.ret∧xs=g.1++g.2.1::g.2.2) g) (fun c pre g=>(fun g=>[X (g.1++[g.2.1])]) g) (fun pre x b j=>[(2,zP b1),(3,zP b4),(4,zP b5),(5,zP b6),(6,zP b7),(10,.func (.func 69) #[] #[zP b8]),(7,zP j)]) (fun pre x b j=>[I b.2.2.2.2.2.2.2.2.2.1,cells b1 [.func (.yield l) #[] #[]] 82,cells b4 [zI b.1,zI b.2.1,zI b.2.2.1] 40,cells b5 [zI b.2.2.2.1] 83,cells b6 [zI b.2.2.2.2.1,zI b.2.2.2.2.2.1,.int .i32 b.2.2.2.2.2.2.1,.bool b.2.2.2.2.2.2.2.1] 85,cells b7 [.bool b.2.2.2.2.2.2.2.2.1] 4,cells j (zr2 x) 85]) (0,0,0,0,0,0,0,false,false,([]:List Gapi_Cell),r0) ⟨fun post e=>(by rw [List.nil_append] at e; subst e; exact h),hx0⟩ (zae [0,2,3,4,5,6] kr rfl) ⟨.inl ⟨7,rfl⟩,trivial⟩ (fun _=>rfl) dc ?_ ?_ ?_ ?_
   ·
    rintro lp rc pre x1 post ⟨now13,now14,now15,head4,last13,last14,last15,last16,open5,acc4,rr4⟩ w1 K1 hxs1 hext hro hinv
    have hy:=hy.later hext
    refine zaA ?_
    refine zbb zmJ rfl dc (fun b9 => ?_)
    refine zaR (k:=6) (vs:=(zr2 x1)) (l':=(zr2 x1)) zjb rfl rfl rfl rfl rfl (show _≤_ by simp) rfl rfl ?_
    refine zaV ?_
    exact fun a w ha hw=>⟨b9,(za7 rfl) _ _ _ ha,hw.weaken (zae [0,1,2,3,4,5,6] kr rfl)⟩
   ·
    rintro lp rc pre x1 post1 ⟨now13,now14,now15,head4,last13,last14,last15,last16,open5,acc4,rr4⟩ jb1 w1 K1 hxs1 hext hro hinv
    have hy:=hy.later hext
    obtain ⟨hinv,hx4⟩:=hinv
    have h:=hinv (x1::post1) hxs1
    obtain ⟨ag1,hag1⟩:∃ ag,ag=zdE dn1 (zcJ) post1:=⟨_,rfl⟩
    have h:zcJ x1 ag1 now13 now14 now15 head4 last13 last14 last15 last16 open5=some rr4:=by rw [hag1]; exact h
    unfold zcJ at h
    refine zaB ?_
    obtain ⟨j2,hj2,h⟩:=zbw h
    refine zaU (β:=(List Gapi_Cell)×(List Gapi_Cell)) 1 rfl (fun b=>j2=some b.2∧xs=b.1++b.2) (fun b=>[]) (fun b=>[(2,zP b1),(3,zP b4),(4,zP b5),(5,zP b6),(6,zP b7),(7,zP jb1),(8,zI (zc1 x1.Broken x1.Rune)),(10,.func (.func 69) #[] #[zP b8])]) (fun b=>[I b.1,cells b1 [.func (.yield l) #[] #[]] 82,cells b4 [zI now13,zI now14,zI now15] 40,cells b5 [zI head4] 83,cells b6 [zI last13,zI last14,.int .i32 last15,.bool last16] 85,cells b7 [.bool open5] 4,cells jb1 (zr2 x1) 85]) (fun cut => ?_) ?_
    ·
     refine zyG (zaY (k:=6) (cs:=(zr2 x1)) zfr rfl dc rfl rfl rfl rfl ?_)
     obtain ⟨hg1,h⟩:=zbs h
     refine za5 (v:=zI (zc1 x1.Broken x1.Rune)) (vs:=[.agg (zr2 x1).toArray]) rfl dc rfl rfl rfl zmZ (zoG x1.At x1.Width x1.Rune x1.Broken hg1.1 hg1.2) (zyR 1 rfl (zyN (cut (zaB (zyG (zan (k:=5) zf2 rfl dc rfl rfl rfl (zcZ rfl dc rfl zbZ (zyR 1 rfl (zyN ?_)))))))))
     refine zyB rfl h (fun h => ?_) (fun h => ?_)
     ·
      refine zat (zai ?_)
      exact zaq (acc4,rr4) ⟨h,hx4⟩ rfl (za7 rfl) (zae [0,1,2,3,4,5,6] kr rfl)
     refine zyG (zac zig rfl dc rfl (show _=2 from rfl) (zan (k:=4) zlh rfl dc rfl rfl rfl (zaO rfl zaP (zyR 1 rfl ?_))))
     refine zyS (s:=25) rfl h (fun h => ?_) (fun h => ?_)
     ·
      refine zac zig rfl dc rfl (show _=2 from rfl) (zan (k:=6) zlh rfl dc rfl rfl rfl (zaO rfl zaP (zyR 2 rfl (zyN ?_))))
      refine zyB rfl h (fun h => ?_) (fun h => ?_)
      ·
       refine zyG (zac zih rfl dc rfl (show _=0 from rfl) (zan (k:=6) zbC rfl dc rfl rfl rfl (zac zji rfl dc rfl (show _=1 from rfl) (zan (k:=6) zbC rfl dc rfl rfl rfl ?_))))
       obtain ⟨hg2,h⟩:=zbs h
       refine zaO rfl (zaT (r:=x1.At+x1.Width) (IntWalk.i64_in _ hg2)) (zac zg7 rfl dc rfl (show _=0 from rfl) (zac zeD rfl dc rfl (show _=1 from rfl) ?_))
       refine zaG (k:=2) (l':=[zI now13,zI (x1.At+x1.Width),zI now15]) zeX rfl rfl rfl rfl rfl (fun _ _=>rfl) rfl ?_
       refine zyH (zaY (k:=6) (cs:=(zr2 x1)) zfr rfl dc rfl rfl rfl rfl (zaR (k:=4) (vs:=(zr2 x1)) (l':=(zr2 x1)) zjb rfl rfl rfl rfl rfl (show _≤_ by simp) rfl rfl ?_))
       refine zyN (za6 (zbS dc (zao (zaw ?_))))
       exact zfQ (now13,x1.At+x1.Width,now15,head4,x1.At,x1.Width,x1.Rune,x1.Broken,open5,acc4,rr4) ⟨fun post2 e2=>(by have e9:=zeZ hxs1 e2; subst e9; subst hag1; exact h),hx4⟩ (zae [0,1,2,3,4,5] kr rfl)
      refine zyG (zan (k:=3) zjE rfl dc rfl rfl rfl (zaO rfl zbq (zyR 1 rfl ?_)))
      refine zyS (s:=41) rfl h (fun h => ?_) (fun h => ?_)
      ·
       refine zan (k:=3) zjE rfl dc rfl rfl rfl (zaO rfl zbq (zyR 2 rfl ?_))
       refine zyS (s:=45) rfl h (fun h => ?_) (fun h => ?_)
       ·
        refine zan (k:=3) zjE rfl dc rfl rfl rfl (zaO rfl zbq (zyR 2 rfl ?_))
        refine zyS (s:=49) rfl h (fun h => ?_) (fun h => ?_)
        ·
         refine zan (k:=3) zjE rfl dc rfl rfl rfl (zaY (k:=4) (cs:=[zI last13,zI last14,.int .i32 last15,.bool last16]) zfr rfl dc rfl rfl rfl rfl (zaY (k:=6) (cs:=(zr2 x1)) zfr rfl dc rfl rfl rfl rfl ?_))
         obtain ⟨r2,hq3,h⟩:=zbl h
         refine za5 (v:=.bool r2) (vs:=[zI head4,.agg #[zI last13,zI last14,.int .i32 last15,.bool last16],.agg (zr2 x1).toArray]) rfl dc rfl rfl rfl znS (zfn (behind1:=(⟨last13,last14,last15,last16⟩:Gapi_Piece)) (p1:=x1) hq3) (zyR 2 rfl (zyN ?_))
         refine zyB rfl h (fun h => ?_) (fun h => ?_)
         ·
          refine zyG (zac zih rfl dc rfl (show _=0 from rfl) (zan (k:=6) zbC rfl dc rfl rfl rfl (zac zji rfl dc rfl (show _=1 from rfl) (zan (k:=6) zbC rfl dc rfl rfl rfl ?_))))
          obtain ⟨hg3,h⟩:=zbs h
          refine zaO rfl (zaT (r:=x1.At+x1.Width) (IntWalk.i64_in _ hg3)) (zac zg7 rfl dc rfl (show _=0 from rfl) (zac zeD rfl dc rfl (show _=1 from rfl) ?_))
          refine zaG (k:=2) (l':=[zI now13,zI (x1.At+x1.Width),zI now15]) zeX rfl rfl rfl rfl rfl (fun _ _=>rfl) rfl ?_
          refine zyN (zay ?_)
          obtain ⟨r3,hq4,h⟩:=zbl h
          refine zbj 4 [(0,62,.pointer (some ⟨b4,2,none⟩)),(1,63,zI now15),(2,64,.agg (zr2 x1).toArray),(3,65,zI r3)] mixed kr kr dc (by rfl) kr kr (zad ?_ (zad ?_ (zad ?_ (zad ?_ DrawPre.nil)))) ?_
          · exact fun D n d c u i=>zac zii rfl dc (zba (by rfl) rfl) (show _=2 from rfl) (zaf 0 u i rfl)
          · exact fun D n d c u i=>zan (k:=2) zbC rfl dc (zaa (m:=0) u rfl (d 0 dc)) rfl rfl (zaf 1 u i rfl)
          · exact fun D n d c u i=>zaY (k:=6) (cs:=(zr2 x1)) zfr rfl dc (zba (by rfl) rfl) rfl rfl rfl (zaf 2 u i rfl)
          · exact fun D n d c u i=>za5 (v:=zI r3) (vs:=[.agg (zr2 x1).toArray]) rfl dc rfl (evL.cons (zaa (m:=2) u rfl (d 2 dc)) evL.nil) rfl zmY (zdO (p1:=x1) hq4) (zaf 3 u i rfl)
          refine zju rfl dc rfl rfl (zac zii rfl dc rfl (show _=2 from rfl) ?_)
          refine zaG (k:=2) (l':=[zI now13,zI (x1.At+x1.Width),zI (max now15 r3)]) zeX rfl rfl rfl rfl rfl (fun _ _=>rfl) rfl ?_
          refine zyH (zaY (k:=6) (cs:=(zr2 x1)) zfr rfl dc rfl rfl rfl rfl (zaR (k:=4) (vs:=(zr2 x1)) (l':=(zr2 x1)) zjb rfl rfl rfl rfl rfl (show _≤_ by simp) rfl rfl (zyN (za6 (zbS dc (zao (zaw ?_)))))))
          exact zfQ (now13,x1.At+x1.Width,max now15 r3,head4,x1.At,x1.Width,x1.Rune,x1.Broken,open5,acc4,rr4) ⟨fun post2 e2=>(by have e9:=zeZ hxs1 e2; subst e9; subst hag1; exact h),hx4⟩ (zae [0,1,2,3,4,5] kr rfl)
         refine zyG (zan (k:=1) zjd rfl dc rfl rfl rfl (zaY (k:=2) (cs:=[zI now13,zI now14,zI now15]) ziA rfl dc rfl rfl rfl rfl ?_))
         obtain ⟨rr6,hr1,h⟩:=zhH h
         have hx6:xs=acc4++(⟨now13,now14,now15⟩:Gapi_Cell)::rr6:=by rw [hx4,hr1]
         refine zdq hy rfl dc rfl hx6 rfl (k:=0) rfl ?_ ?_
         ·
          have hx7:xs=(acc4++[(⟨now13,now14,now15⟩:Gapi_Cell)])++rr6:=by rw [hx6]; simp
          refine zcZ rfl dc rfl zbZ (zyN (zaL rfl (zat (zai ?_))))
          exact zaq (acc4++[(⟨now13,now14,now15⟩:Gapi_Cell)],rr6) ⟨h,hx7⟩ rfl (za7 rfl) (zae [0,1,2,3,4,5,6] kr rfl)
         refine zcZ rfl dc rfl zbZ (zyN (za0 rfl (zau (zaj (zah (zaj ?_))))))
         exact zcT (acc4,(⟨now13,now14,now15⟩:Gapi_Cell),rr6) (show _∧_ from ⟨rfl,hx6⟩) (zae [0] kr rfl)
        refine zyR 6 rfl (zyN (zaL rfl (zyG (zan (k:=1) zjd rfl dc rfl rfl rfl (zaY (k:=2) (cs:=[zI now13,zI now14,zI now15]) ziA rfl dc rfl rfl rfl rfl ?_)))))
        obtain ⟨rr7,hr2,h⟩:=zhH h
        have hx8:xs=acc4++(⟨now13,now14,now15⟩:Gapi_Cell)::rr7:=by rw [hx4,hr2]
        refine zdq hy rfl dc rfl hx8 rfl (k:=0) rfl ?_ ?_
        ·
         have hx9:xs=(acc4++[(⟨now13,now14,now15⟩:Gapi_Cell)])++rr7:=by rw [hx8]; simp
         refine zcZ rfl dc rfl zbZ (zyN (zaL rfl (zat (zai ?_))))
         exact zaq (acc4++[(⟨now13,now14,now15⟩:Gapi_Cell)],rr7) ⟨h,hx9⟩ rfl (za7 rfl) (zae [0,1,2,3,4,5,6] kr rfl)
        refine zcZ rfl dc rfl zbZ (zyN (za0 rfl (zau (zaj (zah (zaj ?_))))))
        exact zcT (acc4,(⟨now13,now14,now15⟩:Gapi_Cell),rr7) (show _∧_ from ⟨rfl,hx8⟩) (zae [0] kr rfl)
       refine zyR 10 rfl (zyN (zaL rfl (zay ?_)))
       refine zaA (zan (k:=1) zjd rfl dc rfl rfl rfl (zaY (k:=2) (cs:=[zI now13,zI now14,zI now15]) ziA rfl dc rfl rfl rfl rfl ?_))
       obtain ⟨rr8,hr3,h⟩:=zhH h
       have hx10:xs=acc4++(⟨now13,now14,now15⟩:Gapi_Cell)::rr8:=by rw [hx4,hr3]
       refine zdq hy rfl dc rfl hx10 rfl (k:=0) rfl ?_ ?_
       ·
        have hx11:xs=(acc4++[(⟨now13,now14,now15⟩:Gapi_Cell)])++rr8:=by rw [hx10]; simp
        refine zcZ rfl dc rfl zbZ (zyN (zaL rfl (zat (zai ?_))))
        exact zaq (acc4++[(⟨now13,now14,now15⟩:Gapi_Cell)],rr8) ⟨h,hx11⟩ rfl (za7 rfl) (zae [0,1,2,3,4,5,6] kr rfl)
       refine zcZ rfl dc rfl zbZ (zyN (za0 rfl (zau (zaj (zah (zaj ?_))))))
       exact zcT (acc4,(⟨now13,now14,now15⟩:Gapi_Cell),rr8) (show _∧_ from ⟨rfl,hx10⟩) (zae [0] kr rfl)
      refine zyR 14 rfl ?_
      refine zyN (zaL rfl (zyG (zan (k:=1) zjd rfl dc rfl rfl rfl (zaY (k:=2) (cs:=[zI now13,zI now14,zI now15]) ziA rfl dc rfl rfl rfl rfl ?_))))
      obtain ⟨rr9,hr4,h⟩:=zhH h
      have hx12:xs=acc4++(⟨now13,now14,now15⟩:Gapi_Cell)::rr9:=by rw [hx4,hr4]
      refine zdq hy rfl dc rfl hx12 rfl (k:=0) rfl ?_ ?_
      ·
       have hx13:xs=(acc4++[(⟨now13,now14,now15⟩:Gapi_Cell)])++rr9:=by rw [hx12]; simp
       refine zcZ rfl dc rfl zbZ (zyN (zaL rfl (zat (zai ?_))))
       exact zaq (acc4++[(⟨now13,now14,now15⟩:Gapi_Cell)],rr9) ⟨h,hx13⟩ rfl (za7 rfl) (zae [0,1,2,3,4,5,6] kr rfl)
      refine zcZ rfl dc rfl zbZ (zyN (za0 rfl (zau (zaj (zah (zaj ?_))))))
      exact zcT (acc4,(⟨now13,now14,now15⟩:Gapi_Cell),rr9) (show _∧_ from ⟨rfl,hx12⟩) (zae [0] kr rfl)
     refine zyR 5 rfl (zyN (zaL rfl (zyG (zan (k:=3) zjE rfl dc rfl rfl rfl (zaO rfl zbq (zyR 1 rfl ?_))))))
     refine zyS (s:=41) rfl h (fun h => ?_) (fun h => ?_)
     ·
      refine zan (k:=3) zjE rfl dc rfl rfl rfl (zaO rfl zbq (zyR 2 rfl ?_))
      refine zyS (s:=45) rfl h (fun h => ?_) (fun h => ?_)
      ·
       refine zan (k:=3) zjE rfl dc rfl rfl rfl (zaO rfl zbq (zyR 2 rfl ?_))
       refine zyS (s:=49) rfl h (fun h => ?_) (fun h => ?_)
       ·
        refine zan (k:=3) zjE rfl dc rfl rfl rfl (zaY (k:=4) (cs:=[zI last13,zI last14,.int .i32 last15,.bool last16]) zfr rfl dc rfl rfl rfl rfl (zaY (k:=6) (cs:=(zr2 x1)) zfr rfl dc rfl rfl rfl rfl ?_))
        obtain ⟨r4,hq5,h⟩:=zbl h
        refine za5 (v:=.bool r4) (vs:=[zI head4,.agg #[zI last13,zI last14,.int .i32 last15,.bool last16],.agg (zr2 x1).toArray]) rfl dc rfl rfl rfl znS (zfn (behind1:=(⟨last13,last14,last15,last16⟩:Gapi_Piece)) (p1:=x1) hq5) (zyR 2 rfl (zyN ?_))
        refine zyB rfl h (fun h => ?_) (fun h => ?_)
        ·
         refine zyG (zac zih rfl dc rfl (show _=0 from rfl) (zan (k:=6) zbC rfl dc rfl rfl rfl (zac zji rfl dc rfl (show _=1 from rfl) (zan (k:=6) zbC rfl dc rfl rfl rfl ?_))))
         obtain ⟨hg4,h⟩:=zbs h
         refine zaO rfl (zaT (r:=x1.At+x1.Width) (IntWalk.i64_in _ hg4)) (zac zg7 rfl dc rfl (show _=0 from rfl) (zac zeD rfl dc rfl (show _=1 from rfl) ?_))
         refine zaG (k:=2) (l':=[zI now13,zI (x1.At+x1.Width),zI now15]) zeX rfl rfl rfl rfl rfl (fun _ _=>rfl) rfl ?_
         refine zyN (zay ?_)
         obtain ⟨r5,hq6,h⟩:=zbl h
         refine zbj 4 [(0,62,.pointer (some ⟨b4,2,none⟩)),(1,63,zI now15),(2,64,.agg (zr2 x1).toArray),(3,65,zI r5)] mixed kr kr dc (by rfl) kr kr (zad ?_ (zad ?_ (zad ?_ (zad ?_ DrawPre.nil)))) ?_
         · exact fun D n d c u i=>zac zii rfl dc (zba (by rfl) rfl) (show _=2 from rfl) (zaf 0 u i rfl)
         · exact fun D n d c u i=>zan (k:=2) zbC rfl dc (zaa (m:=0) u rfl (d 0 dc)) rfl rfl (zaf 1 u i rfl)
         · exact fun D n d c u i=>zaY (k:=6) (cs:=(zr2 x1)) zfr rfl dc (zba (by rfl) rfl) rfl rfl rfl (zaf 2 u i rfl)
         · exact fun D n d c u i=>za5 (v:=zI r5) (vs:=[.agg (zr2 x1).toArray]) rfl dc rfl (evL.cons (zaa (m:=2) u rfl (d 2 dc)) evL.nil) rfl zmY (zdO (p1:=x1) hq6) (zaf 3 u i rfl)
         refine zju rfl dc rfl rfl (zac zii rfl dc rfl (show _=2 from rfl) ?_)
         refine zaG (k:=2) (l':=[zI now13,zI (x1.At+x1.Width),zI (max now15 r5)]) zeX rfl rfl rfl rfl rfl (fun _ _=>rfl) rfl ?_
         refine zyH (zaY (k:=6) (cs:=(zr2 x1)) zfr rfl dc rfl rfl rfl rfl (zaR (k:=4) (vs:=(zr2 x1)) (l':=(zr2 x1)) zjb rfl rfl rfl rfl rfl (show _≤_ by simp) rfl rfl (zyN (za6 (zbS dc (zao (zaw ?_)))))))
         exact zfQ (now13,x1.At+x1.Width,max now15 r5,head4,x1.At,x1.Width,x1.Rune,x1.Broken,open5,acc4,rr4) ⟨fun post2 e2=>(by have e9:=zeZ hxs1 e2; subst e9; subst hag1; exact h),hx4⟩ (zae [0,1,2,3,4,5] kr rfl)
        refine zyG (zan (k:=1) zjd rfl dc rfl rfl rfl (zaY (k:=2) (cs:=[zI now13,zI now14,zI now15]) ziA rfl dc rfl rfl rfl rfl ?_))
        obtain ⟨rr10,hr5,h⟩:=zhH h
        have hx14:xs=acc4++(⟨now13,now14,now15⟩:Gapi_Cell)::rr10:=by rw [hx4,hr5]
        refine zdq hy rfl dc rfl hx14 rfl (k:=0) rfl ?_ ?_
        ·
         have hx15:xs=(acc4++[(⟨now13,now14,now15⟩:Gapi_Cell)])++rr10:=by rw [hx14]; simp
         refine zcZ rfl dc rfl zbZ (zyN (zaL rfl (zat (zai ?_))))
         exact zaq (acc4++[(⟨now13,now14,now15⟩:Gapi_Cell)],rr10) ⟨h,hx15⟩ rfl (za7 rfl) (zae [0,1,2,3,4,5,6] kr rfl)
        refine zcZ rfl dc rfl zbZ (zyN (za0 rfl (zau (zaj (zah (zaj ?_))))))
        exact zcT (acc4,(⟨now13,now14,now15⟩:Gapi_Cell),rr10) (show _∧_ from ⟨rfl,hx14⟩) (zae [0] kr rfl)
       refine zyR 6 rfl (zyN (zaL rfl (zyG (zan (k:=1) zjd rfl dc rfl rfl rfl (zaY (k:=2) (cs:=[zI now13,zI now14,zI now15]) ziA rfl dc rfl rfl rfl rfl ?_)))))
       obtain ⟨rr11,hr6,h⟩:=zhH h
       have hx16:xs=acc4++(⟨now13,now14,now15⟩:Gapi_Cell)::rr11:=by rw [hx4,hr6]
       refine zdq hy rfl dc rfl hx16 rfl (k:=0) rfl ?_ ?_
       ·
        have hx17:xs=(acc4++[(⟨now13,now14,now15⟩:Gapi_Cell)])++rr11:=by rw [hx16]; simp
        refine zcZ rfl dc rfl zbZ (zyN (zaL rfl (zat (zai ?_))))
        exact zaq (acc4++[(⟨now13,now14,now15⟩:Gapi_Cell)],rr11) ⟨h,hx17⟩ rfl (za7 rfl) (zae [0,1,2,3,4,5,6] kr rfl)
       refine zcZ rfl dc rfl zbZ (zyN (za0 rfl (zau (zaj (zah (zaj ?_))))))
       exact zcT (acc4,(⟨now13,now14,now15⟩:Gapi_Cell),rr11) (show _∧_ from ⟨rfl,hx16⟩) (zae [0] kr rfl)
      refine zyR 10 rfl (zyN (zaL rfl (zay ?_)))
      refine zaA (zan (k:=1) zjd rfl dc rfl rfl rfl (zaY (k:=2) (cs:=[zI now13,zI now14,zI now15]) ziA rfl dc rfl rfl rfl rfl ?_))
      obtain ⟨rr12,hr7,h⟩:=zhH h
      have hx18:xs=acc4++(⟨now13,now14,now15⟩:Gapi_Cell)::rr12:=by rw [hx4,hr7]
      refine zdq hy rfl dc rfl hx18 rfl (k:=0) rfl ?_ ?_
      ·
       have hx19:xs=(acc4++[(⟨now13,now14,now15⟩:Gapi_Cell)])++rr12:=by rw [hx18]; simp
       refine zcZ rfl dc rfl zbZ (zyN (zaL rfl (zat (zai ?_))))
       exact zaq (acc4++[(⟨now13,now14,now15⟩:Gapi_Cell)],rr12) ⟨h,hx19⟩ rfl (za7 rfl) (zae [0,1,2,3,4,5,6] kr rfl)
      refine zcZ rfl dc rfl zbZ (zyN (za0 rfl (zau (zaj (zah (zaj ?_))))))
      exact zcT (acc4,(⟨now13,now14,now15⟩:Gapi_Cell),rr12) (show _∧_ from ⟨rfl,hx18⟩) (zae [0] kr rfl)
     refine zyR 14 rfl ?_
     refine zyN (zaL rfl (zyG (zan (k:=1) zjd rfl dc rfl rfl rfl (zaY (k:=2) (cs:=[zI now13,zI now14,zI now15]) ziA rfl dc rfl rfl rfl rfl ?_))))
     obtain ⟨rr13,hr8,h⟩:=zhH h
     have hx20:xs=acc4++(⟨now13,now14,now15⟩:Gapi_Cell)::rr13:=by rw [hx4,hr8]
     refine zdq hy rfl dc rfl hx20 rfl (k:=0) rfl ?_ ?_
     ·
      have hx21:xs=(acc4++[(⟨now13,now14,now15⟩:Gapi_Cell)])++rr13:=by rw [hx20]; simp
      refine zcZ rfl dc rfl zbZ (zyN (zaL rfl (zat (zai ?_))))
      exact zaq (acc4++[(⟨now13,now14,now15⟩:Gapi_Cell)],rr13) ⟨h,hx21⟩ rfl (za7 rfl) (zae [0,1,2,3,4,5,6] kr rfl)
     refine zcZ rfl dc rfl zbZ (zyN (za0 rfl (zau (zaj (zah (zaj ?_))))))
     exact zcT (acc4,(⟨now13,now14,now15⟩:Gapi_Cell),rr13) (show _∧_ from ⟨rfl,hx20⟩) (zae [0] kr rfl)
    rintro ⟨acc5,rr5⟩ ⟨h,hx5⟩
    rw [hj2] at h
    refine zay ?_
    refine let vals1:(Unit)→List (Nat×Nat×Value):=fun b=>[(0,69,zI (zc1 x1.Broken x1.Rune)),(1,70,.agg (zr2 x1).toArray)]; let LL1:(Nat→Prop)→(Unit)→List Asn:=fun D b=>[I acc5,cells b1 [.func (.yield l) #[] #[]] 82,cells b4 [zI now13,zI now14,zI now15] 40,eD D (cells b5 [zI head4] 83) [(3,cells b5 [zI (zc1 x1.Broken x1.Rune)] 83)],cells b6 [zI last13,zI last14,.int .i32 last15,.bool last16] 85,eD D (cells b7 [.bool open5] 4) [(2,cells b7 [.bool true] 4)],cells jb1 (zr2 x1) 85]; ?_
    have zhq:zyQ [2,3] LL1:=fun i h D b=>zab rfl (zab rfl (zab rfl (zab (ziw rfl h) (zab rfl (zab (ziw rfl h) rfl)))))
    refine zc3 (β:=Unit) 4 () vals1 LL1 mixed kr kr dc (fun _=>rfl) (zbU (zab zbr (zab rfl (zab zbr rfl)))) (zj4 zhq (fun _=>rfl) (fun _=>rfl) 1 0 (fun _=>rfl) rfl (zgV zhq rfl (fun _=>rfl) (fun _=>rfl) ?_ (zas ?_ (zas ?_ DrawG.nil)))) ?_
    · exact fun D b n d c u i=>⟨_,(zog rfl),zaY (k:=6) (cs:=(zr2 x1)) zfr rfl dc (zba (by rfl) rfl) rfl rfl rfl (zaf 1 u i rfl)⟩
    ·
     intro D b hn hd hcl
     refine zaD (zbU (zab (zag (fun hD=>hn (hcl 3 _ rfl hD 2 dc)) zak) (zab rfl (zab (zag hn zak) rfl)))) ?_
     refine zaG (k:=5) (l':=[.bool true]) zgj rfl (zba (by rfl) rfl) rfl rfl rfl (fun _ _=>rfl) rfl ?_
     exact zgQ (b:=b) () (by rfl) (znl rfl) (zbU (zab ((zal (by rfl)).trans (zag (fun hD=>hn (hcl 3 _ rfl hD 2 dc)) zak)) (zab rfl (zab (zaz (Or.inr rfl) rfl) rfl))))
    ·
     intro D b hn hd hcl
     refine zaD (zbU (zab (zag hn zak) (zab rfl (zab (zaz (hd 2 dc) rfl) rfl)))) ?_
     refine zaG (k:=3) (l':=[zI (zc1 x1.Broken x1.Rune)]) zoB rfl (zba (by rfl) rfl) (zaa (m:=0) rfl rfl (hd 0 dc)) rfl rfl (fun _ _=>rfl) rfl ?_
     exact zgQ (b:=b) () (by rfl) (znl rfl) (zbU (zab (zaz (Or.inr rfl) rfl) (zab rfl (zab ((zal (by rfl)).trans (zaz (hd 2 dc) rfl)) rfl))))
    intro D b hall
    refine zaD (zbU (zab (zaz (hall 3 dc) rfl) (zab rfl (zab (zaz (hall 2 dc) rfl) rfl)))) (zaR (k:=4) (vs:=(zr2 x1)) (l':=(zr2 x1)) zjb rfl rfl rfl rfl rfl (show _≤_ by simp) rfl rfl (zyN ?_))
    obtain ⟨hg5,h⟩:=zbs h
    obtain ⟨r6,hq7,h⟩:=zbl h
    refine zbj 10 [(0,71,zP jb1),(1,72,zI x1.At),(2,73,zP jb1),(3,74,zI x1.At),(4,75,.pointer (some ⟨jb1,1,none⟩)),(5,76,zI x1.Width),(6,77,zI (x1.At+x1.Width)),(7,78,.agg #[zI x1.At,zI (x1.At+x1.Width)]),(8,79,.agg (zr2 x1).toArray),(9,80,zI r6)] mixed kr kr dc (by rfl) kr kr (zad ?_ (zad ?_ (zad ?_ (zad ?_ (zad ?_ (zad ?_ (zad ?_ (zad ?_ (zad ?_ (zad ?_ DrawPre.nil)))))))))) ?_
    · exact fun D n d c u i=>zac zih rfl dc (zba (by rfl) rfl) (show _=0 from rfl) (zaf 0 u i rfl)
    · exact fun D n d c u i=>zan (k:=6) zbC rfl dc (zaa (m:=0) u rfl (d 0 dc)) rfl rfl (zaf 1 u i rfl)
    · exact fun D n d c u i=>zac zih rfl dc (zba (by rfl) rfl) (show _=0 from rfl) (zaf 2 u i rfl)
    · exact fun D n d c u i=>zan (k:=6) zbC rfl dc (zaa (m:=2) u rfl (d 2 dc)) rfl rfl (zaf 3 u i rfl)
    · exact fun D n d c u i=>zac zji rfl dc (zba (by rfl) rfl) (show _=1 from rfl) (zaf 4 u i rfl)
    · exact fun D n d c u i=>zan (k:=6) zbC rfl dc (zaa (m:=4) u rfl (d 4 dc)) rfl rfl (zaf 5 u i rfl)
    · exact fun D n d c u i=>zbJ rfl dc (zaa (m:=3) u rfl (d 3 dc)) (zaa (m:=5) u rfl (d 5 dc)) (zaT (r:=x1.At+x1.Width) (IntWalk.i64_in _ hg5)) (zaf 6 u i rfl)
    · exact fun D n d c u i=>zbg (v:=.agg #[zI x1.At,zI (x1.At+x1.Width)]) (ps:=[(0,.tmp 72),(1,.tmp 77)]) rfl dc (evP.cons (zaa (m:=1) u rfl (d 1 dc)) (evP.cons (zaa (m:=6) u rfl (d 6 dc)) evP.nil)) (fun _=>by kernel_rfl) (zaf 7 u i rfl)
    · exact fun D n d c u i=>zaY (k:=6) (cs:=(zr2 x1)) zfr rfl dc (zba (by rfl) rfl) rfl rfl rfl (zaf 8 u i rfl)
    · exact fun D n d c u i=>za5 (v:=zI r6) (vs:=[.agg (zr2 x1).toArray]) rfl dc rfl (evL.cons (zaa (m:=8) u rfl (d 8 dc)) evL.nil) rfl zmY (zdO (p1:=x1) hq7) (zaf 9 u i rfl)
    refine zbg (v:=.agg #[zI x1.At,zI (x1.At+x1.Width),zI r6]) (ps:=[(0,.tmp 78),(1,.tmp 80)]) rfl dc rfl (fun _=>by kernel_rfl) ?_
    refine zaR (k:=2) (vs:=[zI x1.At,zI (x1.At+x1.Width),zI r6]) (l':=[zI x1.At,zI (x1.At+x1.Width),zI r6]) zla rfl rfl rfl rfl rfl (show _≤_ by simp) rfl rfl ?_
    refine zaV (zai ?_)
    exact zfQ (x1.At,x1.At+x1.Width,r6,zc1 x1.Broken x1.Rune,x1.At,x1.Width,x1.Rune,x1.Broken,true,acc5,rr5) ⟨fun post2 e2=>(by have e9:=zeZ hxs1 e2; subst e9; subst hag1; exact h),hx5⟩ (zae [0,1,2,3,4,5] kr rfl)
   ·
    rintro dm1 ⟨now13,now14,now15,head4,last13,last14,last15,last16,open5,acc4,rr4⟩ hinv
    obtain ⟨hinv,hx4⟩:=hinv
    have h:dn1 now13 now14 now15 head4 last13 last14 last15 last16 open5=some rr4:=hinv [] (List.append_nil _).symm
    rw [hdn1] at h
    refine zd1 (k:=14) (j:=1) rfl rfl dc ?_
    refine zai ?_
    exact zaq (now13,now14,now15,open5,acc4,rr4,b4,b7,dm1::([]:List Nat)) ⟨h,hx4⟩ rfl (za7 rfl) (zae [8,9,10,13,1] kr rfl)
   rintro dm1 c pre x1 post g hxs hX
   obtain ⟨ta1,tq1,tr1⟩:=g
   obtain ⟨rfl,hx22⟩:=(show _∧_ from hX)
   refine zis (k:=9) (j:=1) rfl rfl dc ?_
   refine zau (zaj (zah (zbz (by simp) ?_)))
   exact zip (ds:=(dm1::([]:List Nat))) ta1 tq1 tr1 hx22 (.inl rfl) (zaK (k:=1) rfl) Tryz.results33 (zae [8] kr rfl)
  rintro ⟨now1,now2,now3,open1,acc1,rr1,b2,b3,ds1⟩ ⟨h,hx1⟩
  rw [hj1] at h
  refine zyG (zan (k:=3) zf2 rfl dc rfl rfl rfl (zyN ?_))
  refine zyB rfl h (fun h => ?_) (fun h => ?_)
  ·
   refine zaA (zan (k:=1) zjd rfl dc rfl rfl rfl (zaY (k:=2) (cs:=[zI now1,zI now2,zI now3]) ziA rfl dc rfl rfl rfl rfl ?_))
   obtain ⟨rr14,hr9,h⟩:=zhH h
   have hx23:xs=acc1++(⟨now1,now2,now3⟩:Gapi_Cell)::rr14:=by rw [hx1,hr9]
   refine zdq hy rfl dc rfl hx23 rfl (k:=0) rfl ?_ ?_
   ·
    have hx24:xs=(acc1++[(⟨now1,now2,now3⟩:Gapi_Cell)])++rr14:=by rw [hx23]; simp
    refine zaV (zbz (by simp) ?_)
    cases h
    exact zhk (ds:=ds1) (.inr rfl) (zaK (k:=4) rfl) Tryz.results33 (congrArg I (hx24.trans (List.append_nil _))) (zae [0] kr rfl)
   refine zaV (zbz (by simp) ?_)
   exact zip (ds:=ds1) acc1 (⟨now1,now2,now3⟩:Gapi_Cell) rr14 hx23 (.inr rfl) (zaK (k:=4) rfl) Tryz.results33 (zae [0] kr rfl)
  refine zat (zbz (by simp) ?_)
  cases h
  exact zhk (ds:=ds1) (.inr rfl) (zaK (k:=4) rfl) Tryz.results33 (congrArg I (hx1.trans (List.append_nil _))) (zae [0] kr rfl)
 exact fun b hb=>hb.elim
def zeV (s1:ByteArray):Option ByteArray :=
some s1
theorem zio {s1:ByteArray} {r:ByteArray} (h:zeV s1=some r):Fn Tryz.prog 11 [.string s1] [] (fun v0:Nat=>.func (.func 33) #[] #[zP v0]) (fun v0=>[cells v0 [.string r] 9]):=by
 unfold zeV at h
 refine Fn.intro Tryz.func11 rfl Tryz.ntmps11 (by simp) ?_
 intro w0 K
 refine zyG ?_
 refine zcP rfl dc rfl (fun b1 => ?_)
 refine zyR 1 rfl (zyH (zeF (x1:=[]) (x2:=[.tmp 1]) rfl dc rfl rfl (zyR 1 rfl (zyN (zau ?_)))))
 cases h
 exact zaC (rs:=[.tmp 2]) b1 (.inl rfl) Tryz.results11 (.cons (.tmp rfl) .nil) rfl (zae [0] kr rfl)
end Go.Proofs.YtbempdelckaccaaGreatDoor

namespace Go.Proofs.YtbempdelckaccaaGreatDoor
open Go.RowKit Go.Lib
set_option linter.unusedVariables false
set_option linter.unusedSimpArgs false
def zfN (l1:Gapi_Layout):Option Bool :=
zav (decide ((8:Int)≤l1.Width)) (
zav (decide ((l1.Width:Int)≤256)) (
zav (decide ((4:Int)≤l1.Height)) (
zav (decide ((l1.Height:Int)≤200)) (
zav (decide ((0:Int)≤l1.Turn)) (
zav (decide ((l1.Turn:Int)≤7)) (
zav (decide ((0:Int)≤l1.Every)) (
some (decide ((l1.Every:Int)≤512))
) (
some false
)
) (
some false
)
) (
some false
)
) (
some false
)
) (
some false
)
) (
some false
)
) (
some false
)
theorem zib {l1:Gapi_Layout} {r:Bool} (h:zfN l1=some r):FnP Tryz.prog 64 [.agg (zr0 l1).toArray] (.bool r):=by
 unfold zfN at h
 refine FnP.intro Tryz.func64 rfl Tryz.ntmps64 (by simp) ?_
 intro w0 K
 refine zyG ?_
 refine zcP rfl dc rfl (fun b1 => ?_)
 refine zyR 1 rfl (zyH (zac zjn rfl dc rfl (show _=0 from rfl) (zan (k:=0) zbC rfl dc rfl rfl rfl (zaO rfl zep (zyR 1 rfl ?_)))))
 refine zyS (s:=6) rfl h (fun h => ?_) (fun h => ?_)
 ·
  refine zac zjn rfl dc rfl (show _=0 from rfl) (zan (k:=0) zbC rfl dc rfl rfl rfl (zaO rfl zdn (zyR 2 rfl ?_)))
  refine zyS (s:=11) rfl h (fun h => ?_) (fun h => ?_)
  ·
   refine zac zkj rfl dc rfl (show _=1 from rfl) (zan (k:=0) zbC rfl dc rfl rfl rfl (zaO rfl zep (zyR 2 rfl ?_)))
   refine zyS (s:=16) rfl h (fun h => ?_) (fun h => ?_)
   ·
    refine zac zkj rfl dc rfl (show _=1 from rfl) (zan (k:=0) zbC rfl dc rfl rfl rfl (zaO rfl zdn (zyR 2 rfl ?_)))
    refine zyS (s:=21) rfl h (fun h => ?_) (fun h => ?_)
    ·
     refine zac zij rfl dc rfl (show _=2 from rfl) (zan (k:=0) zbC rfl dc rfl rfl rfl (zaO rfl zep (zyR 2 rfl ?_)))
     refine zyS (s:=26) rfl h (fun h => ?_) (fun h => ?_)
     ·
      refine zac zij rfl dc rfl (show _=2 from rfl) (zan (k:=0) zbC rfl dc rfl rfl rfl (zaO rfl zdn (zyR 2 rfl ?_)))
      refine zyS (s:=31) rfl h (fun h => ?_) (fun h => ?_)
      ·
       refine zac zjm rfl dc rfl (show _=3 from rfl) (zan (k:=0) zbC rfl dc rfl rfl rfl (zaO rfl zep (zyR 2 rfl ?_)))
       refine zyS (s:=36) rfl h (fun h => ?_) (fun h => ?_)
       ·
        refine zac zjm rfl dc rfl (show _=3 from rfl) (zan (k:=0) zbC rfl dc rfl rfl rfl (zaO rfl zdn (zyR 2 rfl (zyN (zau ?_)))))
        cases h
        exact zaC (rs:=[.tmp 2]) () (.inl rfl) Tryz.results64 (.cons (.tmp rfl) .nil) rfl Splits.nil
       refine zyR 5 rfl (zyN (zau ?_))
       cases h
       exact zaC (rs:=[.tmp 2]) () (.inl rfl) Tryz.results64 (.cons (.tmp rfl) .nil) rfl Splits.nil
      refine zyR 10 rfl (zyN (zau ?_))
      cases h
      exact zaC (rs:=[.tmp 2]) () (.inl rfl) Tryz.results64 (.cons (.tmp rfl) .nil) rfl Splits.nil
     refine zyR 14 rfl ?_
     refine zyR 1 rfl (zyN (zau ?_))
     cases h
     exact zaC (rs:=[.tmp 2]) () (.inl rfl) Tryz.results64 (.cons (.tmp rfl) .nil) rfl Splits.nil
    refine zyR 14 rfl ?_
    refine zyR 6 rfl (zyN (zau ?_))
    cases h
    exact zaC (rs:=[.tmp 2]) () (.inl rfl) Tryz.results64 (.cons (.tmp rfl) .nil) rfl Splits.nil
   refine zyR 14 rfl ?_
   refine zyR 11 rfl (zyN (zau ?_))
   cases h
   exact zaC (rs:=[.tmp 2]) () (.inl rfl) Tryz.results64 (.cons (.tmp rfl) .nil) rfl Splits.nil
  refine zyR 14 rfl ?_
  refine zyR 14 rfl ?_
  refine zyR 2 rfl (zyN (zau ?_))
  cases h
  exact zaC (rs:=[.tmp 2]) () (.inl rfl) Tryz.results64 (.cons (.tmp rfl) .nil) rfl Splits.nil
 refine zyR 14 rfl ?_
 refine zyR 14 rfl ?_
 refine zyR 7 rfl (zyN (zau ?_))
 cases h
 exact zaC (rs:=[.tmp 2]) () (.inl rfl) Tryz.results64 (.cons (.tmp rfl) .nil) rfl Splits.nil
def zcl (t1:Gpage_turner) (k1:Int):Option Bool :=
zar (zc9 t1.cells k1) fun (q1:Gapi_Cell) =>
grd (I64 (q1.Span_From+1)) <|
zav ((q1.Span_To:Int)==(q1.Span_From+1)) (
zar (zhR t1.s q1.Span_From) fun (c1:Int) =>
some ((c1:Int)==32)
) (
some false
)
theorem zdi {bt1:Nat} {t1:Gpage_turner} {t1_h0 t1_h1 t1_h2:Hd} {k1:Int} {r:Bool} (h:zcl t1 k1=some r):FnR Tryz.prog 121 [zP bt1,zI k1] [cells bt1 [.string t1.s,t1_h0.v,t1_h1.v,t1_h2.v,zI t1.first,zI t1.rest] 203,zv4 t1_h0.v t1.cells,zv0 t1_h1.v t1.wide,zv0 t1_h2.v t1.ends] [] (fun _:Unit=>(.bool r)) (fun _=>[]):=by
 unfold zcl at h
 refine FnR.intro Tryz.func121 rfl Tryz.ntmps121 (by simp) ?_
 intro w0 K hrd
 refine zyG (zyR 1 rfl (zyH (zyR 1 rfl (zap rfl dc rfl (zac zfe rfl dc rfl (show _=1 from rfl) (zaS (i:=0) hrd rfl zkQ rfl dc rfl rfl (zyR 1 rfl ?_)))))))
 obtain ⟨q1,hq1,h⟩:=zbl h
 refine za3 (hrd.vw (i:=1) rfl) hq1 Tryz.underlying94 zla rfl dc rfl rfl rfl (zac zg7 rfl dc rfl (show _=(0+(k1:Int).toNat)*3 from rfl) (zcA (m:=0+(k1:Int).toNat) (j:=0) (i:=1) (q:=q1) (cs:=[zI q1.Span_From,zI q1.Span_To]) hrd rfl zkR zdf rfl dc rfl (Vw.get (hrd.vw (i:=1) rfl) hq1) rfl rfl rfl ?_))
 refine zbb zmL rfl dc (fun b1 => ?_)
 refine zaR (k:=0) (vs:=[zI q1.Span_From,zI q1.Span_To]) (l':=[zI q1.Span_From,zI q1.Span_To]) zkO rfl rfl rfl rfl rfl (show _≤_ by simp) rfl rfl ?_
 refine zyN (zay ?_)
 obtain ⟨hg1,h⟩:=zbs h
 refine zev (b:=(q1.Span_To:Int)==(q1.Span_From+1)) (fun hb1 => ?_) (fun hb1 => ?_)
 ·
  have h:=zfI hb1 h
  obtain ⟨c1,hq2,h⟩:=zbl h
  refine zbj 13 [(0,14,.pointer (some ⟨b1,1,none⟩)),(1,15,zI q1.Span_To),(2,16,zP b1),(3,17,zI q1.Span_From),(4,18,zI (q1.Span_From+1)),(5,19,.bool true),(6,20,.bool true),(7,21,zP bt1),(8,22,zP bt1),(9,23,zP bt1),(10,24,.string t1.s),(11,25,zP b1),(12,26,zI q1.Span_From)] mixed kr kr dc (by rfl) kr kr (zad ?_ (zad ?_ (zad ?_ (zad ?_ (zad ?_ (zad ?_ (zyP 2 6 rfl (zad ?_ (zad ?_ (zad ?_ (zad ?_ (zad ?_ DrawPre.nil)))))))))))) ?_
  · exact fun D n d c u i=>zac zeD rfl dc (zba (by rfl) rfl) (show _=1 from rfl) (zaf 0 u i rfl)
  · exact fun D n d c u i=>zan (k:=0) zbC rfl dc (zaa (m:=0) u rfl (d 0 dc)) rfl rfl (zaf 1 u i rfl)
  · exact fun D n d c u i=>zac zeT rfl dc (zba (by rfl) rfl) (show _=0 from rfl) (zaf 2 u i rfl)
  · exact fun D n d c u i=>zan (k:=0) zbC rfl dc (zaa (m:=2) u rfl (d 2 dc)) rfl rfl (zaf 3 u i rfl)
  · exact fun D n d c u i=>zbJ rfl dc (zaa (m:=3) u rfl (d 3 dc)) rfl (zaT (r:=q1.Span_From+1) (IntWalk.i64_in _ hg1)) (zaf 4 u i rfl)
  · exact fun D n d c u i=>zbJ rfl dc (zaa (m:=1) u rfl (d 1 dc)) (zaa (m:=4) u rfl (d 4 dc)) zaP (zeW (show Value.bool ((q1.Span_To:Int)==(q1.Span_From+1))=Value.bool true from congrArg Value.bool hb1) (zaf 5 u i rfl))
  · exact fun D n d c u i=>zap (zdC rfl (zaa (m:=6) u rfl (d 6 dc))) dc (zaa (m:=7) u rfl (d 7 dc)) (zaf 8 u i rfl)
  · exact fun D n d c u i=>zac zkz (zdC rfl (zaa (m:=6) u rfl (d 6 dc))) dc (zaa (m:=8) u rfl (d 8 dc)) (show _=0 from rfl) (zaf 9 u i rfl)
  · exact fun D n d c u i=>zaS (i:=0) hrd rfl ziz (zdC rfl (zaa (m:=6) u rfl (d 6 dc))) dc (zaa (m:=9) u rfl (d 9 dc)) rfl (zaf 10 u i rfl)
  · exact fun D n d c u i=>zac zeT (zdC rfl (zaa (m:=6) u rfl (d 6 dc))) dc (zba (by rfl) rfl) (show _=0 from rfl) (zaf 11 u i rfl)
  · exact fun D n d c u i=>zan (k:=0) zbC (zdC rfl (zaa (m:=6) u rfl (d 6 dc))) dc (zaa (m:=11) u rfl (d 11 dc)) rfl rfl (zaf 12 u i rfl)
  refine zcD rfl dc rfl rfl (zbk Tryz.underlying9 hq2) (zaO rfl zaP (zyR 2 rfl (zyN (zau ?_))))
  cases h
  exact zaC (rs:=[.tmp 4]) () (.inl rfl) Tryz.results121 (.cons (.tmp rfl) .nil) rfl Splits.nil
 have h:=zfJ hb1 h
 refine zbj 13 [(0,14,.pointer (some ⟨b1,1,none⟩)),(1,15,zI q1.Span_To),(2,16,zP b1),(3,17,zI q1.Span_From),(4,18,zI (q1.Span_From+1)),(5,19,.bool false),(6,20,.bool false),(7,21,undef),(8,22,undef),(9,23,undef),(10,24,undef),(11,25,undef),(12,26,undef)] mixed kr kr dc (by rfl) kr kr (zad ?_ (zad ?_ (zad ?_ (zad ?_ (zad ?_ (zad ?_ (zyP 7 6 rfl DrawPre.nil))))))) ?_
 · exact fun D n d c u i=>zac zeD rfl dc (zba (by rfl) rfl) (show _=1 from rfl) (zaf 0 u i rfl)
 · exact fun D n d c u i=>zan (k:=0) zbC rfl dc (zaa (m:=0) u rfl (d 0 dc)) rfl rfl (zaf 1 u i rfl)
 · exact fun D n d c u i=>zac zeT rfl dc (zba (by rfl) rfl) (show _=0 from rfl) (zaf 2 u i rfl)
 · exact fun D n d c u i=>zan (k:=0) zbC rfl dc (zaa (m:=2) u rfl (d 2 dc)) rfl rfl (zaf 3 u i rfl)
 · exact fun D n d c u i=>zbJ rfl dc (zaa (m:=3) u rfl (d 3 dc)) rfl (zaT (r:=q1.Span_From+1) (IntWalk.i64_in _ hg1)) (zaf 4 u i rfl)
 · exact fun D n d c u i=>zbJ rfl dc (zaa (m:=1) u rfl (d 1 dc)) (zaa (m:=4) u rfl (d 4 dc)) zaP (zeW (show Value.bool ((q1.Span_To:Int)==(q1.Span_From+1))=Value.bool false from congrArg Value.bool hb1) (zaf 5 u i rfl))
 refine zyR 4 rfl (zyN (zau ?_))
 cases h
 exact zaC (rs:=[.tmp 4]) () (.inl rfl) Tryz.results121 (.cons (.tmp rfl) .nil) rfl Splits.nil
def zb8 (t1:Gpage_turner) (from1:Int) (to1:Int):Option Int :=
zar (zc9 t1.ends to1) fun (q1:Int) =>
zar (zc9 t1.wide (max from1 q1)) fun (q2:Int) =>
zar (zc9 t1.wide from1) fun (q3:Int) =>
grd (I64 (q2 - q3)) <|
some (q2 - q3)
theorem zcX {bt1:Nat} {t1:Gpage_turner} {t1_h0 t1_h1 t1_h2:Hd} {from1:Int} {to1:Int} {r:Int} (h:zb8 t1 from1 to1=some r):FnR Tryz.prog 123 [zP bt1,zI from1,zI to1] [cells bt1 [.string t1.s,t1_h0.v,t1_h1.v,t1_h2.v,zI t1.first,zI t1.rest] 203,zv4 t1_h0.v t1.cells,zv0 t1_h1.v t1.wide,zv0 t1_h2.v t1.ends] [] (fun _:Unit=>(zI r)) (fun _=>[]):=by
 unfold zb8 at h
 refine FnR.intro Tryz.func123 rfl Tryz.ntmps123 (by simp) ?_
 intro w0 K hrd
 refine zyG (zyR 1 rfl (zyH (zyR 2 rfl (zap rfl dc rfl (zac zgz rfl dc rfl (show _=3 from rfl) (zaS (i:=0) hrd rfl zfq rfl dc rfl rfl (zyR 1 rfl ?_)))))))
 obtain ⟨q1,hq1,h⟩:=zbl h
 refine za3 (hrd.vw (i:=3) rfl) hq1 Tryz.underlying49 zeX rfl dc rfl rfl rfl (zbT (n:=0+(to1:Int).toNat) (j:=0) (i:=3) (q:=q1) hrd rfl zbC zbX rfl dc rfl (Vw.get (hrd.vw (i:=3) rfl) hq1) rfl dc rfl (zju rfl dc rfl rfl (zyR 1 rfl (zyN (zay ?_)))))
 obtain ⟨q2,hq2,h⟩:=zbl h
 obtain ⟨q3,hq3,h⟩:=zbl h
 obtain ⟨hg1,h⟩:=zbs h
 refine zbj 14 [(0,16,zP bt1),(1,17,zP bt1),(2,18,.pointer (some ⟨bt1,2,none⟩)),(3,19,t1_h1.v),(4,20,zI (max from1 q1)),(5,21,.pointer (some ⟨zcL t1_h1.v,(0+(max from1 q1:Int).toNat)*1,none⟩)),(6,22,zI q2),(7,23,zP bt1),(8,24,zP bt1),(9,25,.pointer (some ⟨bt1,2,none⟩)),(10,26,t1_h1.v),(11,27,zI from1),(12,28,.pointer (some ⟨zcL t1_h1.v,(0+(from1:Int).toNat)*1,none⟩)),(13,29,zI q3)] mixed kr kr dc (by rfl) kr kr (zyP 1 0 rfl (zad ?_ (zad ?_ (zad ?_ (zyP 1 4 rfl (zad ?_ (zad ?_ (zyP 1 7 rfl (zad ?_ (zad ?_ (zad ?_ (zyP 1 11 rfl (zad ?_ (zad ?_ DrawPre.nil)))))))))))))) ?_
 · exact fun D n d c u i=>zap rfl dc (zaa (m:=0) u rfl (d 0 dc)) (zaf 1 u i rfl)
 · exact fun D n d c u i=>zac zgA rfl dc (zaa (m:=1) u rfl (d 1 dc)) (show _=2 from rfl) (zaf 2 u i rfl)
 · exact fun D n d c u i=>zaS (i:=0) hrd rfl zfq rfl dc (zaa (m:=2) u rfl (d 2 dc)) rfl (zaf 3 u i rfl)
 · exact fun D n d c u i=>za3 (hrd.vw (i:=2) rfl) hq2 Tryz.underlying49 zeX rfl dc (zaa (m:=3) u rfl (d 3 dc)) (zaa (m:=4) u rfl (d 4 dc)) rfl (zaf 5 u i rfl)
 · exact fun D n d c u i=>zbT (n:=0+(max from1 q1:Int).toNat) (j:=0) (i:=2) (q:=q2) hrd rfl zbC zbX rfl dc (zaa (m:=5) u rfl (d 5 dc)) (Vw.get (hrd.vw (i:=2) rfl) hq2) rfl dc rfl (zaf 6 u i rfl)
 · exact fun D n d c u i=>zap rfl dc (zaa (m:=7) u rfl (d 7 dc)) (zaf 8 u i rfl)
 · exact fun D n d c u i=>zac zgA rfl dc (zaa (m:=8) u rfl (d 8 dc)) (show _=2 from rfl) (zaf 9 u i rfl)
 · exact fun D n d c u i=>zaS (i:=0) hrd rfl zfq rfl dc (zaa (m:=9) u rfl (d 9 dc)) rfl (zaf 10 u i rfl)
 · exact fun D n d c u i=>za3 (hrd.vw (i:=2) rfl) hq3 Tryz.underlying49 zeX rfl dc (zaa (m:=10) u rfl (d 10 dc)) (zaa (m:=11) u rfl (d 11 dc)) rfl (zaf 12 u i rfl)
 · exact fun D n d c u i=>zbT (n:=0+(from1:Int).toNat) (j:=0) (i:=2) (q:=q3) hrd rfl zbC zbX rfl dc (zaa (m:=12) u rfl (d 12 dc)) (Vw.get (hrd.vw (i:=2) rfl) hq3) rfl dc rfl (zaf 13 u i rfl)
 refine zaO rfl (zbD (r:=q2 - q3) (IntWalk.i64_in _ hg1)) (zyR 1 rfl (zyN (zau ?_)))
 cases h
 exact zaC (rs:=[.tmp 6]) () (.inl rfl) Tryz.results123 (.cons (.tmp rfl) .nil) rfl Splits.nil
def zcv (t1:Gpage_turner) (from1:Int):Option Int :=
zav ((from1:Int)==0) (
some t1.first
) (
some t1.rest
)
theorem zds {bt1:Nat} {t1:Gpage_turner} {t1_h0 t1_h1 t1_h2:Hd} {from1:Int} {r:Int} (h:zcv t1 from1=some r):FnR Tryz.prog 124 [zP bt1,zI from1] [cells bt1 [.string t1.s,t1_h0.v,t1_h1.v,t1_h2.v,zI t1.first,zI t1.rest] 203,zv4 t1_h0.v t1.cells,zv0 t1_h1.v t1.wide,zv0 t1_h2.v t1.ends] [] (fun _:Unit=>(zI r)) (fun _=>[]):=by
 unfold zcv at h
 refine FnR.intro Tryz.func124 rfl Tryz.ntmps124 (by simp) ?_
 intro w0 K hrd
 refine zyG (zyR 1 rfl (zyN (zay (zyG (zyR 1 rfl (zaO rfl zaP (zyN ?_)))))))
 refine zyB rfl h (fun h => ?_) (fun h => ?_)
 ·
  refine zyG (zyR 1 rfl (zap rfl dc rfl (zac zmf rfl dc rfl (show _=4 from rfl) (zaS (i:=0) hrd rfl zbC rfl dc rfl rfl (zyR 1 rfl (zyN (zau (zah ?_))))))))
  cases h
  exact zaC (rs:=[.tmp 4]) () (.inl rfl) Tryz.results124 (.cons (.tmp rfl) .nil) rfl Splits.nil
 refine zat (zaE (zyG (zyR 1 rfl (zap rfl dc rfl (zac zme rfl dc rfl (show _=5 from rfl) (zaS (i:=0) hrd rfl zbC rfl dc rfl rfl (zyR 1 rfl (zyN (zau ?_)))))))))
 cases h
 exact zaC (rs:=[.tmp 4]) () (.inl rfl) Tryz.results124 (.cons (.tmp rfl) .nil) rfl Splits.nil
def zdV (t1:Gpage_turner) (from1:Int) (to1:Int):Option Bool :=
zbp (fun (j1:Option Bool) =>
zav (decide ((0:Int)<from1)) (
zar (zcl t1 from1) fun (r1:Bool) =>
zav (r1) (
some false
) (
j1
)
) (
j1
)
) (
zar (zb8 t1 from1 to1) fun (r2:Int) =>
zar (zcv t1 from1) fun (r3:Int) =>
zav (decide ((r2:Int)≤r3)) (
some true
) (
zar (zc9 t1.ends to1) fun (q1:Int) =>
grd (I64 (from1+1)) <|
some (decide ((q1:Int)≤(from1+1)))
)
)
theorem zgr {bt1:Nat} {t1:Gpage_turner} {t1_h0 t1_h1 t1_h2:Hd} {from1:Int} {to1:Int} {r:Bool} (h:zdV t1 from1 to1=some r):FnR Tryz.prog 122 [zP bt1,zI from1,zI to1] [cells bt1 [.string t1.s,t1_h0.v,t1_h1.v,t1_h2.v,zI t1.first,zI t1.rest] 203,zv4 t1_h0.v t1.cells,zv0 t1_h1.v t1.wide,zv0 t1_h2.v t1.ends] [] (fun _:Unit=>(.bool r)) (fun _=>[]):=by
 unfold zdV at h
 refine FnR.intro Tryz.func122 rfl Tryz.ntmps122 (by simp) ?_
 intro w0 K hrd
 obtain ⟨j1,hj1,h⟩:=zbw h
 refine zaU (β:=Unit) 1 rfl (fun b=>j1=some r) (fun b=>[]) (fun b=>[(0,zP bt1),(1,zI from1),(2,zI to1)]) (fun b=>[]) (fun cut => ?_) ?_
 ·
  refine zyG (zyR 1 rfl (zyN (cut (zyG (zyR 1 rfl (zaO rfl zcY (zyR 1 rfl ?_)))))))
  refine zyS (s:=9) rfl h (fun h => ?_) (fun h => ?_)
  ·
   refine zyR 2 rfl ?_
   obtain ⟨r1,hq1,h⟩:=zbl h
   refine zbH (v:=.bool r1) (vs:=[zP bt1,zI from1]) hrd rfl dc rfl rfl rfl zlE (zdi (bt1:=bt1) (t1:=t1) (t1_h0:=t1_h0) (t1_h1:=t1_h1) (t1_h2:=t1_h2) hq1) (.ro 0 rfl (.ro 1 rfl (.ro 2 rfl (.ro 3 rfl .nil)))) (zyR 1 rfl (zyN ?_))
   refine zyB rfl h (fun h => ?_) (fun h => ?_)
   ·
    refine zyG (zyR 1 rfl (zyN (zau (zah ?_))))
    cases h
    exact zaC (rs:=[.tmp 6]) () (.inl rfl) Tryz.results122 (.cons (.tmp rfl) .nil) rfl Splits.nil
   refine zat ?_
   exact zaq () h rfl (za7 rfl) Splits.nil
  refine zyR 4 rfl (zyN (zaL rfl (zat ?_)))
  exact zaq () h rfl (za7 rfl) Splits.nil
 rintro _ h
 rw [hj1] at h
 refine zyG (zyR 3 rfl ?_)
 obtain ⟨r2,hq2,h⟩:=zbl h
 refine zbH (v:=zI r2) (vs:=[zP bt1,zI from1,zI to1]) hrd rfl dc rfl rfl rfl zlD (zcX (bt1:=bt1) (t1:=t1) (t1_h0:=t1_h0) (t1_h1:=t1_h1) (t1_h2:=t1_h2) hq2) (.ro 0 rfl (.ro 1 rfl (.ro 2 rfl (.ro 3 rfl .nil)))) (zyR 2 rfl ?_)
 obtain ⟨r3,hq3,h⟩:=zbl h
 refine zbH (v:=zI r3) (vs:=[zP bt1,zI from1]) hrd rfl dc rfl rfl rfl zlC (zds (bt1:=bt1) (t1:=t1) (t1_h0:=t1_h0) (t1_h1:=t1_h1) (t1_h2:=t1_h2) hq3) (.ro 0 rfl (.ro 1 rfl (.ro 2 rfl (.ro 3 rfl .nil)))) (zaO rfl zdn (zyR 1 rfl ?_))
 refine zyS (s:=22) rfl h (fun h => ?_) (fun h => ?_)
 ·
  refine zyR 12 rfl (zyN ?_)
  refine zau ?_
  cases h
  exact zaC (rs:=[.tmp 6]) () (.inl rfl) Tryz.results122 (.cons (.tmp rfl) .nil) rfl Splits.nil
 refine zyR 1 rfl (zap rfl dc rfl (zac zgz rfl dc rfl (show _=3 from rfl) (zaS (i:=0) hrd rfl zfq rfl dc rfl rfl (zyR 1 rfl ?_))))
 obtain ⟨q1,hq4,h⟩:=zbl h
 refine za3 (hrd.vw (i:=3) rfl) hq4 Tryz.underlying49 zeX rfl dc rfl rfl rfl (zbT (n:=0+(to1:Int).toNat) (j:=0) (i:=3) (q:=q1) hrd rfl zbC zbX rfl dc rfl (Vw.get (hrd.vw (i:=3) rfl) hq4) rfl dc rfl (zyR 1 rfl ?_))
 obtain ⟨hg1,h⟩:=zbs h
 refine zaO rfl (zaT (r:=from1+1) (IntWalk.i64_in _ hg1)) (zaO rfl zdn (zyR 2 rfl (zyN (zau ?_))))
 cases h
 exact zaC (rs:=[.tmp 6]) () (.inl rfl) Tryz.results122 (.cons (.tmp rfl) .nil) rfl Splits.nil
def zdI (t1:Gpage_turner) (from1:Int) (to1:Int):Option Int :=
zbp (fun (j1:Int→Option Int) =>
zar (zcv t1 from1) fun (r1:Int) =>
zar (zb8 t1 from1 to1) fun (r2:Int) =>
grd (I64 (r1 - r2)) <|
zav (decide ((0:Int)<(r1 - r2))) (
grd (I64 ((r1 - r2)*(r1 - r2))) <|
j1 ((r1 - r2)*(r1 - r2))
) (
j1 0
)
) (fun (n1:Int) =>
zbp (fun (j2:Int→Option Int) =>
grd (I64 (to1 - 1)) <|
zar (zcl t1 (to1 - 1)) fun (r3:Bool) =>
zav (!r3) (
grd (I64 (n1+1000)) <|
j2 (n1+1000)
) (
j2 n1
)
) (fun (n2:Int) =>
some n2
)
)
theorem zf9 {bt1:Nat} {t1:Gpage_turner} {t1_h0 t1_h1 t1_h2:Hd} {from1:Int} {to1:Int} {r:Int} (h:zdI t1 from1 to1=some r):FnR Tryz.prog 125 [zP bt1,zI from1,zI to1] [cells bt1 [.string t1.s,t1_h0.v,t1_h1.v,t1_h2.v,zI t1.first,zI t1.rest] 203,zv4 t1_h0.v t1.cells,zv0 t1_h1.v t1.wide,zv0 t1_h2.v t1.ends] [] (fun _:Unit=>(zI r)) (fun _=>[]):=by
 unfold zdI at h
 refine FnR.intro Tryz.func125 rfl Tryz.ntmps125 (by simp) ?_
 intro w0 K hrd
 obtain ⟨j1,hj1,h⟩:=zbw h
 refine zaU (β:=Int) 2 rfl (fun b=>j1 b=some r) (fun b=>[]) (fun b=>[(0,zP bt1),(2,zI to1),(7,zI b)]) (fun b=>[]) (fun cut => ?_) ?_
 ·
  refine zyG (zyR 1 rfl (zyH (zyR 1 rfl (zyN (cut (zyG (zyR 1 rfl ?_)))))))
  refine zyR 1 rfl ?_
  obtain ⟨r1,hq1,h⟩:=zbl h
  refine zbH (v:=zI r1) (vs:=[zP bt1,zI from1]) hrd rfl dc rfl rfl rfl zlC (zds (bt1:=bt1) (t1:=t1) (t1_h0:=t1_h0) (t1_h1:=t1_h1) (t1_h2:=t1_h2) hq1) (.ro 0 rfl (.ro 1 rfl (.ro 2 rfl (.ro 3 rfl .nil)))) (zyR 3 rfl ?_)
  obtain ⟨r2,hq2,h⟩:=zbl h
  refine zbH (v:=zI r2) (vs:=[zP bt1,zI from1,zI to1]) hrd rfl dc rfl rfl rfl zlD (zcX (bt1:=bt1) (t1:=t1) (t1_h0:=t1_h0) (t1_h1:=t1_h1) (t1_h2:=t1_h2) hq2) (.ro 0 rfl (.ro 1 rfl (.ro 2 rfl (.ro 3 rfl .nil)))) ?_
  obtain ⟨hg1,h⟩:=zbs h
  refine zaO rfl (zbD (r:=r1 - r2) (IntWalk.i64_in _ hg1)) (zyR 1 rfl (zyH (zyR 1 rfl (zaO rfl zcY (zyN ?_)))))
  refine zyB rfl h (fun h => ?_) (fun h => ?_)
  ·
   refine zaA (zyR 2 rfl ?_)
   obtain ⟨hg2,h⟩:=zbs h
   refine zaO rfl (zlJ (r:=(r1 - r2)*(r1 - r2)) (IntWalk.i64_in _ hg2)) (zyR 1 rfl (zaV ?_))
   exact zaq ((r1 - r2)*(r1 - r2)) h rfl (za7 rfl) Splits.nil
  refine zat ?_
  exact zaq 0 h rfl (za7 rfl) Splits.nil
 rintro n1 h
 rw [hj1] at h
 obtain ⟨j2,hj2,h⟩:=zbw h
 refine zaU (β:=Int) 0 rfl (fun b=>j2 b=some r) (fun b=>[]) (fun b=>[(7,zI b)]) (fun b=>[]) (fun cut => ?_) ?_
 ·
  refine cut (zyG (zyR 2 rfl ?_))
  obtain ⟨hg3,h⟩:=zbs h
  refine zaO rfl (zbD (r:=to1 - 1) (IntWalk.i64_in _ hg3)) ?_
  obtain ⟨r3,hq3,h⟩:=zbl h
  refine zbH (v:=.bool r3) (vs:=[zP bt1,zI (to1 - 1)]) hrd rfl dc rfl rfl rfl zlE (zdi (bt1:=bt1) (t1:=t1) (t1_h0:=t1_h0) (t1_h1:=t1_h1) (t1_h2:=t1_h2) hq3) (.ro 0 rfl (.ro 1 rfl (.ro 2 rfl (.ro 3 rfl .nil)))) (zcZ rfl dc rfl zbZ (zyN ?_))
  refine zyB rfl h (fun h => ?_) (fun h => ?_)
  ·
   refine zaA (zyR 1 rfl ?_)
   obtain ⟨hg4,h⟩:=zbs h
   refine zaO rfl (zaT (r:=n1+1000) (IntWalk.i64_in _ hg4)) (zyR 1 rfl (zaV ?_))
   exact zaq (n1+1000) h rfl (za7 rfl) Splits.nil
  refine zat ?_
  exact zaq n1 h rfl (za7 rfl) Splits.nil
 rintro n2 h
 rw [hj2] at h
 refine zyG (zyR 2 rfl (zyN (zau ?_)))
 cases h
 exact zaC (rs:=[.tmp 6]) () (.inl rfl) Tryz.results125 (.cons (.tmp rfl) .nil) rfl Splits.nil
def zcn (t1:Gpage_turner) (from3:Int) (j2:(List Gpage_best)→Option ((List Int)×Int)) (ag2:(List Gpage_best)→Int→Option ((List Int)×Int)) (all8:List Gpage_best) (to3:Int):Option ((List Int)×Int) :=
zav (decide ((to3:Int)≤(t1.cells.length:Int))) (
zbp (fun (j3:(List Gpage_best)→Option ((List Int)×Int)) =>
zar (zdV t1 from3 to3) fun (r1:Bool) =>
zav (!r1) (
zar (zb8 t1 from3 to3) fun (r2:Int) =>
zar (zcv t1 from3) fun (r3:Int) =>
zav (decide ((r3:Int)<r2)) (
j2 all8
) (
j3 all8
)
) (
zbp (fun (j4:Int→Int→Option ((List Int)×Int)) =>
zav (decide ((to3:Int)<(t1.cells.length:Int))) (
zar (zc9 all8 to3) fun (q2:Gpage_best) =>
zav (decide ((q2.rows:Int)<0)) (
j3 all8
) (
zar (zdI t1 from3 to3) fun (r4:Int) =>
zar (zc9 all8 to3) fun (q3:Gpage_best) =>
grd (I64 (r4+q3.cost)) <|
grd (I64 (q3.rows+1)) <|
j4 (r4+q3.cost) (q3.rows+1)
)
) (
j4 0 1
)
) (fun (b2:Int) (b3:Int) =>
zar (zc9 all8 from3) fun (q4:Gpage_best) =>
zav (decide ((q4.rows:Int)<0)) (
zar (zc9 all8 from3) fun (q5:Gpage_best) =>
j3 (all8.set (from3:Int).toNat (⟨b2,b3,to3⟩:Gpage_best))
) (
zav (decide ((b2:Int)<q4.cost)) (
zar (zc9 all8 from3) fun (q6:Gpage_best) =>
j3 (all8.set (from3:Int).toNat (⟨b2,b3,to3⟩:Gpage_best))
) (
zav ((b2:Int)==q4.cost) (
zav (decide ((b3:Int)≤q4.rows)) (
zar (zc9 all8 from3) fun (q7:Gpage_best) =>
j3 (all8.set (from3:Int).toNat (⟨b2,b3,to3⟩:Gpage_best))
) (
j3 all8
)
) (
j3 all8
)
)
)
)
)
) (fun (all9:List Gpage_best) =>
grd (I64 (to3+1)) <|
ag2 all9 (to3+1)
)
) (
j2 all8
)
def zco (t1:Gpage_turner) (j1:(List Gpage_best)→Option ((List Int)×Int)) (ag1:(List Gpage_best)→Int→Option ((List Int)×Int)) (all4:List Gpage_best) (from3:Int):Option ((List Int)×Int) :=
zav (decide ((0:Int)≤from3)) (
zbp (fun (j2:(List Gpage_best)→Option ((List Int)×Int)) =>
zar (zc9 all4 from3) fun (q1:Gpage_best) =>
grd (I64 (from3+1)) <|
za9 (fun _ _=>none) (zcn t1 from3 j2) zcN (all4.set (from3:Int).toNat (⟨q1.cost,(-1),q1.to_⟩:Gpage_best)) (from3+1)
) (fun (all5:List Gpage_best) =>
grd (I64 (from3 - 1)) <|
ag1 all5 (from3 - 1)
)
) (
j1 all4
)
def zcm (t1:Gpage_turner) (all1:List Gpage_best) (j5:(List Int)→Option ((List Int)×Int)) (ag3:(List Int)→Int→Option ((List Int)×Int)) (out4:List Int) (from6:Int):Option ((List Int)×Int) :=
zav (decide ((from6:Int)<(t1.cells.length:Int))) (
zar (zc9 all1 from6) fun (q8:Gpage_best) =>
grd (out4.length+1≤2147483648) <|
zar (zc9 all1 from6) fun (q9:Gpage_best) =>
ag3 (out4++[q8.to_]) q9.to_
) (
j5 out4
)
def zdH (t1:Gpage_turner):Option ((List Int)×Int) :=
zbp (fun (j1:(List Gpage_best)→Option ((List Int)×Int)) =>
grd (I64 ((t1.cells.length:Int)+1)) <|
grd (0≤((t1.cells.length:Int)+1)∧((t1.cells.length:Int)+1)≤2147483648) <|
grd (I64 ((t1.cells.length:Int) - 1)) <|
za9 (fun _ _=>none) (zco t1 j1) zcN (List.replicate ((t1.cells.length:Int)+1:Int).toNat (⟨0,0,0⟩:Gpage_best):List Gpage_best) ((t1.cells.length:Int) - 1)
) (fun (all1:List Gpage_best) =>
zbp (fun (j5:(List Int)→Option ((List Int)×Int)) =>
za9 (fun _ _=>none) (zcm t1 all1 j5) zcN ([]:List Int) 0
) (fun (out1:List Int) =>
zar (zc9 all1 0) fun (q10:Gpage_best) =>
some (out1,q10.cost)
)
)
theorem zf8 {bt1:Nat} {t1:Gpage_turner} {t1_h0 t1_h1 t1_h2:Hd} {r:((List Int)×Int)} (h:zdH t1=some r):FnR Tryz.prog 96 [zP bt1] [cells bt1 [.string t1.s,t1_h0.v,t1_h1.v,t1_h2.v,zI t1.first,zI t1.rest] 203,zv4 t1_h0.v t1.cells,zv0 t1_h1.v t1.wide,zv0 t1_h2.v t1.ends] [] (fun v0:Value=>.tuple #[v0,zI r.2]) (fun v0=>[zv0 v0 r.1]):=by
 unfold zdH at h
 refine FnR.intro Tryz.func96 rfl Tryz.ntmps96 (by simp) ?_
 intro w0 K hrd
 obtain ⟨j1,hj1,h⟩:=zbw h
 refine zaU (β:=(List Gpage_best)×Value) 3 rfl (fun b=>j1 b.1=some r) (fun b=>[]) (fun b=>[(4,zI (t1.cells.length:Int)),(5,b.2)]) (fun b=>[zv8 b.2 b.1]) (fun cut => ?_) ?_
 ·
  refine zyG (zyR 2 rfl (zyH (zyR 1 rfl (zap rfl dc rfl (zac zfe rfl dc rfl (show _=1 from rfl) (zaS (i:=0) hrd rfl zkQ rfl dc rfl rfl (zcU (hrd.vw (i:=1) rfl) rfl dc rfl Tryz.underlying94 (zyR 1 rfl ?_))))))))
  refine zyH (zyR 1 rfl ?_)
  obtain ⟨hg1,h⟩:=zbs h
  refine zaO rfl (zaT (r:=(t1.cells.length:Int)+1) (IntWalk.i64_in _ hg1)) ?_
  obtain ⟨hg2,h⟩:=zbs h
  refine zi1 (z:=(⟨0,0,0⟩:Gpage_best)) Tryz.underlying174 zmy ziJ zaF rfl dc rfl hg2 (fun v2 => ?_)
  refine zyR 1 rfl (zyN (cut (zyG (zyR 1 rfl ?_))))
  obtain ⟨hg3,h⟩:=zbs h
  refine zaO rfl (zbD (r:=(t1.cells.length:Int) - 1) (IntWalk.i64_in _ hg3)) (zyR 1 rfl (zyN (zaB ?_)))
  refine zbm (β:=Nat×(List Gpage_best)×Int) (fun b=>za9 (fun _ _=>none) (zco t1 j1) b.1 b.2.1 b.2.2=some r) (fun b=>[]) (fun b=>[(0,zP bt1),(4,zI (t1.cells.length:Int)),(5,v2),(6,zI b.2.2)]) (fun b=>[zv8 v2 b.2.1]) (fun b=>b.1) (zcN,(List.replicate ((t1.cells.length:Int)+1:Int).toNat (⟨0,0,0⟩:Gpage_best):List Gpage_best),(t1.cells.length:Int) - 1) h rfl (za7 rfl) (zae [0] kr rfl) ?_
  rintro ⟨n1,all4,from3⟩ h
  cases n1 with
  | zero=>exact zcS h
  | succ n1 =>
   obtain ⟨ag1,hag1⟩:∃ ag,ag=za9 (fun _ _=>none) (zco t1 j1) n1:=⟨_,rfl⟩
   have h:zco t1 j1 ag1 all4 from3=some r:=by rw [hag1]; exact h
   unfold zco at h
   refine zay (zyG (zyR 1 rfl (zaO rfl zep (zyN ?_))))
   refine zyB rfl h (fun h => ?_) (fun h => ?_)
   ·
    refine zat (zaE ?_)
    obtain ⟨j2,hj2,h⟩:=zbw h
    refine zaU (β:=(List Gpage_best)) 0 rfl (fun b=>j2 b=some r) (fun b=>[]) (fun b=>[(0,zP bt1),(4,zI (t1.cells.length:Int)),(5,v2),(6,zI from3)]) (fun b=>[zv8 v2 b]) (fun cut => ?_) ?_
    ·
     refine cut (zaB ?_)
     refine zeM (β:=Unit) (l:=0) (fun _=>False) (fun _=>[]) (fun _=>[]) rfl ?_ ?_
     ·
      refine zyG (zyR 2 rfl ?_)
      obtain ⟨q1,hq1,h⟩:=zbl h
      refine zaM (k:=0) hq1 Tryz.underlying174 zcc rfl dc rfl rfl rfl rfl (zac zdK rfl dc rfl (show _=((from3:Int).toNat)*3+1 from rfl) ?_)
      refine zd2 (i:=(from3:Int).toNat) (j:=1) (k:=0) (q:=q1) (q':=(⟨q1.cost,(-1),q1.to_⟩:Gpage_best)) zeX zaF rfl rfl rfl rfl (za4 hq1) rfl dc rfl (fun _ _=>rfl) ?_
      refine zyN (zay (zhZ (zaE (zyG (zyR 1 rfl ?_)))))
      obtain ⟨hg4,h⟩:=zbs h
      refine zaO rfl (zaT (r:=from3+1) (IntWalk.i64_in _ hg4)) (zyR 1 rfl (zyN (zaB ?_)))
      refine zbm (β:=Nat×(List Gpage_best)×Int) (fun b=>za9 (fun _ _=>none) (zcn t1 from3 j2) b.1 b.2.1 b.2.2=some r) (fun b=>[]) (fun b=>[(0,zP bt1),(4,zI (t1.cells.length:Int)),(5,v2),(6,zI from3),(7,zI b.2.2)]) (fun b=>[zv8 v2 b.2.1]) (fun b=>b.1) (zcN,all4.set (from3:Int).toNat (⟨q1.cost,(-1),q1.to_⟩:Gpage_best),from3+1) h rfl (za7 rfl) (zae [0] kr rfl) ?_
      rintro ⟨n2,all8,to3⟩ h
      cases n2 with
      | zero=>exact zcS h
      | succ n2 =>
       obtain ⟨ag2,hag2⟩:∃ ag,ag=za9 (fun _ _=>none) (zcn t1 from3 j2) n2:=⟨_,rfl⟩
       have h:zcn t1 from3 j2 ag2 all8 to3=some r:=by rw [hag2]; exact h
       unfold zcn at h
       refine zay (zyG (zyR 2 rfl (zaO rfl zdn (zyN ?_))))
       refine zyB rfl h (fun h => ?_) (fun h => ?_)
       ·
        refine zat (zaE ?_)
        obtain ⟨j3,hj3,h⟩:=zbw h
        refine zaU (β:=(List Gpage_best)) 0 rfl (fun b=>j3 b=some r) (fun b=>[]) (fun b=>[(0,zP bt1),(4,zI (t1.cells.length:Int)),(5,v2),(6,zI from3),(7,zI to3)]) (fun b=>[zv8 v2 b]) (fun cut => ?_) ?_
        ·
         refine cut (zaB (zay (zyG (zyR 3 rfl ?_))))
         obtain ⟨r1,hq2,h⟩:=zbl h
         refine zbH (v:=.bool r1) (vs:=[zP bt1,zI from3,zI to3]) hrd rfl dc rfl rfl rfl zn2 (zgr (bt1:=bt1) (t1:=t1) (t1_h0:=t1_h0) (t1_h1:=t1_h1) (t1_h2:=t1_h2) hq2) (.ro 0 rfl (.ro 1 rfl (.ro 2 rfl (.ro 3 rfl .nil)))) (zcZ rfl dc rfl zbZ (zyN ?_))
         refine zyB rfl h (fun h => ?_) (fun h => ?_)
         ·
          refine zay (zyG (zyR 3 rfl ?_))
          obtain ⟨r2,hq3,h⟩:=zbl h
          refine zbH (v:=zI r2) (vs:=[zP bt1,zI from3,zI to3]) hrd rfl dc rfl rfl rfl zlD (zcX (bt1:=bt1) (t1:=t1) (t1_h0:=t1_h0) (t1_h1:=t1_h1) (t1_h2:=t1_h2) hq3) (.ro 0 rfl (.ro 1 rfl (.ro 2 rfl (.ro 3 rfl .nil)))) (zyR 2 rfl ?_)
          obtain ⟨r3,hq4,h⟩:=zbl h
          refine zbH (v:=zI r3) (vs:=[zP bt1,zI from3]) hrd rfl dc rfl rfl rfl zlC (zds (bt1:=bt1) (t1:=t1) (t1_h0:=t1_h0) (t1_h1:=t1_h1) (t1_h2:=t1_h2) hq4) (.ro 0 rfl (.ro 1 rfl (.ro 2 rfl (.ro 3 rfl .nil)))) (zaO rfl zcY (zyN ?_))
          refine zyB rfl h (fun h => ?_) (fun h => ?_)
          ·
           refine za6 (zao (zao (zbS dc (zao (zao (zaw (zbz (by simp) (zai ?_))))))))
           exact zaq all8 h rfl (za7 rfl) (zae [0] kr rfl)
          refine zat (zaE (za6 (zao (zaw ?_))))
          exact zaq all8 h rfl (za7 rfl) (zae [0] kr rfl)
         refine zat (zaE ?_)
         obtain ⟨j4,hj4,h⟩:=zbw h
         refine zaU (β:=Int×Int×Nat) 1 rfl (fun b=>j4 b.1 b.2.1=some r) (fun b=>[]) (fun b=>[(0,zP bt1),(4,zI (t1.cells.length:Int)),(5,v2),(6,zI from3),(7,zI to3),(8,zP b.2.2)]) (fun b=>[zv8 v2 all8,cells b.2.2 [zI b.1,zI b.2.1,zI to3] 176]) (fun cut => ?_) ?_
         ·
          refine zyG (zyR 1 rfl ?_)
          refine zbg (v:=.agg #[zI 0,zI 1,zI to3]) (ps:=[(1,.const (zI 1)),(2,.tmp 50)]) rfl dc rfl (fun _=>by kernel_rfl) ?_
          refine zbb ziJ rfl dc (fun b4 => ?_)
          refine zaR (k:=1) (vs:=[zI 0,zI 1,zI to3]) (l':=[zI 0,zI 1,zI to3]) zcc rfl rfl rfl rfl rfl (show _≤_ by simp) rfl rfl ?_
          refine zyN (cut (zyG (zyR 2 rfl (zaO rfl zbv (zyN ?_)))))
          refine zyB rfl h (fun h => ?_) (fun h => ?_)
          ·
           refine zay (zyG (zyR 2 rfl ?_))
           obtain ⟨q2,hq5,h⟩:=zbl h
           refine zaM (k:=0) hq5 Tryz.underlying174 zcc rfl dc rfl rfl rfl rfl (zac zdK rfl dc rfl (show _=((to3:Int).toNat)*3+1 from rfl) (zbi (i:=(to3:Int).toNat) (j:=1) (k:=0) (q:=q2) zbC zaF rfl dc rfl rfl (za4 hq5) rfl dc rfl (zaO rfl zbv (zyN ?_))))
           refine zyB rfl h (fun h => ?_) (fun h => ?_)
           ·
            refine za6 (zao (zao (zaw ?_)))
            exact zaq all8 h rfl (za7 rfl) (zae [0] kr rfl)
           refine zat (zaE ?_)
           obtain ⟨r4,hq6,h⟩:=zbl h
           obtain ⟨q3,hq7,h⟩:=zbl h
           obtain ⟨hg5,h⟩:=zbs h
           obtain ⟨hg6,h⟩:=zbs h
           refine zbj 17 [(0,61,zP bt1),(1,62,zI from3),(2,63,zI to3),(3,64,zI r4),(4,65,v2),(5,66,zI to3),(6,67,.pointer (some ⟨zcL v2,(to3:Int).toNat*3,none⟩)),(7,68,.pointer (some ⟨zcL v2,((to3:Int).toNat)*3,none⟩)),(8,69,zI q3.cost),(9,70,zI (r4+q3.cost)),(10,71,v2),(11,72,zI to3),(12,73,.pointer (some ⟨zcL v2,(to3:Int).toNat*3,none⟩)),(13,74,.pointer (some ⟨zcL v2,((to3:Int).toNat)*3+1,none⟩)),(14,75,zI q3.rows),(15,76,zI (q3.rows+1)),(16,77,zI to3)] mixed kr kr dc (by rfl) kr kr (zyP 3 0 rfl (zad ?_ (zyP 2 4 rfl (zad ?_ (zad ?_ (zad ?_ (zad ?_ (zyP 2 10 rfl (zad ?_ (zad ?_ (zad ?_ (zad ?_ (zyP 1 16 rfl DrawPre.nil))))))))))))) ?_
           · exact fun D n d c u i=>zbH (v:=zI r4) (vs:=[zP bt1,zI from3,zI to3]) hrd rfl dc rfl (evL.cons (zaa (m:=0) u rfl (d 0 dc)) (evL.cons (zaa (m:=1) u rfl (d 1 dc)) (evL.cons (zaa (m:=2) u rfl (d 2 dc)) evL.nil))) rfl zn1 (zf9 (bt1:=bt1) (t1:=t1) (t1_h0:=t1_h0) (t1_h1:=t1_h1) (t1_h2:=t1_h2) hq6) (.ro 0 rfl (.ro 1 rfl (.ro 2 rfl (.ro 3 rfl .nil)))) (zaf 3 u i rfl)
           · exact fun D n d c u i=>zaM (k:=0) hq7 Tryz.underlying174 zcc rfl dc (zaa (m:=4) u rfl (d 4 dc)) (zaa (m:=5) u rfl (d 5 dc)) rfl rfl (zaf 6 u i rfl)
           · exact fun D n d c u i=>zac zdp rfl dc (zaa (m:=6) u rfl (d 6 dc)) (show _=((to3:Int).toNat)*3 from rfl) (zaf 7 u i rfl)
           · exact fun D n d c u i=>zbi (i:=(to3:Int).toNat) (j:=0) (k:=0) (q:=q3) zbC zaF rfl dc (zaa (m:=7) u rfl (d 7 dc)) rfl (za4 hq7) rfl dc rfl (zaf 8 u i rfl)
           · exact fun D n d c u i=>zbJ rfl dc (zaa (m:=3) u rfl (d 3 dc)) (zaa (m:=8) u rfl (d 8 dc)) (zaT (r:=r4+q3.cost) (IntWalk.i64_in _ hg5)) (zaf 9 u i rfl)
           · exact fun D n d c u i=>zaM (k:=0) hq7 Tryz.underlying174 zcc rfl dc (zaa (m:=10) u rfl (d 10 dc)) (zaa (m:=11) u rfl (d 11 dc)) rfl rfl (zaf 12 u i rfl)
           · exact fun D n d c u i=>zac zdK rfl dc (zaa (m:=12) u rfl (d 12 dc)) (show _=((to3:Int).toNat)*3+1 from rfl) (zaf 13 u i rfl)
           · exact fun D n d c u i=>zbi (i:=(to3:Int).toNat) (j:=1) (k:=0) (q:=q3) zbC zaF rfl dc (zaa (m:=13) u rfl (d 13 dc)) rfl (za4 hq7) rfl dc rfl (zaf 14 u i rfl)
           · exact fun D n d c u i=>zbJ rfl dc (zaa (m:=14) u rfl (d 14 dc)) rfl (zaT (r:=q3.rows+1) (IntWalk.i64_in _ hg6)) (zaf 15 u i rfl)
           refine zbg (v:=.agg #[zI (r4+q3.cost),zI (q3.rows+1),zI to3]) (ps:=[(0,.tmp 70),(1,.tmp 76),(2,.tmp 77)]) rfl dc rfl (fun _=>by kernel_rfl) ?_
           refine zaR (k:=1) (vs:=[zI (r4+q3.cost),zI (q3.rows+1),zI to3]) (l':=[zI (r4+q3.cost),zI (q3.rows+1),zI to3]) zcc rfl rfl rfl rfl rfl (show _≤_ by simp) rfl rfl (zaV ?_)
           exact zaq (r4+q3.cost,q3.rows+1,b4) h rfl (za7 rfl) (zae [0,1] kr rfl)
          refine zat ?_
          exact zaq (0,1,b4) h rfl (za7 rfl) (zae [0,1] kr rfl)
         rintro ⟨b2,b3,b1⟩ h
         rw [hj4] at h
         refine zyG (zyR 2 rfl ?_)
         obtain ⟨q4,hq8,h⟩:=zbl h
         refine zaM (k:=0) hq8 Tryz.underlying174 zcc rfl dc rfl rfl rfl rfl (zgg (i:=(from3:Int).toNat) (j:=0) (k:=0) (q:=q4) (cs:=(zr6 q4)) zhs zaF rfl dc rfl rfl (za4 hq8) rfl rfl rfl ?_)
         refine zbb ziJ rfl dc (fun b5 => ?_)
         refine zaR (k:=2) (vs:=(zr6 q4)) (l':=(zr6 q4)) zcc rfl rfl rfl rfl rfl (show _≤_ by simp) rfl rfl ?_
         refine zyH (zac zdK rfl dc rfl (show _=1 from rfl) (zan (k:=2) zbC rfl dc rfl rfl rfl (zaO rfl zbv (zyR 1 rfl ?_))))
         refine zyS (s:=86) rfl h (fun h => ?_) (fun h => ?_)
         ·
          refine zyR 14 rfl ?_
          refine zyR 6 rfl (zyN (za0 rfl (zaA (zyR 2 rfl (zaY (k:=1) (cs:=[zI b2,zI b3,zI to3]) zhs rfl dc rfl rfl rfl rfl ?_)))))
          obtain ⟨q5,hq9,h⟩:=zbl h
          refine zaM (k:=0) hq9 Tryz.underlying174 zcc rfl dc rfl rfl rfl rfl ?_
          refine zdy (i:=(from3:Int).toNat) (j:=0) (k:=0) (q:=q5) (q':=(⟨b2,b3,to3⟩:Gpage_best)) (vs:=[zI b2,zI b3,zI to3]) zcc zaF rfl rfl rfl rfl (za4 hq9) rfl dc rfl rfl (fun m=>[q5,(⟨b2,q5.rows,q5.to_⟩:Gpage_best),(⟨b2,b3,q5.to_⟩:Gpage_best),(⟨b2,b3,to3⟩:Gpage_best)].getD m q5) rfl rfl (by intro m hm; rcases m with _ | _ | _ | m <;> first | rfl | (exfalso; omega)) ?_
          refine zaV (zai ?_)
          exact zaq (all8.set (from3:Int).toNat (⟨b2,b3,to3⟩:Gpage_best)) h rfl (za7 rfl) (zae [0] kr rfl)
         refine zac zdp rfl dc rfl (show _=0 from rfl) (zan (k:=1) zbC rfl dc rfl rfl rfl (zac zdp rfl dc rfl (show _=0 from rfl) (zan (k:=2) zbC rfl dc rfl rfl rfl (zaO rfl zbv (zyR 2 rfl ?_)))))
         refine zyS (s:=93) rfl h (fun h => ?_) (fun h => ?_)
         ·
          refine zyR 13 rfl (zaV ?_)
          refine zaE (za0 rfl (zaA (zyR 2 rfl (zaY (k:=1) (cs:=[zI b2,zI b3,zI to3]) zhs rfl dc rfl rfl rfl rfl ?_))))
          obtain ⟨q6,hq10,h⟩:=zbl h
          refine zaM (k:=0) hq10 Tryz.underlying174 zcc rfl dc rfl rfl rfl rfl ?_
          refine zdy (i:=(from3:Int).toNat) (j:=0) (k:=0) (q:=q6) (q':=(⟨b2,b3,to3⟩:Gpage_best)) (vs:=[zI b2,zI b3,zI to3]) zcc zaF rfl rfl rfl rfl (za4 hq10) rfl dc rfl rfl (fun m=>[q6,(⟨b2,q6.rows,q6.to_⟩:Gpage_best),(⟨b2,b3,q6.to_⟩:Gpage_best),(⟨b2,b3,to3⟩:Gpage_best)].getD m q6) rfl rfl (by intro m hm; rcases m with _ | _ | _ | m <;> first | rfl | (exfalso; omega)) ?_
          refine zaV (zai ?_)
          exact zaq (all8.set (from3:Int).toNat (⟨b2,b3,to3⟩:Gpage_best)) h rfl (za7 rfl) (zae [0] kr rfl)
         refine zac zdp rfl dc rfl (show _=0 from rfl) (zan (k:=1) zbC rfl dc rfl rfl rfl (zac zdp rfl dc rfl (show _=0 from rfl) (zan (k:=2) zbC rfl dc rfl rfl rfl (zaO rfl zaP (zyR 1 rfl ?_)))))
         refine zyS (s:=99) rfl h (fun h => ?_) (fun h => ?_)
         ·
          refine zac zdK rfl dc rfl (show _=1 from rfl) (zan (k:=1) zbC rfl dc rfl rfl rfl (zac zdK rfl dc rfl (show _=1 from rfl) (zan (k:=2) zbC rfl dc rfl rfl rfl (zaO rfl zdn (zyR 2 rfl (zyN ?_))))))
          refine zyB rfl h (fun h => ?_) (fun h => ?_)
          ·
           refine zaA (zyR 2 rfl (zaY (k:=1) (cs:=[zI b2,zI b3,zI to3]) zhs rfl dc rfl rfl rfl rfl ?_))
           obtain ⟨q7,hq11,h⟩:=zbl h
           refine zaM (k:=0) hq11 Tryz.underlying174 zcc rfl dc rfl rfl rfl rfl ?_
           refine zdy (i:=(from3:Int).toNat) (j:=0) (k:=0) (q:=q7) (q':=(⟨b2,b3,to3⟩:Gpage_best)) (vs:=[zI b2,zI b3,zI to3]) zcc zaF rfl rfl rfl rfl (za4 hq11) rfl dc rfl rfl (fun m=>[q7,(⟨b2,q7.rows,q7.to_⟩:Gpage_best),(⟨b2,b3,q7.to_⟩:Gpage_best),(⟨b2,b3,to3⟩:Gpage_best)].getD m q7) rfl rfl (by intro m hm; rcases m with _ | _ | _ | m <;> first | rfl | (exfalso; omega)) ?_
           refine zaV (zai ?_)
           exact zaq (all8.set (from3:Int).toNat (⟨b2,b3,to3⟩:Gpage_best)) h rfl (za7 rfl) (zae [0] kr rfl)
          refine zat (zai ?_)
          exact zaq all8 h rfl (za7 rfl) (zae [0] kr rfl)
         refine zyR 7 rfl (zyN (zaL rfl (zat (zai ?_))))
         exact zaq all8 h rfl (za7 rfl) (zae [0] kr rfl)
        rintro all9 h
        rw [hj3] at h
        refine zaA (zyR 1 rfl ?_)
        obtain ⟨hg7,h⟩:=zbs h
        refine zaO rfl (zaT (r:=to3+1) (IntWalk.i64_in _ hg7)) (zyR 1 rfl (zaV ?_))
        subst hag2
        exact zaZ (n2,all9,to3+1) h (Nat.lt_succ_self _) rfl (za7 rfl) (zae [0] kr rfl)
       refine za6 (zao (zao (zaw (zbz (by simp) (zai ?_)))))
       exact zaq all8 h rfl (za7 rfl) (zae [0] kr rfl)
     exact fun b hb=>hb.elim
    rintro all5 h
    rw [hj2] at h
    refine zaA (zyR 1 rfl ?_)
    obtain ⟨hg8,h⟩:=zbs h
    refine zaO rfl (zbD (r:=from3 - 1) (IntWalk.i64_in _ hg8)) (zyR 1 rfl (zaV ?_))
    subst hag1
    exact zaZ (n1,all5,from3 - 1) h (Nat.lt_succ_self _) rfl (za7 rfl) (zae [0] kr rfl)
   refine za6 (zao (zao (zaw ?_)))
   exact zaq (all4,v2) h rfl (za7 rfl) (zae [0] kr rfl)
 rintro ⟨all1,v1⟩ h
 rw [hj1] at h
 obtain ⟨j5,hj5,h⟩:=zbw h
 refine zaU (β:=(List Int)×Hd) 1 rfl (fun b=>j5 b.1=some r) (fun b=>[]) (fun b=>[(5,v1),(10,b.2.v)]) (fun b=>[zv8 v1 all1,zv0 b.2.v b.1]) (fun cut => ?_) ?_
 ·
  refine zyG (zyR 1 rfl (zyN (cut (zyG (zyR 1 rfl (zyN (zaB (zdQ (enc:=(zmh (.i64))) (e:=3) (size:=1) ?_))))))))
  refine zbm (β:=Nat×(List Int)×Int×Hd) (fun b=>za9 (fun _ _=>none) (zcm t1 all1 j5) b.1 b.2.1 b.2.2.1=some r) (fun b=>[]) (fun b=>[(4,zI (t1.cells.length:Int)),(5,v1),(10,b.2.2.2.v),(11,zI b.2.2.1)]) (fun b=>[zv8 v1 all1,zv0 b.2.2.2.v b.2.1]) (fun b=>b.1) (zcN,([]:List Int),0,Hd.nil) h rfl (za7 rfl) (zae [0,1] kr rfl) ?_
  rintro ⟨n3,out4,from6,hd4⟩ h
  cases n3 with
  | zero=>exact zcS h
  | succ n3 =>
   obtain ⟨ag3,hag3⟩:∃ ag,ag=za9 (fun _ _=>none) (zcm t1 all1 j5) n3:=⟨_,rfl⟩
   have h:zcm t1 all1 j5 ag3 out4 from6=some r:=by rw [hag3]; exact h
   unfold zcm at h
   refine zay (zyG (zyR 2 rfl (zaO rfl zbv (zyN ?_))))
   refine zyB rfl h (fun h => ?_) (fun h => ?_)
   ·
    refine zat (zaE (zay (zaB (zaA (zyR 3 rfl ?_)))))
    obtain ⟨q8,hq12,h⟩:=zbl h
    refine zaM (k:=0) hq12 Tryz.underlying174 zcc rfl dc rfl rfl rfl rfl (zac zhS rfl dc rfl (show _=((from6:Int).toNat)*3+2 from rfl) (zbi (i:=(from6:Int).toNat) (j:=2) (k:=0) (q:=q8) zbC zaF rfl dc rfl rfl (za4 hq12) rfl dc rfl ?_))
    refine za1 (cs:=[zI q8.to_]) (te:=3) (ps:=[(0,.tmp 124)]) rfl dc rfl (fun _=>by kernel_rfl) (fun b6 => ?_)
    obtain ⟨hg9,h⟩:=zbs h
    refine zbc (k:=1) (k2:=2) (ys:=[q8.to_]) Tryz.underlying49 zm4 zbX zfg rfl dc rfl rfl rfl rfl rfl rfl hg9 (fun v3 => ?_)
    refine zbo (k:=1) rfl (fun hd5 he1 => ?_)
    subst he1
    refine zyR 1 rfl (zaV (zai (zaE (zaA (zyR 2 rfl ?_)))))
    obtain ⟨q9,hq13,h⟩:=zbl h
    refine zaM (k:=0) hq13 Tryz.underlying174 zcc rfl dc rfl rfl rfl rfl (zac zhS rfl dc rfl (show _=((from6:Int).toNat)*3+2 from rfl) (zbi (i:=(from6:Int).toNat) (j:=2) (k:=0) (q:=q9) zbC zaF rfl dc rfl rfl (za4 hq13) rfl dc rfl (zyR 1 rfl (zaV ?_))))
    subst hag3
    exact zaZ (n3,out4++[q8.to_],q9.to_,hd5) h (Nat.lt_succ_self _) rfl (za7 rfl) (zae [0,1] kr rfl)
   refine za6 (zao (zao (zaw ?_)))
   exact zaq (out4,hd4) h rfl (za7 rfl) (zae [0,1] kr rfl)
 rintro ⟨out1,hd1⟩ h
 rw [hj5] at h
 refine zay ?_
 obtain ⟨q10,hq14,h⟩:=zbl h
 refine zbj 6 [(0,127,hd1.v),(1,128,v1),(2,129,.pointer (some ⟨zcL v1,(0:Int).toNat*3,none⟩)),(3,130,.pointer (some ⟨zcL v1,((0:Int).toNat)*3,none⟩)),(4,131,zI q10.cost),(5,2,hd1.v)] mixed kr kr dc (by rfl) kr kr (zyP 2 0 rfl (zad ?_ (zad ?_ (zad ?_ (zyP 1 5 rfl DrawPre.nil))))) ?_
 · exact fun D n d c u i=>zaM (k:=0) hq14 Tryz.underlying174 zcc rfl dc (zaa (m:=1) u rfl (d 1 dc)) rfl rfl rfl (zaf 2 u i rfl)
 · exact fun D n d c u i=>zac zdp rfl dc (zaa (m:=2) u rfl (d 2 dc)) (show _=((0:Int).toNat)*3 from rfl) (zaf 3 u i rfl)
 · exact fun D n d c u i=>zbi (i:=(0:Int).toNat) (j:=0) (k:=0) (q:=q10) zbC zaF rfl dc (zaa (m:=3) u rfl (d 3 dc)) rfl (za4 hq14) rfl dc rfl (zaf 4 u i rfl)
 refine zyR 1 rfl (zyN (zau ?_))
 cases h
 exact zaC (rs:=[.tmp 2,.tmp 3]) hd1.v (.inl rfl) Tryz.results96 (.cons (.tmp rfl) (.cons (.tmp rfl) .nil)) rfl (zae [1] kr rfl)
def zdG (t1:Gpage_turner) (from1:Int) (to1:Int):Option ByteArray :=
zar (zc9 t1.cells from1) fun (q1:Gapi_Cell) =>
grd (I64 (to1 - 1)) <|
zar (zc9 t1.cells (to1 - 1)) fun (q2:Gapi_Cell) =>
grd (0≤(q1.Span_From:Int)∧(q1.Span_From:Int)≤q2.Span_To∧(q2.Span_To:Int)≤(t1.s.size:Int)) <|
some (zdx t1.s q1.Span_From q2.Span_To)
theorem zf7 {bt1:Nat} {t1:Gpage_turner} {t1_h0 t1_h1 t1_h2:Hd} {from1:Int} {to1:Int} {r:ByteArray} (h:zdG t1 from1 to1=some r):FnR Tryz.prog 97 [zP bt1,zI from1,zI to1] [cells bt1 [.string t1.s,t1_h0.v,t1_h1.v,t1_h2.v,zI t1.first,zI t1.rest] 203,zv4 t1_h0.v t1.cells,zv0 t1_h1.v t1.wide,zv0 t1_h2.v t1.ends] [] (fun _:Unit=>(.string r)) (fun _=>[]):=by
 unfold zdG at h
 refine FnR.intro Tryz.func97 rfl Tryz.ntmps97 (by simp) ?_
 intro w0 K hrd
 refine zyG (zyR 1 rfl (zyN (zay ?_)))
 obtain ⟨q1,hq1,h⟩:=zbl h
 obtain ⟨hg1,h⟩:=zbs h
 obtain ⟨q2,hq2,h⟩:=zbl h
 obtain ⟨hg2,h⟩:=zbs h
 refine zbj 23 [(0,7,zP bt1),(1,8,zP bt1),(2,9,zP bt1),(3,10,.string t1.s),(4,11,zP bt1),(5,12,zP bt1),(6,13,.pointer (some ⟨bt1,1,none⟩)),(7,14,t1_h0.v),(8,15,zI from1),(9,16,.pointer (some ⟨zcL t1_h0.v,(0+(from1:Int).toNat)*3,none⟩)),(10,17,.pointer (some ⟨zcL t1_h0.v,(0+(from1:Int).toNat)*3,none⟩)),(11,18,.pointer (some ⟨zcL t1_h0.v,(0+(from1:Int).toNat)*3,none⟩)),(12,19,zI q1.Span_From),(13,20,zP bt1),(14,21,zP bt1),(15,22,.pointer (some ⟨bt1,1,none⟩)),(16,23,t1_h0.v),(17,24,zI to1),(18,25,zI (to1 - 1)),(19,26,.pointer (some ⟨zcL t1_h0.v,(0+(to1 - 1:Int).toNat)*3,none⟩)),(20,27,.pointer (some ⟨zcL t1_h0.v,(0+(to1 - 1:Int).toNat)*3,none⟩)),(21,28,.pointer (some ⟨zcL t1_h0.v,(0+(to1 - 1:Int).toNat)*3+1,none⟩)),(22,29,zI q2.Span_To)] mixed kr kr dc (by rfl) kr kr (zyP 1 0 rfl (zad ?_ (zad ?_ (zad ?_ (zyP 1 4 rfl (zad ?_ (zad ?_ (zad ?_ (zyP 1 8 rfl (zad ?_ (zad ?_ (zad ?_ (zad ?_ (zyP 1 13 rfl (zad ?_ (zad ?_ (zad ?_ (zyP 1 17 rfl (zad ?_ (zad ?_ (zad ?_ (zad ?_ (zad ?_ DrawPre.nil))))))))))))))))))))))) ?_
 · exact fun D n d c u i=>zap rfl dc (zaa (m:=0) u rfl (d 0 dc)) (zaf 1 u i rfl)
 · exact fun D n d c u i=>zac zkz rfl dc (zaa (m:=1) u rfl (d 1 dc)) (show _=0 from rfl) (zaf 2 u i rfl)
 · exact fun D n d c u i=>zaS (i:=0) hrd rfl ziz rfl dc (zaa (m:=2) u rfl (d 2 dc)) rfl (zaf 3 u i rfl)
 · exact fun D n d c u i=>zap rfl dc (zaa (m:=4) u rfl (d 4 dc)) (zaf 5 u i rfl)
 · exact fun D n d c u i=>zac zfe rfl dc (zaa (m:=5) u rfl (d 5 dc)) (show _=1 from rfl) (zaf 6 u i rfl)
 · exact fun D n d c u i=>zaS (i:=0) hrd rfl zkQ rfl dc (zaa (m:=6) u rfl (d 6 dc)) rfl (zaf 7 u i rfl)
 · exact fun D n d c u i=>za3 (hrd.vw (i:=1) rfl) hq1 Tryz.underlying94 zla rfl dc (zaa (m:=7) u rfl (d 7 dc)) (zaa (m:=8) u rfl (d 8 dc)) rfl (zaf 9 u i rfl)
 · exact fun D n d c u i=>zac zg7 rfl dc (zaa (m:=9) u rfl (d 9 dc)) (show _=(0+(from1:Int).toNat)*3 from rfl) (zaf 10 u i rfl)
 · exact fun D n d c u i=>zac zeT rfl dc (zaa (m:=10) u rfl (d 10 dc)) (show _=(0+(from1:Int).toNat)*3 from rfl) (zaf 11 u i rfl)
 · exact fun D n d c u i=>zbT (n:=0+(from1:Int).toNat) (j:=0) (i:=1) (q:=q1) hrd rfl zbC zdf rfl dc (zaa (m:=11) u rfl (d 11 dc)) (Vw.get (hrd.vw (i:=1) rfl) hq1) rfl dc rfl (zaf 12 u i rfl)
 · exact fun D n d c u i=>zap rfl dc (zaa (m:=13) u rfl (d 13 dc)) (zaf 14 u i rfl)
 · exact fun D n d c u i=>zac zfe rfl dc (zaa (m:=14) u rfl (d 14 dc)) (show _=1 from rfl) (zaf 15 u i rfl)
 · exact fun D n d c u i=>zaS (i:=0) hrd rfl zkQ rfl dc (zaa (m:=15) u rfl (d 15 dc)) rfl (zaf 16 u i rfl)
 · exact fun D n d c u i=>zbJ rfl dc (zaa (m:=17) u rfl (d 17 dc)) rfl (zbD (r:=to1 - 1) (IntWalk.i64_in _ hg1)) (zaf 18 u i rfl)
 · exact fun D n d c u i=>za3 (hrd.vw (i:=1) rfl) hq2 Tryz.underlying94 zla rfl dc (zaa (m:=16) u rfl (d 16 dc)) (zaa (m:=18) u rfl (d 18 dc)) rfl (zaf 19 u i rfl)
 · exact fun D n d c u i=>zac zg7 rfl dc (zaa (m:=19) u rfl (d 19 dc)) (show _=(0+(to1 - 1:Int).toNat)*3 from rfl) (zaf 20 u i rfl)
 · exact fun D n d c u i=>zac zeD rfl dc (zaa (m:=20) u rfl (d 20 dc)) (show _=(0+(to1 - 1:Int).toNat)*3+1 from rfl) (zaf 21 u i rfl)
 · exact fun D n d c u i=>zbT (n:=0+(to1 - 1:Int).toNat) (j:=1) (i:=1) (q:=q2) hrd rfl zbC zdf rfl dc (zaa (m:=21) u rfl (d 21 dc)) (Vw.get (hrd.vw (i:=1) rfl) hq2) rfl dc rfl (zaf 22 u i rfl)
 refine zd5 rfl dc rfl rfl rfl (zb7 (i:=q1.Span_From) (j:=q2.Span_To) Tryz.underlying9 (.inr rfl) (.inr rfl) hg2) (zyR 1 rfl (zyN (zau ?_)))
 cases h
 exact zaC (rs:=[.tmp 6]) () (.inl rfl) Tryz.results97 (.cons (.tmp rfl) .nil) rfl Splits.nil
def zcG (s1:ByteArray) (indent1:Int) (l1:Gapi_Layout) (x1:Gapi_Cell) (ag1:(List Gapi_Cell)→(List Int)→(List Int)→Option Gpage_turner) (t10:List Gapi_Cell) (t11:List Int) (t12:List Int):Option Gpage_turner :=
zbp (fun (j2:(List Int)→Int→Option Gpage_turner) =>
grd (t10.length+1≤2147483648) <|
grd (I64 (((t10++[x1]).length:Int) - 1)) <|
zar (zc9 t11 (((t10++[x1]).length:Int) - 1)) fun (q1:Int) =>
grd (I64 (q1+x1.Columns)) <|
grd (t11.length+1≤2147483648) <|
grd (I64 ((((t10++[x1]).length:Int) - 1)+1)) <|
zar (zcl (⟨s1,t10++[x1],t11++[q1+x1.Columns],t12,max 1 (l1.Width - indent1),l1.Width - l1.Turn⟩:Gpage_turner) (((t10++[x1]).length:Int) - 1)) fun (r2:Bool) =>
zav (r2) (
zar (zc9 t12 (((t10++[x1]).length:Int) - 1)) fun (q2:Int) =>
j2 (t11++[q1+x1.Columns]) q2
) (
j2 (t11++[q1+x1.Columns]) ((((t10++[x1]).length:Int) - 1)+1)
)
) (fun (t13:List Int) (end1:Int) =>
grd (t12.length+1≤2147483648) <|
ag1 (t10++[x1]) t13 (t12++[end1])
)
def zek (s1:ByteArray) (indent1:Int) (l1:Gapi_Layout):Option Gpage_turner :=
zbp (fun (j1:(List Gapi_Cell)→(List Int)→(List Int)→Option Gpage_turner) =>
grd (I64 (l1.Width - indent1)) <|
grd (I64 (l1.Width - l1.Turn)) <|
zar (zeV s1) fun (r1:ByteArray) =>
zar (zeo r1) fun (its1:(List Gapi_Cell)) =>
zbp (fun (dn1:(List Gapi_Cell)→(List Int)→(List Int)→Option Gpage_turner) =>
zdE dn1 (zcG s1 indent1 l1) its1 ([]:List Gapi_Cell) ([0]:List Int) ([0]:List Int)
) (fun (t10:List Gapi_Cell) (t11:List Int) (t12:List Int) =>
j1 t10 t11 t12
)
) (fun (t1:List Gapi_Cell) (t2:List Int) (t3:List Int) =>
some (⟨s1,t1,t2,t3,max 1 (l1.Width - indent1),l1.Width - l1.Turn⟩:Gpage_turner)
)
theorem zg3 {s1:ByteArray} {indent1:Int} {l1:Gapi_Layout} {r:Gpage_turner} (h:zek s1 indent1 l1=some r):Fn Tryz.prog 95 [.string s1,zI indent1,.agg (zr0 l1).toArray] [] (fun b:Nat×Hd×Hd×Hd=>zP b.1) (fun b=>[cells b.1 [.string r.s,b.2.1.v,b.2.2.1.v,b.2.2.2.v,zI r.first,zI r.rest] 203,zv4 b.2.1.v r.cells,zv0 b.2.2.1.v r.wide,zv0 b.2.2.2.v r.ends]):=by
 unfold zek at h
 refine Fn.intro Tryz.func95 rfl Tryz.ntmps95 (by simp) ?_
 intro w0 K
 refine zfR ?_
 obtain ⟨j1,hj1,h⟩:=zbw h
 refine zaU (β:=(List Gapi_Cell)×(List Int)×(List Int)×Nat×Nat×Hd×Hd×Hd×(List Nat)) 2 rfl (fun b=>j1 b.1 b.2.1 b.2.2.1=some r) (fun b=>zeC b.2.2.2.2.2.2.2.2) (fun b=>[(7,zP b.2.2.2.1)]) (fun b=>[cells b.2.2.2.1 [zP b.2.2.2.2.1] 179,cells b.2.2.2.2.1 [.string s1,b.2.2.2.2.2.1.v,b.2.2.2.2.2.2.1.v,b.2.2.2.2.2.2.2.1.v,zI (max 1 (l1.Width - indent1)),zI (l1.Width - l1.Turn)] 203,zv4 b.2.2.2.2.2.1.v b.1,zv0 b.2.2.2.2.2.2.1.v b.2.1,zv0 b.2.2.2.2.2.2.2.1.v b.2.2.1,zfS ((b.2.2.2.2.2.2.2.2:List Nat).map zhD)]) (fun cut => ?_) ?_
 ·
  refine zyG ?_
  refine zcP rfl dc rfl (fun b3 => ?_)
  refine zyR 1 rfl (zyH (zyR 1 rfl ?_))
  refine za1 (cs:=[zI 0]) (te:=3) (ps:=[(0,.const (zI 0))]) rfl dc rfl (fun _=>by kernel_rfl) (fun b4 => ?_)
  refine za1 (cs:=[zI 0]) (te:=3) (ps:=[(0,.const (zI 0))]) rfl dc rfl (fun _=>by kernel_rfl) (fun b5 => ?_)
  refine zac zjn rfl dc rfl (show _=0 from rfl) (zan (k:=1) zbC rfl dc rfl rfl rfl (zyR 1 rfl ?_))
  obtain ⟨hg1,h⟩:=zbs h
  refine zaO rfl (zbD (r:=l1.Width - indent1) (IntWalk.i64_in _ hg1)) (zju rfl dc rfl rfl (zac zjn rfl dc rfl (show _=0 from rfl) (zan (k:=1) zbC rfl dc rfl rfl rfl (zac zij rfl dc rfl (show _=2 from rfl) (zan (k:=1) zbC rfl dc rfl rfl rfl ?_)))))
  obtain ⟨hg2,h⟩:=zbs h
  refine zaO rfl (zbD (r:=l1.Width - l1.Turn) (IntWalk.i64_in _ hg2)) ?_
  refine zbg (v:=.agg #[.string s1,.slice none 0 0,.slice (some ⟨b4,0,none⟩) 1 1,.slice (some ⟨b5,0,none⟩) 1 1,zI (max 1 (l1.Width - indent1)),zI (l1.Width - l1.Turn)]) (ps:=[(0,.tmp 11),(2,.tmp 12),(3,.tmp 13),(4,.tmp 18),(5,.tmp 23)]) rfl dc rfl (fun _=>by kernel_rfl) ?_
  refine zkJ ([0]:List Int) (k:=2) rfl zbX rfl (show 1≤maxLen by decide) ?_
  refine zkJ ([0]:List Int) (k:=3) rfl zbX rfl (show 1≤maxLen by decide) ?_
  refine zcP rfl dc rfl (fun b6 => ?_)
  refine zbb znq rfl dc (fun b7 => ?_)
  refine zaG (k:=5) (l':=[zP b6]) znx rfl rfl rfl rfl rfl (fun _ _=>rfl) rfl ?_
  refine zyN (cut (zyG (zyR 1 rfl ?_)))
  obtain ⟨r1,hq1,h⟩:=zbl h
  refine zcB (vs:=[.string s1]) rfl dc rfl rfl rfl zpb (zio hq1) Splits.nil ?_
  rintro b8
  refine zbM (L':=[zfS ((([]:List Nat):List Nat).map zhD),cells b3 (zr0 l1) 23,zv0 (.slice (some ⟨b4,0,none⟩) 1 1) ([0]:List Int),zv0 (.slice (some ⟨b5,0,none⟩) 1 1) ([0]:List Int),cells b6 [.string s1,.slice none 0 0,(.slice (some ⟨b4,0,none⟩) 1 1),(.slice (some ⟨b5,0,none⟩) 1 1),zI (max 1 (l1.Width - indent1)),zI (l1.Width - l1.Turn)] 203,cells b7 [zP b6] 179,cells b8 [.string r1] 9]) (zae [0,1,2,3,4,5,6] kr rfl) (zyN (zaB ?_))
  obtain ⟨its1,hq2,h⟩:=zbl h
  refine zdQ (enc:=zdL) (e:=40) (size:=3) ?_
  obtain ⟨dn1,hdn1,h⟩:=zbw h
  refine zkK (α:=Gapi_Cell) (β:=(List Gapi_Cell)×(List Int)×(List Int)×Hd×Hd×Hd) (γ:=Unit) (δ:=Nat) (ps:=[28]) Ro.nil rfl zo6 (zgO hq2) (fun pre b=>∀ post,its1=pre++post→zdE dn1 (zcG s1 indent1 l1) post b.1 b.2.1 b.2.2.1=some r) (fun pre b=>[cells b7 [zP b6] 179,cells b6 [.string s1,b.2.2.2.1.v,b.2.2.2.2.1.v,b.2.2.2.2.2.v,zI (max 1 (l1.Width - indent1)),zI (l1.Width - l1.Turn)] 203,zv4 b.2.2.2.1.v b.1,zv0 b.2.2.2.2.1.v b.2.1,zv0 b.2.2.2.2.2.v b.2.2.1]) (fun c pre g=>False) (fun c pre g=>[]) (fun pre x b j=>[(6,.pointer none),(7,zP b7),(27,.func (.func 33) #[] #[zP b8]),(8,zP j)]) (fun pre x b j=>[cells b7 [zP b6] 179,cells b6 [.string s1,b.2.2.2.1.v,b.2.2.2.2.1.v,b.2.2.2.2.2.v,zI (max 1 (l1.Width - indent1)),zI (l1.Width - l1.Turn)] 203,zv4 b.2.2.2.1.v b.1,zv0 b.2.2.2.2.1.v b.2.1,zv0 b.2.2.2.2.2.v b.2.2.1,cells j (zr1 x) 40]) (([]:List Gapi_Cell),([0]:List Int),([0]:List Int),Hd.nil,(⟨some ⟨b4,0,none⟩,1,1⟩:Hd),(⟨some ⟨b5,0,none⟩,1,1⟩:Hd)) (fun post e=>by rw [List.nil_append] at e; subst e; exact h) (zae [5,4,7,2,3] kr rfl) ⟨.inl ⟨6,rfl⟩,trivial⟩ (fun _=>rfl) dc ?_ ?_ ?_ ?_
  ·
   rintro lp rc pre x1 post ⟨t10,t11,t12,hd10,hd11,hd12⟩ w1 K1 hxs1 hext hro hinv
   refine zaA ?_
   refine zbb znp rfl dc (fun b9 => ?_)
   refine zaR (k:=5) (vs:=(zr1 x1)) (l':=(zr1 x1)) zla rfl rfl rfl rfl rfl (show _≤_ by simp) rfl rfl ?_
   refine zaV ?_
   exact fun a w ha hw=>⟨b9,(za7 rfl) _ _ _ ha,hw.weaken (zae [0,1,2,3,4,5] kr rfl)⟩
  ·
   rintro lp rc pre x1 post1 ⟨t10,t11,t12,hd10,hd11,hd12⟩ jb1 w1 K1 hxs1 hext hro hinv
   have h:=hinv (x1::post1) hxs1
   obtain ⟨ag1,hag1⟩:∃ ag,ag=zdE dn1 (zcG s1 indent1 l1) post1:=⟨_,rfl⟩
   have h:zcG s1 indent1 l1 x1 ag1 t10 t11 t12=some r:=by rw [hag1]; exact h
   unfold zcG at h
   refine zaB ?_
   obtain ⟨j2,hj2,h⟩:=zbw h
   refine zaU (β:=(List Int)×Int×Hd×Hd) 4 rfl (fun b=>j2 b.1 b.2.1=some r) (fun b=>[]) (fun b=>[(6,.pointer none),(7,zP b7),(10,zI b.2.1),(27,.func (.func 33) #[] #[zP b8])]) (fun b=>[cells b7 [zP b6] 179,cells b6 [.string s1,b.2.2.1.v,b.2.2.2.v,hd12.v,zI (max 1 (l1.Width - indent1)),zI (l1.Width - l1.Turn)] 203,zv4 b.2.2.1.v (t10++[x1]),zv0 b.2.2.2.v b.1,zv0 hd12.v t12]) (fun cut => ?_) ?_
   ·
    refine zay ?_
    obtain ⟨hg3,h⟩:=zbs h
    refine ze5 1 ?_
    refine let vals1:(Nat×Hd)→List (Nat×Nat×Value):=fun b=>[(0,29,zP b6),(1,30,zP b6),(2,31,zP b6),(3,32,.pointer (some ⟨b6,1,none⟩)),(4,33,hd10.v),(5,34,.agg (zr1 x1).toArray),(6,35,.slice (some ⟨b.1,0,none⟩) 1 1),(7,36,b.2.v)]; let LL1:(Nat→Prop)→(Nat×Hd)→List Asn:=fun D b=>[cells b7 [zP b6] 179,cells b6 [.string s1,hd10.v,hd11.v,hd12.v,zI (max 1 (l1.Width - indent1)),zI (l1.Width - l1.Turn)] 203,eD D (zv4 hd10.v t10) [(7,zv4 b.2.v (t10++[x1]))],zv0 hd11.v t11,zv0 hd12.v t12,cells jb1 (zr1 x1) 40,eD D emp [(6,cells b.1 (zr1 x1) 40)]]; ?_
    have zhq:zyQ [6,7] LL1:=fun i h D b=>zab rfl (zab rfl (zab (ziw rfl h) (zab rfl (zab rfl (zab rfl (zab (ziw rfl h) rfl))))))
    refine zc3 (β:=Nat×Hd) 8 ((0:Nat),Hd.nil) vals1 LL1 mixed kr kr dc (fun _=>rfl) (zdd (zab zbr (zbU (zab zbr rfl)))) (zgV zhq rfl (fun _=>rfl) (fun _=>rfl) ?_ (zgV zhq rfl (fun _=>rfl) (fun _=>rfl) ?_ (zyq zhq rfl (fun _=>rfl) (fun _=>rfl) ?_ (zyq zhq rfl (fun _=>rfl) (fun _=>rfl) ?_ (zgV zhq rfl (fun _=>rfl) (fun _=>rfl) ?_ (zgV zhq rfl (fun _=>rfl) (fun _=>rfl) ?_ (zas ?_ (zas ?_ DrawG.nil)))))))) ?_
    · exact fun D ⟨b10,hd15⟩ n d c u i=>⟨_,(zog rfl),zan (k:=0) zfy rfl dc (zba (by rfl) rfl) rfl rfl (zaf 0 u i rfl)⟩
    · exact fun D ⟨b10,hd15⟩ n d c u i=>⟨_,(zdd (zab (zag (fun hD=>n (c 2 _ rfl (c 3 _ rfl (c 4 _ rfl (c 7 _ rfl hD 4 dc) 3 dc) 2 dc) 1 dc)) zak) (zdr rfl))),zan (k:=0) zfy rfl dc (zba (by rfl) rfl) rfl rfl (zaf 1 u i rfl)⟩
    · exact fun D ⟨b10,hd15⟩ n d c u i=>zap rfl dc (zaa (m:=1) u rfl (d 1 dc)) (zaf 2 u i rfl)
    · exact fun D ⟨b10,hd15⟩ n d c u i=>zac zfe rfl dc (zaa (m:=2) u rfl (d 2 dc)) (show _=1 from rfl) (zaf 3 u i rfl)
    · exact fun D ⟨b10,hd15⟩ n d c u i=>⟨_,(zdd (zab (zag (fun hD=>n (c 7 _ rfl hD 4 dc)) zak) (zdr rfl))),zan (k:=1) zkQ rfl dc (zaa (m:=3) u rfl (d 3 dc)) rfl rfl (zaf 4 u i rfl)⟩
    · exact fun D ⟨b10,hd15⟩ n d c u i=>⟨_,(zdd (zab (zag (fun hD=>n (c 6 _ rfl (c 7 _ rfl hD 6 dc) 5 dc)) zak) (zbU (zab (zag (fun hD=>n (c 6 _ rfl hD 5 dc)) zak) rfl)))),zaY (k:=5) (cs:=(zr1 x1)) ziA rfl dc (zba (by rfl) rfl) rfl rfl rfl (zaf 5 u i rfl)⟩
    ·
     intro D b hn hd hcl
     obtain ⟨zb0,hd15⟩:=b
     refine zaD (zdd (zab (zag (fun hD=>hn (hcl 7 _ rfl hD 6 dc)) zak) (zbU (zab (zag hn zak) rfl)))) ?_
     refine za1 (cs:=(zr1 x1)) (te:=40) (ps:=[(0,.tmp 34)]) rfl dc (evP.cons (zaa (m:=5) rfl rfl (hd 5 dc)) evP.nil) (fun _=>by kernel_rfl) (fun b10 => ?_)
     refine zci 6 rfl rfl ?_
     exact zaJ (b:=(zb0,hd15)) (b10,hd15) 6 (by rfl) (by rfl) rfl (zmF (zam (fun hD=>absurd hD hn) (zam (fun _=>rfl) rfl))) (zdd (zab ((zal (by rfl)).trans (zag (fun hD=>hn (hcl 7 _ rfl hD 6 dc)) zak)) (zbU (zab (zaz (Or.inr rfl) rfl) rfl))))
    ·
     intro D b hn hd hcl
     obtain ⟨b10,zb1⟩:=b
     refine zaD (zdd (zab (zag hn zak) (zbU (zab (zaz (hd 6 dc) rfl) rfl)))) ?_
     refine zbc (k:=2) (k2:=6) (ys:=[x1]) Tryz.underlying94 zpf zdf zhf rfl dc (zaa (m:=4) rfl rfl (hd 4 dc)) (zaa (m:=6) rfl rfl (hd 6 dc)) rfl rfl rfl rfl hg3 (fun v1 => ?_)
     refine zbo (k:=2) rfl (fun hd15 he1 => ?_)
     subst he1
     exact zaJ (b:=(b10,zb1)) (b10,hd15) 7 (by rfl) (by rfl) rfl (zhC (zam (fun hD=>absurd hD hn) rfl)) (zdd (zab (zaz (Or.inr rfl) rfl) (zbU (zab ((zal (by rfl)).trans (zaz (hd 6 dc) rfl)) rfl))))
    intro D b hall
    obtain ⟨b10,hd15⟩:=b
    refine zaD (zdd (zab (zaz (hall 7 dc) rfl) (zbU (zab (zaz (hall 6 dc) rfl) rfl)))) (zap rfl dc rfl (zac zfe rfl dc rfl (show _=1 from rfl) ?_))
    refine zaG (k:=1) (l':=[.string s1,hd15.v,hd11.v,hd12.v,zI (max 1 (l1.Width - indent1)),zI (l1.Width - l1.Turn)]) zoA rfl rfl rfl rfl rfl (fun _ _=>rfl) rfl ?_
    refine zyH (zan (k:=0) zfy rfl dc rfl rfl rfl (zap rfl dc rfl (zac zfe rfl dc rfl (show _=1 from rfl) (zan (k:=1) zkQ rfl dc rfl rfl rfl (zcr (k:=2) rfl dc rfl rfl Tryz.underlying94 ?_)))))
    obtain ⟨hg4,h⟩:=zbs h
    refine zaO rfl (zbD (r:=((t10++[x1]).length:Int) - 1) (IntWalk.i64_in _ hg4)) (zyR 1 rfl (zyN (zay ?_)))
    obtain ⟨q1,hq3,h⟩:=zbl h
    obtain ⟨hg5,h⟩:=zbs h
    obtain ⟨hg6,h⟩:=zbs h
    refine ze5 1 ?_
    refine let vals2:(Nat×Hd)→List (Nat×Nat×Value):=fun b=>[(0,45,zP b6),(1,46,zP b6),(2,47,zP b6),(3,48,.pointer (some ⟨b6,2,none⟩)),(4,49,hd11.v),(5,50,zP b6),(6,51,zP b6),(7,52,.pointer (some ⟨b6,2,none⟩)),(8,53,hd11.v),(9,54,zI (((t10++[x1]).length:Int) - 1)),(10,55,.pointer (some ⟨zcL hd11.v,(((t10++[x1]).length:Int) - 1:Int).toNat*1,none⟩)),(11,56,zI q1),(12,57,.pointer (some ⟨jb1,2,none⟩)),(13,58,zI x1.Columns),(14,59,zI (q1+x1.Columns)),(15,60,.slice (some ⟨b.1,0,none⟩) 1 1),(16,61,b.2.v)]; let LL2:(Nat→Prop)→(Nat×Hd)→List Asn:=fun D b=>[cells b7 [zP b6] 179,cells b6 [.string s1,hd15.v,hd11.v,hd12.v,zI (max 1 (l1.Width - indent1)),zI (l1.Width - l1.Turn)] 203,zv4 hd15.v (t10++[x1]),eD D (zv0 hd11.v t11) [(16,zv0 b.2.v (t11++[q1+x1.Columns]))],zv0 hd12.v t12,cells jb1 (zr1 x1) 40,cells b10 (zr1 x1) 40,eD D emp [(15,cells b.1 [zI (q1+x1.Columns)] 3)]]; ?_
    refine zc3 (β:=Nat×Hd) 17 ((0:Nat),Hd.nil) vals2 LL2 mixed kr kr dc (fun _=>rfl) (zbU (zab zbr (zbU (zab zbr rfl)))) (zas ?_ (zas ?_ (zas ?_ (zas ?_ (zas ?_ (zas ?_ (zas ?_ (zas ?_ (zas ?_ (zas ?_ (zas ?_ (zas ?_ (zas ?_ (zas ?_ (zas ?_ (zas ?_ (zas ?_ DrawG.nil))))))))))))))))) ?_
    ·
     intro D b hn hd hcl
     obtain ⟨b11,hd16⟩:=b
     refine zaD (zgi rfl) (zan (k:=0) zfy rfl dc (zba (by rfl) rfl) rfl rfl ?_)
     exact zaJ (b:=(b11,hd16)) (b11,hd16) 0 (by rfl) (by rfl) rfl (zjx (zct rfl)) (zbU (zab (zal (by rfl)) (zbU (zab (zal (by rfl)) rfl))))
    ·
     intro D b hn hd hcl
     obtain ⟨b11,hd16⟩:=b
     refine zaD (zbU (zab (zag (fun hD=>hn (hcl 2 _ rfl (hcl 3 _ rfl (hcl 4 _ rfl (hcl 16 _ rfl hD 4 dc) 3 dc) 2 dc) 1 dc)) zak) (zdr rfl))) ?_
     refine zan (k:=0) zfy rfl dc (zba (by rfl) rfl) rfl rfl ?_
     exact zaJ (b:=(b11,hd16)) (b11,hd16) 1 (by rfl) (by rfl) rfl (zjx (zct rfl)) (zbU (zab ((zal (by rfl)).trans (zag (fun hD=>hn (hcl 2 _ rfl (hcl 3 _ rfl (hcl 4 _ rfl (hcl 16 _ rfl hD 4 dc) 3 dc) 2 dc) 1 dc)) zak)) (zbU (zab (zal (by rfl)) rfl))))
    ·
     intro D b hn hd hcl
     obtain ⟨b11,hd16⟩:=b
     refine zaD (zbU (zab (zag (fun hD=>hn (hcl 3 _ rfl (hcl 4 _ rfl (hcl 16 _ rfl hD 4 dc) 3 dc) 2 dc)) zak) (zdr rfl))) ?_
     refine zap rfl dc (zaa (m:=1) rfl rfl (hd 1 dc)) ?_
     exact zaJ (b:=(b11,hd16)) (b11,hd16) 2 (by rfl) (by rfl) rfl (zjx (zct rfl)) (zbU (zab ((zal (by rfl)).trans (zag (fun hD=>hn (hcl 3 _ rfl (hcl 4 _ rfl (hcl 16 _ rfl hD 4 dc) 3 dc) 2 dc)) zak)) (zbU (zab (zal (by rfl)) rfl))))
    ·
     intro D b hn hd hcl
     obtain ⟨b11,hd16⟩:=b
     refine zaD (zbU (zab (zag (fun hD=>hn (hcl 4 _ rfl (hcl 16 _ rfl hD 4 dc) 3 dc)) zak) (zdr rfl))) ?_
     refine zac zgA rfl dc (zaa (m:=2) rfl rfl (hd 2 dc)) (show _=2 from rfl) ?_
     exact zaJ (b:=(b11,hd16)) (b11,hd16) 3 (by rfl) (by rfl) rfl (zjx (zct rfl)) (zbU (zab ((zal (by rfl)).trans (zag (fun hD=>hn (hcl 4 _ rfl (hcl 16 _ rfl hD 4 dc) 3 dc)) zak)) (zbU (zab (zal (by rfl)) rfl))))
    ·
     intro D b hn hd hcl
     obtain ⟨b11,hd16⟩:=b
     refine zaD (zbU (zab (zag (fun hD=>hn (hcl 16 _ rfl hD 4 dc)) zak) (zdr rfl))) ?_
     refine zan (k:=1) zfq rfl dc (zaa (m:=3) rfl rfl (hd 3 dc)) rfl rfl ?_
     exact zaJ (b:=(b11,hd16)) (b11,hd16) 4 (by rfl) (by rfl) rfl (zjx (zct rfl)) (zbU (zab ((zal (by rfl)).trans (zag (fun hD=>hn (hcl 16 _ rfl hD 4 dc)) zak)) (zbU (zab (zal (by rfl)) rfl))))
    ·
     intro D b hn hd hcl
     obtain ⟨b11,hd16⟩:=b
     refine zaD (zbU (zab (zag (fun hD=>hn (hcl 6 _ rfl (hcl 7 _ rfl (hcl 8 _ rfl (hcl 10 _ rfl (hcl 11 _ rfl (hcl 14 _ rfl (hcl 15 _ rfl (hcl 16 _ rfl hD 15 dc) 14 dc) 11 dc) 10 dc) 8 dc) 7 dc) 6 dc) 5 dc)) zak) (zbU (zab (zag (fun hD=>hn (hcl 6 _ rfl (hcl 7 _ rfl (hcl 8 _ rfl (hcl 10 _ rfl (hcl 11 _ rfl (hcl 14 _ rfl (hcl 15 _ rfl hD 14 dc) 11 dc) 10 dc) 8 dc) 7 dc) 6 dc) 5 dc)) zak) rfl)))) ?_
     refine zan (k:=0) zfy rfl dc (zba (by rfl) rfl) rfl rfl ?_
     exact zaJ (b:=(b11,hd16)) (b11,hd16) 5 (by rfl) (by rfl) rfl (zjx (zct rfl)) (zbU (zab ((zal (by rfl)).trans (zag (fun hD=>hn (hcl 6 _ rfl (hcl 7 _ rfl (hcl 8 _ rfl (hcl 10 _ rfl (hcl 11 _ rfl (hcl 14 _ rfl (hcl 15 _ rfl (hcl 16 _ rfl hD 15 dc) 14 dc) 11 dc) 10 dc) 8 dc) 7 dc) 6 dc) 5 dc)) zak)) (zbU (zab ((zal (by rfl)).trans (zag (fun hD=>hn (hcl 6 _ rfl (hcl 7 _ rfl (hcl 8 _ rfl (hcl 10 _ rfl (hcl 11 _ rfl (hcl 14 _ rfl (hcl 15 _ rfl hD 14 dc) 11 dc) 10 dc) 8 dc) 7 dc) 6 dc) 5 dc)) zak)) rfl))))
    ·
     intro D b hn hd hcl
     obtain ⟨b11,hd16⟩:=b
     refine zaD (zbU (zab (zag (fun hD=>hn (hcl 7 _ rfl (hcl 8 _ rfl (hcl 10 _ rfl (hcl 11 _ rfl (hcl 14 _ rfl (hcl 15 _ rfl (hcl 16 _ rfl hD 15 dc) 14 dc) 11 dc) 10 dc) 8 dc) 7 dc) 6 dc)) zak) (zbU (zab (zag (fun hD=>hn (hcl 7 _ rfl (hcl 8 _ rfl (hcl 10 _ rfl (hcl 11 _ rfl (hcl 14 _ rfl (hcl 15 _ rfl hD 14 dc) 11 dc) 10 dc) 8 dc) 7 dc) 6 dc)) zak) rfl)))) ?_
     refine zap rfl dc (zaa (m:=5) rfl rfl (hd 5 dc)) ?_
     exact zaJ (b:=(b11,hd16)) (b11,hd16) 6 (by rfl) (by rfl) rfl (zjx (zct rfl)) (zbU (zab ((zal (by rfl)).trans (zag (fun hD=>hn (hcl 7 _ rfl (hcl 8 _ rfl (hcl 10 _ rfl (hcl 11 _ rfl (hcl 14 _ rfl (hcl 15 _ rfl (hcl 16 _ rfl hD 15 dc) 14 dc) 11 dc) 10 dc) 8 dc) 7 dc) 6 dc)) zak)) (zbU (zab ((zal (by rfl)).trans (zag (fun hD=>hn (hcl 7 _ rfl (hcl 8 _ rfl (hcl 10 _ rfl (hcl 11 _ rfl (hcl 14 _ rfl (hcl 15 _ rfl hD 14 dc) 11 dc) 10 dc) 8 dc) 7 dc) 6 dc)) zak)) rfl))))
    ·
     intro D b hn hd hcl
     obtain ⟨b11,hd16⟩:=b
     refine zaD (zbU (zab (zag (fun hD=>hn (hcl 8 _ rfl (hcl 10 _ rfl (hcl 11 _ rfl (hcl 14 _ rfl (hcl 15 _ rfl (hcl 16 _ rfl hD 15 dc) 14 dc) 11 dc) 10 dc) 8 dc) 7 dc)) zak) (zbU (zab (zag (fun hD=>hn (hcl 8 _ rfl (hcl 10 _ rfl (hcl 11 _ rfl (hcl 14 _ rfl (hcl 15 _ rfl hD 14 dc) 11 dc) 10 dc) 8 dc) 7 dc)) zak) rfl)))) ?_
     refine zac zgA rfl dc (zaa (m:=6) rfl rfl (hd 6 dc)) (show _=2 from rfl) ?_
     exact zaJ (b:=(b11,hd16)) (b11,hd16) 7 (by rfl) (by rfl) rfl (zjx (zct rfl)) (zbU (zab ((zal (by rfl)).trans (zag (fun hD=>hn (hcl 8 _ rfl (hcl 10 _ rfl (hcl 11 _ rfl (hcl 14 _ rfl (hcl 15 _ rfl (hcl 16 _ rfl hD 15 dc) 14 dc) 11 dc) 10 dc) 8 dc) 7 dc)) zak)) (zbU (zab ((zal (by rfl)).trans (zag (fun hD=>hn (hcl 8 _ rfl (hcl 10 _ rfl (hcl 11 _ rfl (hcl 14 _ rfl (hcl 15 _ rfl hD 14 dc) 11 dc) 10 dc) 8 dc) 7 dc)) zak)) rfl))))
    ·
     intro D b hn hd hcl
     obtain ⟨b11,hd16⟩:=b
     refine zaD (zbU (zab (zag (fun hD=>hn (hcl 10 _ rfl (hcl 11 _ rfl (hcl 14 _ rfl (hcl 15 _ rfl (hcl 16 _ rfl hD 15 dc) 14 dc) 11 dc) 10 dc) 8 dc)) zak) (zbU (zab (zag (fun hD=>hn (hcl 10 _ rfl (hcl 11 _ rfl (hcl 14 _ rfl (hcl 15 _ rfl hD 14 dc) 11 dc) 10 dc) 8 dc)) zak) rfl)))) ?_
     refine zan (k:=1) zfq rfl dc (zaa (m:=7) rfl rfl (hd 7 dc)) rfl rfl ?_
     exact zaJ (b:=(b11,hd16)) (b11,hd16) 8 (by rfl) (by rfl) rfl (zjx (zct rfl)) (zbU (zab ((zal (by rfl)).trans (zag (fun hD=>hn (hcl 10 _ rfl (hcl 11 _ rfl (hcl 14 _ rfl (hcl 15 _ rfl (hcl 16 _ rfl hD 15 dc) 14 dc) 11 dc) 10 dc) 8 dc)) zak)) (zbU (zab ((zal (by rfl)).trans (zag (fun hD=>hn (hcl 10 _ rfl (hcl 11 _ rfl (hcl 14 _ rfl (hcl 15 _ rfl hD 14 dc) 11 dc) 10 dc) 8 dc)) zak)) rfl))))
    ·
     intro D b hn hd hcl
     obtain ⟨b11,hd16⟩:=b
     refine zaD (zbU (zab (zag (fun hD=>hn (hcl 10 _ rfl (hcl 11 _ rfl (hcl 14 _ rfl (hcl 15 _ rfl (hcl 16 _ rfl hD 15 dc) 14 dc) 11 dc) 10 dc) 9 dc)) zak) (zbU (zab (zag (fun hD=>hn (hcl 10 _ rfl (hcl 11 _ rfl (hcl 14 _ rfl (hcl 15 _ rfl hD 14 dc) 11 dc) 10 dc) 9 dc)) zak) rfl)))) ?_
     refine zfl rfl dc (zba (by rfl) rfl) ?_
     exact zaJ (b:=(b11,hd16)) (b11,hd16) 9 (by rfl) (by rfl) rfl (zjx (zct rfl)) (zbU (zab ((zal (by rfl)).trans (zag (fun hD=>hn (hcl 10 _ rfl (hcl 11 _ rfl (hcl 14 _ rfl (hcl 15 _ rfl (hcl 16 _ rfl hD 15 dc) 14 dc) 11 dc) 10 dc) 9 dc)) zak)) (zbU (zab ((zal (by rfl)).trans (zag (fun hD=>hn (hcl 10 _ rfl (hcl 11 _ rfl (hcl 14 _ rfl (hcl 15 _ rfl hD 14 dc) 11 dc) 10 dc) 9 dc)) zak)) rfl))))
    ·
     intro D b hn hd hcl
     obtain ⟨b11,hd16⟩:=b
     refine zaD (zbU (zab (zag (fun hD=>hn (hcl 11 _ rfl (hcl 14 _ rfl (hcl 15 _ rfl (hcl 16 _ rfl hD 15 dc) 14 dc) 11 dc) 10 dc)) zak) (zbU (zab (zag (fun hD=>hn (hcl 11 _ rfl (hcl 14 _ rfl (hcl 15 _ rfl hD 14 dc) 11 dc) 10 dc)) zak) rfl)))) ?_
     refine zaM (k:=3) hq3 Tryz.underlying49 zeX rfl dc (zaa (m:=8) rfl rfl (hd 8 dc)) (zaa (m:=9) rfl rfl (hd 9 dc)) rfl rfl ?_
     exact zaJ (b:=(b11,hd16)) (b11,hd16) 10 (by rfl) (by rfl) rfl (zjx (zct rfl)) (zbU (zab ((zal (by rfl)).trans (zag (fun hD=>hn (hcl 11 _ rfl (hcl 14 _ rfl (hcl 15 _ rfl (hcl 16 _ rfl hD 15 dc) 14 dc) 11 dc) 10 dc)) zak)) (zbU (zab ((zal (by rfl)).trans (zag (fun hD=>hn (hcl 11 _ rfl (hcl 14 _ rfl (hcl 15 _ rfl hD 14 dc) 11 dc) 10 dc)) zak)) rfl))))
    ·
     intro D b hn hd hcl
     obtain ⟨b11,hd16⟩:=b
     refine zaD (zbU (zab (zag (fun hD=>hn (hcl 14 _ rfl (hcl 15 _ rfl (hcl 16 _ rfl hD 15 dc) 14 dc) 11 dc)) zak) (zbU (zab (zag (fun hD=>hn (hcl 14 _ rfl (hcl 15 _ rfl hD 14 dc) 11 dc)) zak) rfl)))) ?_
     refine zbi (i:=(((t10++[x1]).length:Int) - 1:Int).toNat) (j:=0) (k:=3) (q:=q1) zbC zbX rfl dc (zaa (m:=10) rfl rfl (hd 10 dc)) rfl (za4 hq3) rfl dc rfl ?_
     exact zaJ (b:=(b11,hd16)) (b11,hd16) 11 (by rfl) (by rfl) rfl (zjx (zct rfl)) (zbU (zab ((zal (by rfl)).trans (zag (fun hD=>hn (hcl 14 _ rfl (hcl 15 _ rfl (hcl 16 _ rfl hD 15 dc) 14 dc) 11 dc)) zak)) (zbU (zab ((zal (by rfl)).trans (zag (fun hD=>hn (hcl 14 _ rfl (hcl 15 _ rfl hD 14 dc) 11 dc)) zak)) rfl))))
    ·
     intro D b hn hd hcl
     obtain ⟨b11,hd16⟩:=b
     refine zaD (zbU (zab (zag (fun hD=>hn (hcl 13 _ rfl (hcl 14 _ rfl (hcl 15 _ rfl (hcl 16 _ rfl hD 15 dc) 14 dc) 13 dc) 12 dc)) zak) (zbU (zab (zag (fun hD=>hn (hcl 13 _ rfl (hcl 14 _ rfl (hcl 15 _ rfl hD 14 dc) 13 dc) 12 dc)) zak) rfl)))) ?_
     refine zac zii rfl dc (zba (by rfl) rfl) (show _=2 from rfl) ?_
     exact zaJ (b:=(b11,hd16)) (b11,hd16) 12 (by rfl) (by rfl) rfl (zjx (zct rfl)) (zbU (zab ((zal (by rfl)).trans (zag (fun hD=>hn (hcl 13 _ rfl (hcl 14 _ rfl (hcl 15 _ rfl (hcl 16 _ rfl hD 15 dc) 14 dc) 13 dc) 12 dc)) zak)) (zbU (zab ((zal (by rfl)).trans (zag (fun hD=>hn (hcl 13 _ rfl (hcl 14 _ rfl (hcl 15 _ rfl hD 14 dc) 13 dc) 12 dc)) zak)) rfl))))
    ·
     intro D b hn hd hcl
     obtain ⟨b11,hd16⟩:=b
     refine zaD (zbU (zab (zag (fun hD=>hn (hcl 14 _ rfl (hcl 15 _ rfl (hcl 16 _ rfl hD 15 dc) 14 dc) 13 dc)) zak) (zbU (zab (zag (fun hD=>hn (hcl 14 _ rfl (hcl 15 _ rfl hD 14 dc) 13 dc)) zak) rfl)))) ?_
     refine zan (k:=5) zbC rfl dc (zaa (m:=12) rfl rfl (hd 12 dc)) rfl rfl ?_
     exact zaJ (b:=(b11,hd16)) (b11,hd16) 13 (by rfl) (by rfl) rfl (zjx (zct rfl)) (zbU (zab ((zal (by rfl)).trans (zag (fun hD=>hn (hcl 14 _ rfl (hcl 15 _ rfl (hcl 16 _ rfl hD 15 dc) 14 dc) 13 dc)) zak)) (zbU (zab ((zal (by rfl)).trans (zag (fun hD=>hn (hcl 14 _ rfl (hcl 15 _ rfl hD 14 dc) 13 dc)) zak)) rfl))))
    ·
     intro D b hn hd hcl
     obtain ⟨b11,hd16⟩:=b
     refine zaD (zbU (zab (zag (fun hD=>hn (hcl 15 _ rfl (hcl 16 _ rfl hD 15 dc) 14 dc)) zak) (zbU (zab (zag (fun hD=>hn (hcl 15 _ rfl hD 14 dc)) zak) rfl)))) ?_
     refine zbJ rfl dc (zaa (m:=11) rfl rfl (hd 11 dc)) (zaa (m:=13) rfl rfl (hd 13 dc)) (zaT (r:=q1+x1.Columns) (IntWalk.i64_in _ hg5)) ?_
     exact zaJ (b:=(b11,hd16)) (b11,hd16) 14 (by rfl) (by rfl) rfl (zjx (zct rfl)) (zbU (zab ((zal (by rfl)).trans (zag (fun hD=>hn (hcl 15 _ rfl (hcl 16 _ rfl hD 15 dc) 14 dc)) zak)) (zbU (zab ((zal (by rfl)).trans (zag (fun hD=>hn (hcl 15 _ rfl hD 14 dc)) zak)) rfl))))
    ·
     intro D b hn hd hcl
     obtain ⟨zb0,hd16⟩:=b
     refine zaD (zbU (zab (zag (fun hD=>hn (hcl 16 _ rfl hD 15 dc)) zak) (zbU (zab (zag hn zak) rfl)))) ?_
     refine za1 (cs:=[zI (q1+x1.Columns)]) (te:=3) (ps:=[(0,.tmp 59)]) rfl dc (evP.cons (zaa (m:=14) rfl rfl (hd 14 dc)) evP.nil) (fun _=>by kernel_rfl) (fun b11 => ?_)
     refine zci 7 rfl rfl ?_
     exact zaJ (b:=(zb0,hd16)) (b11,hd16) 15 (by rfl) (by rfl) rfl (zne (zct (zam (fun hD=>absurd hD hn) (zam (fun _=>rfl) rfl)))) (zbU (zab ((zal (by rfl)).trans (zag (fun hD=>hn (hcl 16 _ rfl hD 15 dc)) zak)) (zbU (zab (zaz (Or.inr rfl) rfl) rfl))))
    ·
     intro D b hn hd hcl
     obtain ⟨b11,zb1⟩:=b
     refine zaD (zbU (zab (zag hn zak) (zbU (zab (zaz (hd 15 dc) rfl) rfl)))) ?_
     refine zbc (k:=3) (k2:=7) (ys:=[q1+x1.Columns]) Tryz.underlying49 zm4 zbX zfg rfl dc (zaa (m:=4) rfl rfl (hd 4 dc)) (zaa (m:=15) rfl rfl (hd 15 dc)) rfl rfl rfl rfl hg6 (fun v2 => ?_)
     refine zbo (k:=3) rfl (fun hd16 he2 => ?_)
     subst he2
     exact zaJ (b:=(b11,zb1)) (b11,hd16) 16 (by rfl) (by rfl) rfl (zot (zct (zam (fun hD=>absurd hD hn) rfl))) (zbU (zab (zaz (Or.inr rfl) rfl) (zbU (zab ((zal (by rfl)).trans (zaz (hd 15 dc) rfl)) rfl))))
    intro D b hall
    obtain ⟨b11,hd16⟩:=b
    refine zaD (zbU (zab (zaz (hall 16 dc) rfl) (zbU (zab (zaz (hall 15 dc) rfl) rfl)))) (zap rfl dc rfl (zac zgA rfl dc rfl (show _=2 from rfl) ?_))
    refine zaG (k:=1) (l':=[.string s1,hd15.v,hd16.v,hd12.v,zI (max 1 (l1.Width - indent1)),zI (l1.Width - l1.Turn)]) zk9 rfl rfl rfl rfl rfl (fun _ _=>rfl) rfl ?_
    refine zyH (zyR 1 rfl ?_)
    obtain ⟨hg7,h⟩:=zbs h
    refine zaO rfl (zaT (r:=(((t10++[x1]).length:Int) - 1)+1) (IntWalk.i64_in _ hg7)) (zyR 1 rfl (zyN (cut (zyG (zan (k:=0) zfy rfl dc rfl rfl rfl (zyR 1 rfl ?_))))))
    obtain ⟨r2,hq4,h⟩:=zbl h
    refine zbH (v:=.bool r2) (vs:=[zP b6,zI (((t10++[x1]).length:Int) - 1)]) (Rd.nil:Rd _ _ []) rfl dc rfl rfl rfl zlE (zdi (bt1:=b6) (t1:=(⟨s1,t10++[x1],t11++[q1+x1.Columns],t12,max 1 (l1.Width - indent1),l1.Width - l1.Turn⟩:Gpage_turner)) (t1_h0:=hd15) (t1_h1:=hd16) (t1_h2:=hd12) hq4) (.own (zae [1] (by kernel_rfl) rfl) (fun _ _ h=>sepL.one1.1 h) (.own (zae [2] (by kernel_rfl) rfl) (fun _ _ h=>sepL.one1.1 h) (.own (zae [3] (by kernel_rfl) rfl) (fun _ _ h=>sepL.one1.1 h) (.own (zae [4] (by kernel_rfl) rfl) (fun _ _ h=>sepL.one1.1 h) .nil)))) ?_
    refine zyN ?_
    refine zyB rfl h (fun h => ?_) (fun h => ?_)
    ·
     refine zaA (zan (k:=0) zfy rfl dc rfl rfl rfl (zap rfl dc rfl (zac zgz rfl dc rfl (show _=3 from rfl) (zan (k:=1) zfq rfl dc rfl rfl rfl (zyR 1 rfl ?_)))))
     obtain ⟨q2,hq5,h⟩:=zbl h
     refine zaM (k:=4) hq5 Tryz.underlying49 zeX rfl dc rfl rfl rfl rfl (zbi (i:=(((t10++[x1]).length:Int) - 1:Int).toNat) (j:=0) (k:=4) (q:=q2) zbC zbX rfl dc rfl rfl (za4 hq5) rfl dc rfl (zyR 1 rfl (zaV ?_)))
     exact zaq (t11++[q1+x1.Columns],q2,hd15,hd16) h rfl (za7 rfl) (zae [0,1,2,3,4] kr rfl)
    refine zat ?_
    exact zaq (t11++[q1+x1.Columns],(((t10++[x1]).length:Int) - 1)+1,hd15,hd16) h rfl (za7 rfl) (zae [0,1,2,3,4] kr rfl)
   rintro ⟨t13,end1,hd13,hd14⟩ h
   rw [hj2] at h
   obtain ⟨hg8,h⟩:=zbs h
   refine ze5 1 ?_
   refine let vals3:(Nat×Hd)→List (Nat×Nat×Value):=fun b=>[(0,76,zP b6),(1,77,zP b6),(2,78,zP b6),(3,79,.pointer (some ⟨b6,3,none⟩)),(4,80,hd12.v),(5,81,zI end1),(6,82,.slice (some ⟨b.1,0,none⟩) 1 1),(7,83,b.2.v)]; let LL3:(Nat→Prop)→(Nat×Hd)→List Asn:=fun D b=>[cells b7 [zP b6] 179,cells b6 [.string s1,hd13.v,hd14.v,hd12.v,zI (max 1 (l1.Width - indent1)),zI (l1.Width - l1.Turn)] 203,zv4 hd13.v (t10++[x1]),zv0 hd14.v t13,eD D (zv0 hd12.v t12) [(7,zv0 b.2.v (t12++[end1]))],eD D emp [(6,cells b.1 [zI end1] 3)]]; ?_
   refine zc3 (β:=Nat×Hd) 8 ((0:Nat),Hd.nil) vals3 LL3 mixed kr kr dc (fun _=>rfl) (zdr (zab zbr (zab zbr rfl))) (zas ?_ (zas ?_ (zas ?_ (zas ?_ (zas ?_ (zas ?_ (zas ?_ (zas ?_ DrawG.nil)))))))) ?_
   ·
    intro D b hn hd hcl
    obtain ⟨b12,hd17⟩:=b
    refine zaD (zmE rfl) (zan (k:=0) zfy rfl dc (zba (by rfl) rfl) rfl rfl ?_)
    exact zaJ (b:=(b12,hd17)) (b12,hd17) 0 (by rfl) (by rfl) rfl (zgW rfl) (zdr (zab (zal (by rfl)) (zab (zal (by rfl)) rfl)))
   ·
    intro D b hn hd hcl
    obtain ⟨b12,hd17⟩:=b
    refine zaD (zdr (zab (zag (fun hD=>hn (hcl 2 _ rfl (hcl 3 _ rfl (hcl 4 _ rfl (hcl 7 _ rfl hD 4 dc) 3 dc) 2 dc) 1 dc)) zak) rfl)) ?_
    refine zan (k:=0) zfy rfl dc (zba (by rfl) rfl) rfl rfl ?_
    exact zaJ (b:=(b12,hd17)) (b12,hd17) 1 (by rfl) (by rfl) rfl (zgW rfl) (zdr (zab ((zal (by rfl)).trans (zag (fun hD=>hn (hcl 2 _ rfl (hcl 3 _ rfl (hcl 4 _ rfl (hcl 7 _ rfl hD 4 dc) 3 dc) 2 dc) 1 dc)) zak)) (zab (zal (by rfl)) rfl)))
   ·
    intro D b hn hd hcl
    obtain ⟨b12,hd17⟩:=b
    refine zaD (zdr (zab (zag (fun hD=>hn (hcl 3 _ rfl (hcl 4 _ rfl (hcl 7 _ rfl hD 4 dc) 3 dc) 2 dc)) zak) rfl)) ?_
    refine zap rfl dc (zaa (m:=1) rfl rfl (hd 1 dc)) ?_
    exact zaJ (b:=(b12,hd17)) (b12,hd17) 2 (by rfl) (by rfl) rfl (zgW rfl) (zdr (zab ((zal (by rfl)).trans (zag (fun hD=>hn (hcl 3 _ rfl (hcl 4 _ rfl (hcl 7 _ rfl hD 4 dc) 3 dc) 2 dc)) zak)) (zab (zal (by rfl)) rfl)))
   ·
    intro D b hn hd hcl
    obtain ⟨b12,hd17⟩:=b
    refine zaD (zdr (zab (zag (fun hD=>hn (hcl 4 _ rfl (hcl 7 _ rfl hD 4 dc) 3 dc)) zak) rfl)) ?_
    refine zac zgz rfl dc (zaa (m:=2) rfl rfl (hd 2 dc)) (show _=3 from rfl) ?_
    exact zaJ (b:=(b12,hd17)) (b12,hd17) 3 (by rfl) (by rfl) rfl (zgW rfl) (zdr (zab ((zal (by rfl)).trans (zag (fun hD=>hn (hcl 4 _ rfl (hcl 7 _ rfl hD 4 dc) 3 dc)) zak)) (zab (zal (by rfl)) rfl)))
   ·
    intro D b hn hd hcl
    obtain ⟨b12,hd17⟩:=b
    refine zaD (zdr (zab (zag (fun hD=>hn (hcl 7 _ rfl hD 4 dc)) zak) rfl)) ?_
    refine zan (k:=1) zfq rfl dc (zaa (m:=3) rfl rfl (hd 3 dc)) rfl rfl ?_
    exact zaJ (b:=(b12,hd17)) (b12,hd17) 4 (by rfl) (by rfl) rfl (zgW rfl) (zdr (zab ((zal (by rfl)).trans (zag (fun hD=>hn (hcl 7 _ rfl hD 4 dc)) zak)) (zab (zal (by rfl)) rfl)))
   ·
    intro D b hn hd hcl
    obtain ⟨b12,hd17⟩:=b
    refine zaD (zdr (zab (zag (fun hD=>hn (hcl 6 _ rfl (hcl 7 _ rfl hD 6 dc) 5 dc)) zak) (zab (zag (fun hD=>hn (hcl 6 _ rfl hD 5 dc)) zak) rfl))) ?_
    refine zfl rfl dc (zba (by rfl) rfl) ?_
    exact zaJ (b:=(b12,hd17)) (b12,hd17) 5 (by rfl) (by rfl) rfl (zgW rfl) (zdr (zab ((zal (by rfl)).trans (zag (fun hD=>hn (hcl 6 _ rfl (hcl 7 _ rfl hD 6 dc) 5 dc)) zak)) (zab ((zal (by rfl)).trans (zag (fun hD=>hn (hcl 6 _ rfl hD 5 dc)) zak)) rfl)))
   ·
    intro D b hn hd hcl
    obtain ⟨zb0,hd17⟩:=b
    refine zaD (zdr (zab (zag (fun hD=>hn (hcl 7 _ rfl hD 6 dc)) zak) (zab (zag hn zak) rfl))) ?_
    refine za1 (cs:=[zI end1]) (te:=3) (ps:=[(0,.tmp 81)]) rfl dc (evP.cons (zaa (m:=5) rfl rfl (hd 5 dc)) evP.nil) (fun _=>by kernel_rfl) (fun b12 => ?_)
    refine zci 5 rfl rfl ?_
    exact zaJ (b:=(zb0,hd17)) (b12,hd17) 6 (by rfl) (by rfl) rfl (zmF (zam (fun hD=>absurd hD hn) (zam (fun _=>rfl) rfl))) (zdr (zab ((zal (by rfl)).trans (zag (fun hD=>hn (hcl 7 _ rfl hD 6 dc)) zak)) (zab (zaz (Or.inr rfl) rfl) rfl)))
   ·
    intro D b hn hd hcl
    obtain ⟨b12,zb1⟩:=b
    refine zaD (zdr (zab (zag hn zak) (zab (zaz (hd 6 dc) rfl) rfl))) ?_
    refine zbc (k:=4) (k2:=5) (ys:=[end1]) Tryz.underlying49 zm4 zbX zfg rfl dc (zaa (m:=4) rfl rfl (hd 4 dc)) (zaa (m:=6) rfl rfl (hd 6 dc)) rfl rfl rfl rfl hg8 (fun v3 => ?_)
    refine zbo (k:=4) rfl (fun hd17 he3 => ?_)
    subst he3
    exact zaJ (b:=(b12,zb1)) (b12,hd17) 7 (by rfl) (by rfl) rfl (zhC (zam (fun hD=>absurd hD hn) rfl)) (zdr (zab (zaz (Or.inr rfl) rfl) (zab ((zal (by rfl)).trans (zaz (hd 6 dc) rfl)) rfl)))
   intro D b hall
   obtain ⟨b12,hd17⟩:=b
   refine zaD (zdr (zab (zaz (hall 7 dc) rfl) (zab (zaz (hall 6 dc) rfl) rfl))) (zap rfl dc rfl (zac zgz rfl dc rfl (show _=3 from rfl) ?_))
   refine zaG (k:=1) (l':=[.string s1,hd13.v,hd14.v,hd17.v,zI (max 1 (l1.Width - indent1)),zI (l1.Width - l1.Turn)]) zk9 rfl rfl rfl rfl rfl (fun _ _=>rfl) rfl ?_
   refine zaV (zai ?_)
   exact zfQ (t10++[x1],t13,t12++[end1],hd13,hd14,hd17) (fun post2 e2=>by have e9:=zeZ hxs1 e2; subst e9; subst hag1; exact h) (zae [0,1,2,3,4] kr rfl)
  ·
   rintro dm1 ⟨t10,t11,t12,hd10,hd11,hd12⟩ hinv
   have h:dn1 t10 t11 t12=some r:=hinv [] (List.append_nil _).symm
   rw [hdn1] at h
   refine zd1 (k:=13) (j:=0) rfl rfl dc ?_
   refine zai ?_
   exact zaq (t10,t11,t12,b7,b6,hd10,hd11,hd12,dm1::([]:List Nat)) h rfl (za7 rfl) (zae [8,9,10,11,12,0] kr rfl)
  rintro dm1 c pre x1 post g hxs hX
  exact (show False from hX).elim
 rintro ⟨t1,t2,t3,b1,b2,hd1,hd2,hd3,ds1⟩ h
 rw [hj1] at h
 refine zyG (zan (k:=0) zfy rfl dc rfl rfl rfl (zyR 1 rfl (zyN (zau ?_))))
 cases h
 exact zbR (rs:=[.tmp 6]) ds1 (b2,hd1,hd2,hd3) (.inl rfl) (zaK (k:=5) rfl) Tryz.results95 (.cons (.tmp rfl) .nil) rfl (zae [1,2,3,4] kr rfl)
def zec (j1:Int→(List ByteArray)→Option ((List ByteArray)×Int)) (r1:Gpage_turner) (r2:((List Int)×Int)) (ag1:(List ByteArray)→Int→Int→Option ((List ByteArray)×Int)) (out4:List ByteArray) (from3:Int) (x3:Int):Option ((List ByteArray)×Int) :=
zav (decide ((x3:Int)<(r2.1.length:Int))) (
zar (zc9 r2.1 x3) fun (q1:Int) =>
zar (zdG r1 from3 q1) fun (r3:ByteArray) =>
grd (out4.length+1≤2147483648) <|
grd (I64 (x3+1)) <|
ag1 (out4++[r3]) q1 (x3+1)
) (
j1 r2.2 out4
)
def zfc (s1:ByteArray) (indent1:Int) (l1:Gapi_Layout):Option ((List ByteArray)×Int) :=
zbp (fun (j1:Int→(List ByteArray)→Option ((List ByteArray)×Int)) =>
zar (zek s1 indent1 l1) fun (r1:Gpage_turner) =>
zar (zdH r1) fun (r2:((List Int)×Int)) =>
za9 (fun _ _ _=>none) (zec j1 r1 r2) zcN ([]:List ByteArray) 0 0
) (fun (cost1:Int) (out1:List ByteArray) =>
some (out1,cost1)
)
theorem zhu {s1:ByteArray} {indent1:Int} {l1:Gapi_Layout} {r:((List ByteArray)×Int)} (h:zfc s1 indent1 l1=some r):Fn Tryz.prog 67 [.string s1,zI indent1,.agg (zr0 l1).toArray] [] (fun v0:Value=>.tuple #[v0,zI r.2]) (fun v0=>[zv5 v0 r.1]):=by
 unfold zfc at h
 refine Fn.intro Tryz.func67 rfl Tryz.ntmps67 (by simp) ?_
 intro w0 K
 obtain ⟨j1,hj1,h⟩:=zbw h
 refine zaU (β:=Int×(List ByteArray)×Hd) 5 rfl (fun b=>j1 b.1 b.2.1=some r) (fun b=>[]) (fun b=>[(10,zI b.1),(11,b.2.2.v)]) (fun b=>[zv5 b.2.2.v b.2.1]) (fun cut => ?_) ?_
 ·
  refine zyG ?_
  refine zcP rfl dc rfl (fun b1 => ?_)
  refine zyR 2 rfl (zyH (zyR 2 rfl (zaY (k:=0) (cs:=(zr0 l1)) zjf rfl dc rfl rfl rfl rfl ?_)))
  obtain ⟨r1,hq1,h⟩:=zbl h
  refine zcB (vs:=[.string s1,zI indent1,.agg (zr0 l1).toArray]) rfl dc rfl rfl rfl zoK (zg3 (l1:=l1) hq1) Splits.nil ?_
  rintro ⟨b2,hd2,hd3,hd4⟩
  refine zbM (L':=[cells b1 (zr0 l1) 23,cells b2 [.string r1.s,hd2.v,hd3.v,hd4.v,zI r1.first,zI r1.rest] 203,zv4 hd2.v r1.cells,zv0 hd3.v r1.wide,zv0 hd4.v r1.ends]) (zae [0,1,2,3,4] kr rfl) (zyR 1 rfl (zyH (zyR 1 rfl ?_)))
  obtain ⟨r2,hq2,h⟩:=zbl h
  refine zd6 (vs:=[zP b2]) (Rd.nil:Rd _ _ []) rfl dc rfl rfl rfl zoJ (zf8 (bt1:=b2) (t1:=r1) (t1_h0:=hd2) (t1_h1:=hd3) (t1_h2:=hd4) hq2) Splits.nil (.own (zae [1] (by kernel_rfl) rfl) (fun _ _ h=>sepL.one1.1 h) (.own (zae [2] (by kernel_rfl) rfl) (fun _ _ h=>sepL.one1.1 h) (.own (zae [3] (by kernel_rfl) rfl) (fun _ _ h=>sepL.one1.1 h) (.own (zae [4] (by kernel_rfl) rfl) (fun _ _ h=>sepL.one1.1 h) .nil)))) ?_
  rintro v1
  refine zbo (k:=5) rfl (fun hd5 he1 => ?_)
  subst he1
  refine zyR 1 rfl (zax rfl dc rfl rfl (zax rfl dc rfl rfl (zyR 2 rfl (zyH (zyR 1 rfl (zyH ?_))))))
  refine zyR 1 rfl (zyN (cut (zyG (zyR 1 rfl (zcr (k:=5) rfl dc rfl rfl Tryz.underlying49 (zyR 1 rfl (zyN (zaB (zdQ (enc:=zhX) (e:=9) (size:=1) ?_)))))))))
  refine zbm (β:=Nat×(List ByteArray)×Int×Int×Hd) (fun b=>za9 (fun _ _ _=>none) (zec j1 r1 r2) b.1 b.2.1 b.2.2.1 b.2.2.2.1=some r) (fun b=>[]) (fun b=>[(8,zP b2),(10,zI r2.2),(11,b.2.2.2.2.v),(12,zI b.2.2.1),(24,hd5.v),(25,zI (r2.1.length:Int)),(26,zI b.2.2.2.1)]) (fun b=>[cells b2 [.string r1.s,hd2.v,hd3.v,hd4.v,zI r1.first,zI r1.rest] 203,zv4 hd2.v r1.cells,zv0 hd3.v r1.wide,zv0 hd4.v r1.ends,zv5 b.2.2.2.2.v b.2.1,zv0 hd5.v r2.1]) (fun b=>b.1) (zcN,([]:List ByteArray),0,0,Hd.nil) h rfl (za7 rfl) (zae [1,2,3,4,6,5] kr rfl) ?_
  rintro ⟨n1,out4,from3,x3,hd8⟩ h
  cases n1 with
  | zero=>exact zcS h
  | succ n1 =>
   obtain ⟨ag1,hag1⟩:∃ ag,ag=za9 (fun _ _ _=>none) (zec j1 r1 r2) n1:=⟨_,rfl⟩
   have h:zec j1 r1 r2 ag1 out4 from3 x3=some r:=by rw [hag1]; exact h
   unfold zec at h
   refine zyG (zaO rfl zbv (zyN (zay ?_)))
   refine zyB rfl h (fun h => ?_) (fun h => ?_)
   ·
    refine zat (zaE (zay (zaB (zyG ?_))))
    obtain ⟨q1,hq3,h⟩:=zbl h
    refine zaM (k:=5) hq3 Tryz.underlying49 zeX rfl dc rfl rfl rfl rfl (zbi (i:=(x3:Int).toNat) (j:=0) (k:=5) (q:=q1) zbC zbX rfl dc rfl rfl (za4 hq3) rfl dc rfl (zyR 1 rfl (zyH (zyR 4 rfl ?_))))
    obtain ⟨r3,hq4,h⟩:=zbl h
    refine zbH (v:=.string r3) (vs:=[zP b2,zI from3,zI q1]) (Rd.nil:Rd _ _ []) rfl dc rfl rfl rfl zoI (zf7 (bt1:=b2) (t1:=r1) (t1_h0:=hd2) (t1_h1:=hd3) (t1_h2:=hd4) hq4) (.own (zae [0] (by kernel_rfl) rfl) (fun _ _ h=>sepL.one1.1 h) (.own (zae [1] (by kernel_rfl) rfl) (fun _ _ h=>sepL.one1.1 h) (.own (zae [2] (by kernel_rfl) rfl) (fun _ _ h=>sepL.one1.1 h) (.own (zae [3] (by kernel_rfl) rfl) (fun _ _ h=>sepL.one1.1 h) .nil)))) ?_
    refine za1 (cs:=[.string r3]) (te:=9) (ps:=[(0,.tmp 34)]) rfl dc rfl (fun _=>by kernel_rfl) (fun b3 => ?_)
    obtain ⟨hg1,h⟩:=zbs h
    refine zbc (k:=4) (k2:=6) (ys:=[r3]) Tryz.underlying70 zpt zff zkF rfl dc rfl rfl rfl rfl rfl rfl hg1 (fun v2 => ?_)
    refine zbo (k:=4) rfl (fun hd9 he2 => ?_)
    subst he2
    refine zyR 1 rfl (zyN (zaA (zyR 2 rfl (zaV (zai (zaE (zaA ?_)))))))
    obtain ⟨hg2,h⟩:=zbs h
    refine zaO rfl (zaT (r:=x3+1) (IntWalk.i64_in _ hg2)) (zyR 1 rfl (zaV ?_))
    subst hag1
    exact zaZ (n1,out4++[r3],q1,x3+1,hd9) h (Nat.lt_succ_self _) rfl (za7 rfl) (zae [0,1,2,3,4,5] kr rfl)
   refine za6 (zao (zao (zaw ?_)))
   exact zaq (r2.2,out4,hd8) h rfl (za7 rfl) (zae [4] kr rfl)
 rintro ⟨cost1,out1,hd1⟩ h
 rw [hj1] at h
 refine zyG (zyR 4 rfl (zyN (zau ?_)))
 cases h
 exact zaC (rs:=[.tmp 6,.tmp 7]) hd1.v (.inl rfl) Tryz.results67 (.cons (.tmp rfl) (.cons (.tmp rfl) .nil)) rfl (zae [0] kr rfl)
def zfd (text1:ByteArray) (indent1:Int) (l1:Gapi_Layout):Option ((List ByteArray)×Int×Int) :=
zar (zfN l1) fun (r1:Bool) =>
zav (!r1) (
some (([]:List ByteArray),0,2)
) (
zav (decide ((indent1:Int)<0)) (
some (([]:List ByteArray),0,2)
) (
zav (decide ((1024:Int)<indent1)) (
some (([]:List ByteArray),0,2)
) (
zav (decide ((1024:Int)<(text1.size:Int))) (
some (([]:List ByteArray),0,2)
) (
zar (zfc text1 indent1 l1) fun (r2:((List ByteArray)×Int)) =>
some (r2.1,r2.2,0)
)
)
)
)
theorem zhv {text1:ByteArray} {indent1:Int} {l1:Gapi_Layout} {r:((List ByteArray)×Int×Int)} (h:zfd text1 indent1 l1=some r):Fn Tryz.prog 29 [.string text1,zI indent1,.agg (zr0 l1).toArray] [] (fun v0:Value=>.tuple #[v0,zI r.2.1,zI r.2.2]) (fun v0=>[zv5 v0 r.1]):=by
 unfold zfd at h
 refine Fn.intro Tryz.func29 rfl Tryz.ntmps29 (by simp) ?_
 intro w0 K
 refine zyG ?_
 refine zcP rfl dc rfl (fun b1 => ?_)
 refine zyR 3 rfl (zyN (zay (zyG (zaY (k:=0) (cs:=(zr0 l1)) zjf rfl dc rfl rfl rfl rfl ?_))))
 obtain ⟨r1,hq1,h⟩:=zbl h
 refine za5 (v:=.bool r1) (vs:=[.agg (zr0 l1).toArray]) rfl dc rfl rfl rfl znO (zib (l1:=l1) hq1) (zcZ rfl dc rfl zbZ (zyR 1 rfl ?_))
 refine zyS (s:=14) rfl h (fun h => ?_) (fun h => ?_)
 ·
  refine zyR 12 rfl (zyN ?_)
  refine za0 rfl (zyG (zyR 3 rfl (zyN (zau (zah (zfK (enc:=zhX) (e:=9) (size:=1) ?_))))))
  cases h
  exact zaC (rs:=[.tmp 6,.tmp 7,.tmp 8]) (.slice none 0 0) (.inl rfl) Tryz.results29 (.cons (.tmp rfl) (.cons (.tmp rfl) (.cons (.tmp rfl) .nil))) rfl (zae [1] kr rfl)
 refine zyR 1 rfl (zaO rfl zbv (zyR 2 rfl ?_))
 refine zyS (s:=18) rfl h (fun h => ?_) (fun h => ?_)
 ·
  refine zyR 8 rfl (zyN (za0 rfl (zyG (zyR 1 rfl ?_))))
  refine zyR 2 rfl (zyN (zau (zah (zfK (enc:=zhX) (e:=9) (size:=1) ?_))))
  cases h
  exact zaC (rs:=[.tmp 6,.tmp 7,.tmp 8]) (.slice none 0 0) (.inl rfl) Tryz.results29 (.cons (.tmp rfl) (.cons (.tmp rfl) (.cons (.tmp rfl) .nil))) rfl (zae [1] kr rfl)
 refine zyR 1 rfl (zaO rfl zcY (zyR 2 rfl ?_))
 refine zyS (s:=22) rfl h (fun h => ?_) (fun h => ?_)
 ·
  refine zyR 4 rfl (zyN (za0 rfl (zyG (zyR 3 rfl (zyN ?_)))))
  refine zau (zah (zfK (enc:=zhX) (e:=9) (size:=1) ?_))
  cases h
  exact zaC (rs:=[.tmp 6,.tmp 7,.tmp 8]) (.slice none 0 0) (.inl rfl) Tryz.results29 (.cons (.tmp rfl) (.cons (.tmp rfl) (.cons (.tmp rfl) .nil))) rfl (zae [1] kr rfl)
 refine zyR 1 rfl (zbG rfl dc rfl Tryz.underlying9 (zaO rfl zcY (zyR 1 rfl (zyN ?_))))
 refine zyB rfl h (fun h => ?_) (fun h => ?_)
 ·
  refine zyG (zyR 3 rfl (zyN (zau (zah (zfK (enc:=zhX) (e:=9) (size:=1) ?_)))))
  cases h
  exact zaC (rs:=[.tmp 6,.tmp 7,.tmp 8]) (.slice none 0 0) (.inl rfl) Tryz.results29 (.cons (.tmp rfl) (.cons (.tmp rfl) (.cons (.tmp rfl) .nil))) rfl (zae [1] kr rfl)
 refine zat (zaE (zyG (zyR 2 rfl (zaY (k:=0) (cs:=(zr0 l1)) zjf rfl dc rfl rfl rfl rfl ?_))))
 obtain ⟨r2,hq2,h⟩:=zbl h
 refine zcB (vs:=[.string text1,zI indent1,.agg (zr0 l1).toArray]) rfl dc rfl rfl rfl znN (zhu (l1:=l1) hq2) Splits.nil ?_
 rintro v1
 refine zyR 1 rfl (zax rfl dc rfl rfl (zax rfl dc rfl rfl (zyR 2 rfl (zyH (zyR 5 rfl ?_)))))
 refine zyN (zau ?_)
 cases h
 exact zaC (rs:=[.tmp 6,.tmp 7,.tmp 8]) v1 (.inl rfl) Tryz.results29 (.cons (.tmp rfl) (.cons (.tmp rfl) (.cons (.tmp rfl) .nil))) rfl (zae [1] kr rfl)
end Go.Proofs.YtbempdelckaccaaGreatDoor

namespace Go.Proofs.YtbempdelckaccaaGreatDoor
open Go.RowKit Go.Lib
set_option linter.unusedVariables false
set_option linter.unusedSimpArgs false
def zcj (c0:Gpoem_Poem) (ag1:Int→Option (List (Int×Gapi_Verse))) (x3:Int):Option (List (Int×Gapi_Verse)) :=
zav (decide ((x3:Int)<(c0.told_lines.length:Int))) (
zar (zc9 c0.told_lines x3) fun (q1:Gapi_Verse) =>
zhi (x3,q1) <|
grd (I64 (x3+1)) <|
ag1 (x3+1)
) (
some []
)
def zdF (c0:Gpoem_Poem):Option (List (Int×Gapi_Verse)) :=
za9 (fun _=>none) (zcj c0) zcN 0
theorem zfT {b_c0 p_c0:Nat} {c0:Gpoem_Poem} {c0_h0 c0_h1:Hd} {xs:(List (Int×Gapi_Verse))} (h:zdF c0=some xs):ItrR Tryz.prog 115 [zP b_c0] (fun q:Int×Gapi_Verse=>[zI q.1,.agg (zr3 q.2).toArray]) xs [cells b_c0 [zP p_c0] 58,cells p_c0 [.string c0.told_title,c0_h0.v,c0_h1.v,.string c0.source] 106,zv6 c0_h0.v c0.told_lines,zv7 c0_h1.v c0.told_stanzas]:=by
 unfold zdF at h
 refine ItrR.intro Tryz.func115 rfl Tryz.ntmps115 (by simp) ?_
 intro l w0 K I X hrd hy
 obtain ⟨r0,hx0⟩:∃ r,xs=[]++r:=⟨xs,rfl⟩
 have hr0:xs=r0:=hx0
 rw [hr0] at h
 refine zay (zyG (zaS (i:=0) hrd rfl znB rfl dc rfl rfl (zaO rfl (zbB Tryz.underlying58) (zyN (zaL rfl (zat (zaE (zyG (zaS (i:=0) hrd rfl znB rfl dc rfl rfl (zap rfl dc rfl ?_))))))))))
 refine zac zcb rfl dc rfl (show _=0 from rfl) (zac zd4 rfl dc rfl (show _=1 from rfl) (zaS (i:=1) hrd rfl zje rfl dc rfl rfl (zcU (hrd.vw (i:=2) rfl) rfl dc rfl Tryz.underlying26 (zyR 1 rfl (zyN (zaB ?_))))))
 refine zbm (β:=Nat×Int×(List (Int×Gapi_Verse))×(List (Int×Gapi_Verse))) (fun b=>za9 (fun _=>none) (zcj c0) b.1 b.2.1=some b.2.2.2∧xs=b.2.2.1++b.2.2.2) (fun b=>[]) (fun b=>[(0,.func (.yield l) #[] #[]),(11,c0_h0.v),(12,zI (c0.told_lines.length:Int)),(13,zI b.2.1)]) (fun b=>[I b.2.2.1]) (fun b=>b.1) (zcN,0,([]:List (Int×Gapi_Verse)),r0) ⟨h,hx0⟩ rfl (za7 rfl) (zae [0] kr rfl) ?_
 rintro ⟨n1,x3,acc3,rr3⟩ ⟨h,hx3⟩
 cases n1 with
 | zero=>exact zcS h
 | succ n1 =>
  obtain ⟨ag1,hag1⟩:∃ ag,ag=za9 (fun _=>none) (zcj c0) n1:=⟨_,rfl⟩
  have h:zcj c0 ag1 x3=some rr3:=by rw [hag1]; exact h
  unfold zcj at h
  refine zyG (zaO rfl zbv (zyN (zay ?_)))
  refine zyB rfl h (fun h => ?_) (fun h => ?_)
  ·
   refine zat (zaE (zay (zaB (zyG (zyR 1 rfl ?_)))))
   obtain ⟨q1,hq1,h⟩:=zbl h
   refine za3 (hrd.vw (i:=2) rfl) hq1 Tryz.underlying26 zj7 rfl dc rfl rfl rfl (zcA (m:=0+(x3:Int).toNat) (j:=0) (i:=2) (q:=q1) (cs:=(zr3 q1)) hrd rfl zl4 zc2 rfl dc rfl (Vw.get (hrd.vw (i:=2) rfl) hq1) rfl rfl rfl ?_)
   refine zbb zlV rfl dc (fun b1 => ?_)
   refine zyR 1 rfl (zaR (k:=1) (vs:=(zr3 q1)) (l':=(zr3 q1)) zj7 rfl rfl rfl rfl rfl (show _≤_ by simp) rfl rfl ?_)
   refine zyH (zyR 2 rfl (zaY (k:=1) (cs:=(zr3 q1)) zl4 rfl dc rfl rfl rfl rfl ?_))
   obtain ⟨rr4,hr1,h⟩:=zhH h
   have hx4:xs=acc3++(x3,q1)::rr4:=by rw [hx3,hr1]
   refine zdq hy rfl dc rfl hx4 rfl (k:=0) rfl ?_ ?_
   ·
    have hx5:xs=(acc3++[(x3,q1)])++rr4:=by rw [hx4]; simp
    refine zcZ rfl dc rfl zbZ (zyN (zaL rfl (zat (zai (zaE (zaA ?_))))))
    obtain ⟨hg1,h⟩:=zbs h
    refine zaO rfl (zaT (r:=x3+1) (IntWalk.i64_in _ hg1)) (zyR 1 rfl (zaV ?_))
    subst hag1
    exact zaZ (n1,x3+1,acc3++[(x3,q1)],rr4) ⟨h,hx5⟩ (Nat.lt_succ_self _) rfl (za7 rfl) (zae [0] kr rfl)
   refine zcZ rfl dc rfl zbZ (zyN (za0 rfl (zau (zaj (zah (zah (zaj ?_)))))))
   exact zip (ds:=[]) acc3 (x3,q1) rr4 hx4 (.inl rfl) Splits.nil Tryz.results115 (zae [0] kr rfl)
  refine za6 (zao (zao (zaw ?_)))
  cases h
  exact zhk (ds:=[]) (.inr rfl) Splits.nil Tryz.results115 (congrArg I (hx3.trans (List.append_nil _))) (zae [0] kr rfl)
def zei (p1:Gpoem_Poem):Option Unit :=
some ()
theorem zg1 {bp1:Nat} {p1:Gpoem_Poem} {p1_h0 p1_h1:Hd} {r:Unit} (h:zei p1=some r):FnR Tryz.prog 86 [zP bp1] [cells bp1 [.string p1.told_title,p1_h0.v,p1_h1.v,.string p1.source] 106,zv6 p1_h0.v p1.told_lines,zv7 p1_h1.v p1.told_stanzas] [] (fun v0:Nat=>.func (.func 115) #[] #[zP v0]) (fun v0=>[cells v0 [zP bp1] 58]):=by
 unfold zei at h
 refine FnR.intro Tryz.func86 rfl Tryz.ntmps86 (by simp) ?_
 intro w0 K hrd
 refine zyG ?_
 refine zcP rfl dc rfl (fun b1 => ?_)
 refine zyR 1 rfl (zyH (zeF (x1:=[]) (x2:=[.tmp 1]) rfl dc rfl rfl (zyR 1 rfl (zyN (zau ?_)))))
 cases h
 exact zaC (rs:=[.tmp 2]) b1 (.inl rfl) Tryz.results86 (.cons (.tmp rfl) .nil) rfl (zae [0] kr rfl)
end Go.Proofs.YtbempdelckaccaaGreatDoor

namespace Go.Proofs.YtbempdelckaccaaGreatDoor
open Go.RowKit Go.Lib
set_option linter.unusedVariables false
set_option linter.unusedSimpArgs false
def zc0 (p1:Gpage_parter) (from1:Int) (to1:Int):Option Int :=
grd (I64 (to1 - from1)) <|
grd (I64 (to1 - 1)) <|
zar (zc9 p1.blanks (to1 - 1)) fun (q1:Int) =>
grd (I64 ((to1 - from1)+q1)) <|
zar (zc9 p1.blanks from1) fun (q2:Int) =>
grd (I64 (((to1 - from1)+q1) - q2)) <|
some (((to1 - from1)+q1) - q2)
theorem zez {bp1:Nat} {p1:Gpage_parter} {p1_h0 p1_h1 p1_h2 p1_h3:Hd} {from1:Int} {to1:Int} {r:Int} (h:zc0 p1 from1 to1=some r):FnR Tryz.prog 93 [zP bp1,zI from1,zI to1] [cells bp1 [p1_h0.v,p1_h1.v,p1_h2.v,p1_h3.v,zI p1.heights] 131,zv1 p1_h0.v p1.rows,zv0 p1_h1.v p1.blanks,zv0 p1_h2.v p1.firsts,zv0 p1_h3.v p1.lasts] [] (fun _:Unit=>(zI r)) (fun _=>[]):=by
 unfold zc0 at h
 refine FnR.intro Tryz.func93 rfl Tryz.ntmps93 (by simp) ?_
 intro w0 K hrd
 refine zyG (zyR 1 rfl (zyN (zay ?_)))
 obtain ⟨hg1,h⟩:=zbs h
 obtain ⟨hg2,h⟩:=zbs h
 obtain ⟨q1,hq1,h⟩:=zbl h
 obtain ⟨hg3,h⟩:=zbs h
 obtain ⟨q2,hq2,h⟩:=zbl h
 obtain ⟨hg4,h⟩:=zbs h
 refine zbj 19 [(0,7,zI to1),(1,8,zI from1),(2,9,zI (to1 - from1)),(3,10,zP bp1),(4,11,zP bp1),(5,12,.pointer (some ⟨bp1,1,none⟩)),(6,13,p1_h1.v),(7,14,zI to1),(8,15,zI (to1 - 1)),(9,16,.pointer (some ⟨zcL p1_h1.v,(0+(to1 - 1:Int).toNat)*1,none⟩)),(10,17,zI q1),(11,18,zI ((to1 - from1)+q1)),(12,19,zP bp1),(13,20,zP bp1),(14,21,.pointer (some ⟨bp1,1,none⟩)),(15,22,p1_h1.v),(16,23,zI from1),(17,24,.pointer (some ⟨zcL p1_h1.v,(0+(from1:Int).toNat)*1,none⟩)),(18,25,zI q2)] mixed kr kr dc (by rfl) kr kr (zyP 2 0 rfl (zad ?_ (zyP 1 3 rfl (zad ?_ (zad ?_ (zad ?_ (zyP 1 7 rfl (zad ?_ (zad ?_ (zad ?_ (zad ?_ (zyP 1 12 rfl (zad ?_ (zad ?_ (zad ?_ (zyP 1 16 rfl (zad ?_ (zad ?_ DrawPre.nil)))))))))))))))))) ?_
 · exact fun D n d c u i=>zbJ rfl dc (zaa (m:=0) u rfl (d 0 dc)) (zaa (m:=1) u rfl (d 1 dc)) (zbD (r:=to1 - from1) (IntWalk.i64_in _ hg1)) (zaf 2 u i rfl)
 · exact fun D n d c u i=>zap rfl dc (zaa (m:=3) u rfl (d 3 dc)) (zaf 4 u i rfl)
 · exact fun D n d c u i=>zac zhW rfl dc (zaa (m:=4) u rfl (d 4 dc)) (show _=1 from rfl) (zaf 5 u i rfl)
 · exact fun D n d c u i=>zaS (i:=0) hrd rfl zfq rfl dc (zaa (m:=5) u rfl (d 5 dc)) rfl (zaf 6 u i rfl)
 · exact fun D n d c u i=>zbJ rfl dc (zaa (m:=7) u rfl (d 7 dc)) rfl (zbD (r:=to1 - 1) (IntWalk.i64_in _ hg2)) (zaf 8 u i rfl)
 · exact fun D n d c u i=>za3 (hrd.vw (i:=2) rfl) hq1 Tryz.underlying49 zeX rfl dc (zaa (m:=6) u rfl (d 6 dc)) (zaa (m:=8) u rfl (d 8 dc)) rfl (zaf 9 u i rfl)
 · exact fun D n d c u i=>zbT (n:=0+(to1 - 1:Int).toNat) (j:=0) (i:=2) (q:=q1) hrd rfl zbC zbX rfl dc (zaa (m:=9) u rfl (d 9 dc)) (Vw.get (hrd.vw (i:=2) rfl) hq1) rfl dc rfl (zaf 10 u i rfl)
 · exact fun D n d c u i=>zbJ rfl dc (zaa (m:=2) u rfl (d 2 dc)) (zaa (m:=10) u rfl (d 10 dc)) (zaT (r:=(to1 - from1)+q1) (IntWalk.i64_in _ hg3)) (zaf 11 u i rfl)
 · exact fun D n d c u i=>zap rfl dc (zaa (m:=12) u rfl (d 12 dc)) (zaf 13 u i rfl)
 · exact fun D n d c u i=>zac zhW rfl dc (zaa (m:=13) u rfl (d 13 dc)) (show _=1 from rfl) (zaf 14 u i rfl)
 · exact fun D n d c u i=>zaS (i:=0) hrd rfl zfq rfl dc (zaa (m:=14) u rfl (d 14 dc)) rfl (zaf 15 u i rfl)
 · exact fun D n d c u i=>za3 (hrd.vw (i:=2) rfl) hq2 Tryz.underlying49 zeX rfl dc (zaa (m:=15) u rfl (d 15 dc)) (zaa (m:=16) u rfl (d 16 dc)) rfl (zaf 17 u i rfl)
 · exact fun D n d c u i=>zbT (n:=0+(from1:Int).toNat) (j:=0) (i:=2) (q:=q2) hrd rfl zbC zbX rfl dc (zaa (m:=17) u rfl (d 17 dc)) (Vw.get (hrd.vw (i:=2) rfl) hq2) rfl dc rfl (zaf 18 u i rfl)
 refine zaO rfl (zbD (r:=((to1 - from1)+q1) - q2) (IntWalk.i64_in _ hg4)) (zyR 1 rfl (zyN (zau ?_)))
 cases h
 exact zaC (rs:=[.tmp 6]) () (.inl rfl) Tryz.results93 (.cons (.tmp rfl) .nil) rfl Splits.nil
def zdW (p1:Gpage_parter) (k1:Int):Option Int :=
grd (I64 (k1 - 1)) <|
zar (zc9 p1.rows (k1 - 1)) fun (q1:Gapi_Row) =>
zar (zc9 p1.rows k1) fun (q2:Gapi_Row) =>
zav ((q1.Stanza:Int) != q2.Stanza) (
some 0
) (
zav ((q1.Line:Int)==q2.Line) (
some 100
) (
zar (zc9 p1.firsts q1.Stanza) fun (q3:Int) =>
zav ((q1.Line:Int)==q3) (
some 50
) (
zar (zc9 p1.lasts q2.Stanza) fun (q4:Int) =>
zav ((q2.Line:Int)==q4) (
some 50
) (
some 10
)
)
)
)
theorem zgs {bp1:Nat} {p1:Gpage_parter} {p1_h0 p1_h1 p1_h2 p1_h3:Hd} {k1:Int} {r:Int} (h:zdW p1 k1=some r):FnR Tryz.prog 94 [zP bp1,zI k1] [cells bp1 [p1_h0.v,p1_h1.v,p1_h2.v,p1_h3.v,zI p1.heights] 131,zv1 p1_h0.v p1.rows,zv0 p1_h1.v p1.blanks,zv0 p1_h2.v p1.firsts,zv0 p1_h3.v p1.lasts] [] (fun _:Unit=>(zI r)) (fun _=>[]):=by
 unfold zdW at h
 refine FnR.intro Tryz.func94 rfl Tryz.ntmps94 (by simp) ?_
 intro w0 K hrd
 refine zyG (zyR 1 rfl (zyN (zay ?_)))
 obtain ⟨hg1,h⟩:=zbs h
 obtain ⟨q1,hq1,h⟩:=zbl h
 obtain ⟨q2,hq2,h⟩:=zbl h
 refine ze5 2 ?_
 refine let vals1:(Nat×Nat)→List (Nat×Nat×Value):=fun b=>[(0,7,zP bp1),(1,8,zP bp1),(2,9,zP bp1),(3,10,p1_h0.v),(4,11,zI k1),(5,12,zI (k1 - 1)),(6,13,.pointer (some ⟨zcL p1_h0.v,(0+(k1 - 1:Int).toNat)*6,none⟩)),(7,14,.agg (zr4 q1).toArray),(8,15,zP bp1),(9,16,zP bp1),(10,17,zP bp1),(11,18,p1_h0.v),(12,19,zI k1),(13,20,.pointer (some ⟨zcL p1_h0.v,(0+(k1:Int).toNat)*6,none⟩)),(14,21,.agg (zr4 q2).toArray),(15,5,zP b.1),(16,6,zP b.2)]; let LL1:(Nat→Prop)→(Nat×Nat)→List Asn:=fun D b=>[eD D emp [(17,cells b.1 (zr4 q1) 33),(15,cells b.1 [zI 0,zI 0,zI 0,zI 0,zI 0,.string ByteArray.empty] 33)],eD D emp [(16,cells b.2 [zI 0,zI 0,zI 0,zI 0,zI 0,.string ByteArray.empty] 33)]]; ?_
 have zhq:zyQ [15,16,17] LL1:=fun i h D b=>zab (ziw rfl h) (zab (ziw rfl h) rfl)
 refine zc3 (β:=Nat×Nat) 18 ((0:Nat),(0:Nat)) vals1 LL1 mixed kr kr dc (fun _=>rfl) (zab zbr (zab zbr rfl)) (zj4 zhq (fun _=>rfl) (fun _=>rfl) 1 0 (fun _=>rfl) rfl (zyq zhq rfl (fun _=>rfl) (fun _=>rfl) ?_ (zyq zhq rfl (fun _=>rfl) (fun _=>rfl) ?_ (zyq zhq rfl (fun _=>rfl) (fun _=>rfl) ?_ (zj4 zhq (fun _=>rfl) (fun _=>rfl) 1 4 (fun _=>rfl) rfl (zyq zhq rfl (fun _=>rfl) (fun _=>rfl) ?_ (zyq zhq rfl (fun _=>rfl) (fun _=>rfl) ?_ (zgV zhq rfl (fun _=>rfl) (fun _=>rfl) ?_ (zj4 zhq (fun _=>rfl) (fun _=>rfl) 1 8 (fun _=>rfl) rfl (zyq zhq rfl (fun _=>rfl) (fun _=>rfl) ?_ (zyq zhq rfl (fun _=>rfl) (fun _=>rfl) ?_ (zyq zhq rfl (fun _=>rfl) (fun _=>rfl) ?_ (zj4 zhq (fun _=>rfl) (fun _=>rfl) 1 12 (fun _=>rfl) rfl (zyq zhq rfl (fun _=>rfl) (fun _=>rfl) ?_ (zgV zhq rfl (fun _=>rfl) (fun _=>rfl) ?_ (zas ?_ (zas ?_ (zas ?_ DrawG.nil)))))))))))))))))) ?_
 · exact fun D ⟨b1,b2⟩ n d c u i=>zap rfl dc (zaa (m:=0) u rfl (d 0 dc)) (zaf 1 u i rfl)
 · exact fun D ⟨b1,b2⟩ n d c u i=>zac zeI rfl dc (zaa (m:=1) u rfl (d 1 dc)) (show _=0 from rfl) (zaf 2 u i rfl)
 · exact fun D ⟨b1,b2⟩ n d c u i=>zaS (i:=0) hrd rfl zjF rfl dc (zaa (m:=2) u rfl (d 2 dc)) rfl (zaf 3 u i rfl)
 · exact fun D ⟨b1,b2⟩ n d c u i=>zbJ rfl dc (zaa (m:=4) u rfl (d 4 dc)) rfl (zbD (r:=k1 - 1) (IntWalk.i64_in _ hg1)) (zaf 5 u i rfl)
 · exact fun D ⟨b1,b2⟩ n d c u i=>za3 (hrd.vw (i:=1) rfl) hq1 Tryz.underlying43 zf1 rfl dc (zaa (m:=3) u rfl (d 3 dc)) (zaa (m:=5) u rfl (d 5 dc)) rfl (zaf 6 u i rfl)
 · exact fun D ⟨b1,b2⟩ n d c u i=>⟨_,(zab (zag (fun hD=>n (c 17 _ rfl hD 7 dc)) rfl) rfl),zcA (m:=0+(k1 - 1:Int).toNat) (j:=0) (i:=1) (q:=q1) (cs:=(zr4 q1)) hrd rfl ziB zbA rfl dc (zaa (m:=6) u rfl (d 6 dc)) (Vw.get (hrd.vw (i:=1) rfl) hq1) rfl rfl rfl (zaf 7 u i rfl)⟩
 · exact fun D ⟨b1,b2⟩ n d c u i=>zap rfl dc (zaa (m:=8) u rfl (d 8 dc)) (zaf 9 u i rfl)
 · exact fun D ⟨b1,b2⟩ n d c u i=>zac zeI rfl dc (zaa (m:=9) u rfl (d 9 dc)) (show _=0 from rfl) (zaf 10 u i rfl)
 · exact fun D ⟨b1,b2⟩ n d c u i=>zaS (i:=0) hrd rfl zjF rfl dc (zaa (m:=10) u rfl (d 10 dc)) rfl (zaf 11 u i rfl)
 · exact fun D ⟨b1,b2⟩ n d c u i=>za3 (hrd.vw (i:=1) rfl) hq2 Tryz.underlying43 zf1 rfl dc (zaa (m:=11) u rfl (d 11 dc)) (zaa (m:=12) u rfl (d 12 dc)) rfl (zaf 13 u i rfl)
 · exact fun D ⟨b1,b2⟩ n d c u i=>⟨_,(zdd rfl),zcA (m:=0+(k1:Int).toNat) (j:=0) (i:=1) (q:=q2) (cs:=(zr4 q2)) hrd rfl ziB zbA rfl dc (zaa (m:=13) u rfl (d 13 dc)) (Vw.get (hrd.vw (i:=1) rfl) hq2) rfl rfl rfl (zaf 14 u i rfl)⟩
 ·
  intro D b hn hd hcl
  obtain ⟨zb0,b2⟩:=b
  refine zaD (zab (zag (fun hD=>hn (hcl 17 _ rfl hD 15 dc)) (zag hn zak)) rfl) ?_
  refine zbb zjy rfl dc (fun b1 => ?_)
  refine zci 0 rfl rfl ?_
  exact zaJ (b:=(zb0,b2)) (b1,b2) 15 (by rfl) (by rfl) rfl (zne (zct (zam (fun hD=>absurd hD hn) (zam (fun _=>rfl) rfl)))) (zab (zag (fun h=>h.elim (fun hD=>hn (hcl 17 _ rfl hD 15 dc)) (fun h=>absurd h dc)) (zaz (Or.inr rfl) rfl)) (zab (zal (by rfl)) rfl))
 ·
  intro D b hn hd hcl
  obtain ⟨b1,zb1⟩:=b
  refine zaD (zab (zag (fun hD=>hn (hcl 17 _ rfl hD 16 dc)) rfl) (zab (zag hn zak) rfl)) ?_
  refine zbb zjy rfl dc (fun b2 => ?_)
  refine zci 1 rfl rfl ?_
  exact zaJ (b:=(b1,zb1)) (b1,b2) 16 (by rfl) (by rfl) rfl (zot (zct (zam (fun hD=>absurd hD hn) rfl))) (zab ((zal (by rfl)).trans (zag (fun hD=>hn (hcl 17 _ rfl hD 16 dc)) rfl)) (zab (zaz (Or.inr rfl) rfl) rfl))
 ·
  intro D b hn hd hcl
  obtain ⟨b1,b2⟩:=b
  refine zaD (zab (zag hn (zaz (hd 15 dc) rfl)) (zab (zaz (hd 16 dc) rfl) rfl)) (zaR (k:=0) (vs:=(zr4 q1)) (l':=(zr4 q1)) zf1 rfl (zaa (m:=15) rfl rfl (hd 15 dc)) (zaa (m:=7) rfl rfl (hd 7 dc)) rfl rfl (show _≤_ by simp) rfl rfl ?_)
  exact zgQ (b:=(b1,b2)) (b1,b2) (by rfl) (zjx (zct rfl)) (zab (zaz (Or.inr rfl) rfl) (zab ((zal (by rfl)).trans (zaz (hd 16 dc) rfl)) rfl))
 intro D b hall
 obtain ⟨b1,b2⟩:=b
 refine zaD (zab (zaz (hall 17 dc) rfl) (zab (zaz (hall 16 dc) rfl) rfl)) (zaR (k:=1) (vs:=(zr4 q2)) (l':=(zr4 q2)) zf1 rfl rfl rfl rfl rfl (show _≤_ by simp) rfl rfl (zyN (zay (zaB (zyG (zac zdm rfl dc rfl (show _=1 from rfl) (zan (k:=0) zbC rfl dc rfl rfl rfl (zac zdm rfl dc rfl (show _=1 from rfl) (zan (k:=1) zbC rfl dc rfl rfl rfl (zaO rfl zbq (zyR 1 rfl ?_)))))))))))
 refine zyN ?_
 refine zyB rfl h (fun h => ?_) (fun h => ?_)
 ·
  refine zyG (zyR 1 rfl (zyN (zau (zaj (zah ?_)))))
  cases h
  exact zaC (rs:=[.tmp 4]) () (.inl rfl) Tryz.results94 (.cons (.tmp rfl) .nil) rfl Splits.nil
 refine zyG (zac zeE rfl dc rfl (show _=0 from rfl) (zan (k:=0) zbC rfl dc rfl rfl rfl (zac zeE rfl dc rfl (show _=0 from rfl) (zan (k:=1) zbC rfl dc rfl rfl rfl (zaO rfl zaP (zyR 1 rfl (zyN ?_)))))))
 refine zyB rfl h (fun h => ?_) (fun h => ?_)
 ·
  refine zyG (zyR 1 rfl (zyN (zau (zaj (zah ?_)))))
  cases h
  exact zaC (rs:=[.tmp 4]) () (.inl rfl) Tryz.results94 (.cons (.tmp rfl) .nil) rfl Splits.nil
 refine zay ?_
 obtain ⟨q3,hq3,h⟩:=zbl h
 refine zev (b:=(q1.Line:Int)==q3) (fun hb3 => ?_) (fun hb3 => ?_)
 ·
  have h:=zfI hb3 h
  refine zbj 22 [(0,35,zP b1),(1,36,zI q1.Line),(2,37,zP bp1),(3,38,zP bp1),(4,39,.pointer (some ⟨bp1,2,none⟩)),(5,40,p1_h2.v),(6,41,.pointer (some ⟨b1,1,none⟩)),(7,42,zI q1.Stanza),(8,43,.pointer (some ⟨zcL p1_h2.v,(0+(q1.Stanza:Int).toNat)*1,none⟩)),(9,44,zI q3),(10,45,.bool true),(11,46,.bool true),(12,47,undef),(13,48,undef),(14,49,undef),(15,50,undef),(16,51,undef),(17,52,undef),(18,53,undef),(19,54,undef),(20,55,undef),(21,56,undef)] mixed kr kr dc (by rfl) kr kr (zad ?_ (zad ?_ (zyP 1 2 rfl (zad ?_ (zad ?_ (zad ?_ (zad ?_ (zad ?_ (zad ?_ (zad ?_ (zad ?_ (zyP 11 11 rfl DrawPre.nil)))))))))))) ?_
  · exact fun D n d c u i=>zac zeE rfl dc (zba (by rfl) rfl) (show _=0 from rfl) (zaf 0 u i rfl)
  · exact fun D n d c u i=>zan (k:=0) zbC rfl dc (zaa (m:=0) u rfl (d 0 dc)) rfl rfl (zaf 1 u i rfl)
  · exact fun D n d c u i=>zap rfl dc (zaa (m:=2) u rfl (d 2 dc)) (zaf 3 u i rfl)
  · exact fun D n d c u i=>zac zgC rfl dc (zaa (m:=3) u rfl (d 3 dc)) (show _=2 from rfl) (zaf 4 u i rfl)
  · exact fun D n d c u i=>zaS (i:=0) hrd rfl zfq rfl dc (zaa (m:=4) u rfl (d 4 dc)) rfl (zaf 5 u i rfl)
  · exact fun D n d c u i=>zac zdm rfl dc (zba (by rfl) rfl) (show _=1 from rfl) (zaf 6 u i rfl)
  · exact fun D n d c u i=>zan (k:=0) zbC rfl dc (zaa (m:=6) u rfl (d 6 dc)) rfl rfl (zaf 7 u i rfl)
  · exact fun D n d c u i=>za3 (hrd.vw (i:=3) rfl) hq3 Tryz.underlying49 zeX rfl dc (zaa (m:=5) u rfl (d 5 dc)) (zaa (m:=7) u rfl (d 7 dc)) rfl (zaf 8 u i rfl)
  · exact fun D n d c u i=>zbT (n:=0+(q1.Stanza:Int).toNat) (j:=0) (i:=3) (q:=q3) hrd rfl zbC zbX rfl dc (zaa (m:=8) u rfl (d 8 dc)) (Vw.get (hrd.vw (i:=3) rfl) hq3) rfl dc rfl (zaf 9 u i rfl)
  · exact fun D n d c u i=>zbJ rfl dc (zaa (m:=1) u rfl (d 1 dc)) (zaa (m:=9) u rfl (d 9 dc)) zaP (zeW (show Value.bool ((q1.Line:Int)==q3)=Value.bool true from congrArg Value.bool hb3) (zaf 10 u i rfl))
  refine zyR 3 rfl (zyN (za0 rfl (zyG (zyR 1 rfl (zyN (zau (zaj (zah ?_))))))))
  cases h
  exact zaC (rs:=[.tmp 4]) () (.inl rfl) Tryz.results94 (.cons (.tmp rfl) .nil) rfl Splits.nil
 have h:=zfJ hb3 h
 obtain ⟨q4,hq4,h⟩:=zbl h
 refine zbj 22 [(0,35,zP b1),(1,36,zI q1.Line),(2,37,zP bp1),(3,38,zP bp1),(4,39,.pointer (some ⟨bp1,2,none⟩)),(5,40,p1_h2.v),(6,41,.pointer (some ⟨b1,1,none⟩)),(7,42,zI q1.Stanza),(8,43,.pointer (some ⟨zcL p1_h2.v,(0+(q1.Stanza:Int).toNat)*1,none⟩)),(9,44,zI q3),(10,45,.bool false),(11,46,.bool false),(12,47,zP b2),(13,48,zI q2.Line),(14,49,zP bp1),(15,50,zP bp1),(16,51,.pointer (some ⟨bp1,3,none⟩)),(17,52,p1_h3.v),(18,53,.pointer (some ⟨b2,1,none⟩)),(19,54,zI q2.Stanza),(20,55,.pointer (some ⟨zcL p1_h3.v,(0+(q2.Stanza:Int).toNat)*1,none⟩)),(21,56,zI q4)] mixed kr kr dc (by rfl) kr kr (zad ?_ (zad ?_ (zyP 1 2 rfl (zad ?_ (zad ?_ (zad ?_ (zad ?_ (zad ?_ (zad ?_ (zad ?_ (zad ?_ (zyP 1 11 rfl (zad ?_ (zad ?_ (zyP 1 14 rfl (zad ?_ (zad ?_ (zad ?_ (zad ?_ (zad ?_ (zad ?_ (zad ?_ DrawPre.nil)))))))))))))))))))))) ?_
 · exact fun D n d c u i=>zac zeE rfl dc (zba (by rfl) rfl) (show _=0 from rfl) (zaf 0 u i rfl)
 · exact fun D n d c u i=>zan (k:=0) zbC rfl dc (zaa (m:=0) u rfl (d 0 dc)) rfl rfl (zaf 1 u i rfl)
 · exact fun D n d c u i=>zap rfl dc (zaa (m:=2) u rfl (d 2 dc)) (zaf 3 u i rfl)
 · exact fun D n d c u i=>zac zgC rfl dc (zaa (m:=3) u rfl (d 3 dc)) (show _=2 from rfl) (zaf 4 u i rfl)
 · exact fun D n d c u i=>zaS (i:=0) hrd rfl zfq rfl dc (zaa (m:=4) u rfl (d 4 dc)) rfl (zaf 5 u i rfl)
 · exact fun D n d c u i=>zac zdm rfl dc (zba (by rfl) rfl) (show _=1 from rfl) (zaf 6 u i rfl)
 · exact fun D n d c u i=>zan (k:=0) zbC rfl dc (zaa (m:=6) u rfl (d 6 dc)) rfl rfl (zaf 7 u i rfl)
 · exact fun D n d c u i=>za3 (hrd.vw (i:=3) rfl) hq3 Tryz.underlying49 zeX rfl dc (zaa (m:=5) u rfl (d 5 dc)) (zaa (m:=7) u rfl (d 7 dc)) rfl (zaf 8 u i rfl)
 · exact fun D n d c u i=>zbT (n:=0+(q1.Stanza:Int).toNat) (j:=0) (i:=3) (q:=q3) hrd rfl zbC zbX rfl dc (zaa (m:=8) u rfl (d 8 dc)) (Vw.get (hrd.vw (i:=3) rfl) hq3) rfl dc rfl (zaf 9 u i rfl)
 · exact fun D n d c u i=>zbJ rfl dc (zaa (m:=1) u rfl (d 1 dc)) (zaa (m:=9) u rfl (d 9 dc)) zaP (zeW (show Value.bool ((q1.Line:Int)==q3)=Value.bool false from congrArg Value.bool hb3) (zaf 10 u i rfl))
 · exact fun D n d c u i=>zac zeE (zdC rfl (zaa (m:=11) u rfl (d 11 dc))) dc (zba (by rfl) rfl) (show _=0 from rfl) (zaf 12 u i rfl)
 · exact fun D n d c u i=>zan (k:=1) zbC (zdC rfl (zaa (m:=11) u rfl (d 11 dc))) dc (zaa (m:=12) u rfl (d 12 dc)) rfl rfl (zaf 13 u i rfl)
 · exact fun D n d c u i=>zap (zdC rfl (zaa (m:=11) u rfl (d 11 dc))) dc (zaa (m:=14) u rfl (d 14 dc)) (zaf 15 u i rfl)
 · exact fun D n d c u i=>zac zhV (zdC rfl (zaa (m:=11) u rfl (d 11 dc))) dc (zaa (m:=15) u rfl (d 15 dc)) (show _=3 from rfl) (zaf 16 u i rfl)
 · exact fun D n d c u i=>zaS (i:=0) hrd rfl zfq (zdC rfl (zaa (m:=11) u rfl (d 11 dc))) dc (zaa (m:=16) u rfl (d 16 dc)) rfl (zaf 17 u i rfl)
 · exact fun D n d c u i=>zac zdm (zdC rfl (zaa (m:=11) u rfl (d 11 dc))) dc (zba (by rfl) rfl) (show _=1 from rfl) (zaf 18 u i rfl)
 · exact fun D n d c u i=>zan (k:=1) zbC (zdC rfl (zaa (m:=11) u rfl (d 11 dc))) dc (zaa (m:=18) u rfl (d 18 dc)) rfl rfl (zaf 19 u i rfl)
 · exact fun D n d c u i=>za3 (hrd.vw (i:=4) rfl) hq4 Tryz.underlying49 zeX (zdC rfl (zaa (m:=11) u rfl (d 11 dc))) dc (zaa (m:=17) u rfl (d 17 dc)) (zaa (m:=19) u rfl (d 19 dc)) rfl (zaf 20 u i rfl)
 · exact fun D n d c u i=>zbT (n:=0+(q2.Stanza:Int).toNat) (j:=0) (i:=4) (q:=q4) hrd rfl zbC zbX (zdC rfl (zaa (m:=11) u rfl (d 11 dc))) dc (zaa (m:=20) u rfl (d 20 dc)) (Vw.get (hrd.vw (i:=4) rfl) hq4) rfl dc rfl (zaf 21 u i rfl)
 refine zaO rfl zaP (zyR 2 rfl (zyN ?_))
 refine zyB rfl h (fun h => ?_) (fun h => ?_)
 ·
  refine zyG (zyR 1 rfl (zyN (zau (zaj (zah ?_)))))
  cases h
  exact zaC (rs:=[.tmp 4]) () (.inl rfl) Tryz.results94 (.cons (.tmp rfl) .nil) rfl Splits.nil
 refine zat (zai (zaE (zyG (zyR 1 rfl (zyN (zau ?_))))))
 cases h
 exact zaC (rs:=[.tmp 4]) () (.inl rfl) Tryz.results94 (.cons (.tmp rfl) .nil) rfl Splits.nil
def zce (p1:Gpage_parter) (from3:Int) (j2:(List Gpage_best)→Option ((List Int)×Int)) (ag2:(List Gpage_best)→Int→Option ((List Int)×Int)) (all8:List Gpage_best) (to3:Int):Option ((List Int)×Int) :=
zav (decide ((to3:Int)≤(p1.rows.length:Int))) (
zar (zc0 p1 from3 to3) fun (r1:Int) =>
zav (decide ((r1:Int)≤p1.heights)) (
zbp (fun (j3:(List Gpage_best)→Option ((List Int)×Int)) =>
zbp (fun (j4:Int→Int→Option ((List Int)×Int)) =>
zav (decide ((to3:Int)<(p1.rows.length:Int))) (
zar (zc0 p1 from3 to3) fun (r2:Int) =>
grd (I64 (p1.heights - r2)) <|
grd (I64 ((p1.heights - r2)*(p1.heights - r2))) <|
zar (zdW p1 to3) fun (r3:Int) =>
grd (I64 (((p1.heights - r2)*(p1.heights - r2))+r3)) <|
zar (zc9 all8 to3) fun (q2:Gpage_best) =>
grd (I64 ((((p1.heights - r2)*(p1.heights - r2))+r3)+q2.cost)) <|
grd (I64 (q2.rows+1)) <|
j4 ((((p1.heights - r2)*(p1.heights - r2))+r3)+q2.cost) (q2.rows+1)
) (
j4 0 1
)
) (fun (b2:Int) (b3:Int) =>
zar (zc9 all8 from3) fun (q3:Gpage_best) =>
zav (decide ((q3.rows:Int)<0)) (
zar (zc9 all8 from3) fun (q4:Gpage_best) =>
j3 (all8.set (from3:Int).toNat (⟨b2,b3,to3⟩:Gpage_best))
) (
zav (decide ((b2:Int)<q3.cost)) (
zar (zc9 all8 from3) fun (q5:Gpage_best) =>
j3 (all8.set (from3:Int).toNat (⟨b2,b3,to3⟩:Gpage_best))
) (
zav ((b2:Int)==q3.cost) (
zav (decide ((b3:Int)≤q3.rows)) (
zar (zc9 all8 from3) fun (q6:Gpage_best) =>
j3 (all8.set (from3:Int).toNat (⟨b2,b3,to3⟩:Gpage_best))
) (
j3 all8
)
) (
j3 all8
)
)
)
)
) (fun (all9:List Gpage_best) =>
grd (I64 (to3+1)) <|
ag2 all9 (to3+1)
)
) (
j2 all8
)
) (
j2 all8
)
def zcf (p1:Gpage_parter) (j1:(List Gpage_best)→Option ((List Int)×Int)) (ag1:(List Gpage_best)→Int→Option ((List Int)×Int)) (all4:List Gpage_best) (from3:Int):Option ((List Int)×Int) :=
zav (decide ((0:Int)≤from3)) (
zbp (fun (j2:(List Gpage_best)→Option ((List Int)×Int)) =>
zar (zc9 all4 from3) fun (q1:Gpage_best) =>
grd (I64 (from3+1)) <|
za9 (fun _ _=>none) (zce p1 from3 j2) zcN (all4.set (from3:Int).toNat (⟨q1.cost,(-1),q1.to_⟩:Gpage_best)) (from3+1)
) (fun (all5:List Gpage_best) =>
grd (I64 (from3 - 1)) <|
ag1 all5 (from3 - 1)
)
) (
j1 all4
)
def zcd (p1:Gpage_parter) (all1:List Gpage_best) (j5:(List Int)→Option ((List Int)×Int)) (ag3:(List Int)→Int→Option ((List Int)×Int)) (out4:List Int) (from6:Int):Option ((List Int)×Int) :=
zav (decide ((from6:Int)<(p1.rows.length:Int))) (
zar (zc9 all1 from6) fun (q7:Gpage_best) =>
grd (out4.length+1≤2147483648) <|
zar (zc9 all1 from6) fun (q8:Gpage_best) =>
ag3 (out4++[q7.to_]) q8.to_
) (
j5 out4
)
def zdt (p1:Gpage_parter):Option ((List Int)×Int) :=
zbp (fun (j1:(List Gpage_best)→Option ((List Int)×Int)) =>
grd (I64 ((p1.rows.length:Int)+1)) <|
grd (0≤((p1.rows.length:Int)+1)∧((p1.rows.length:Int)+1)≤2147483648) <|
grd (I64 ((p1.rows.length:Int) - 1)) <|
za9 (fun _ _=>none) (zcf p1 j1) zcN (List.replicate ((p1.rows.length:Int)+1:Int).toNat (⟨0,0,0⟩:Gpage_best):List Gpage_best) ((p1.rows.length:Int) - 1)
) (fun (all1:List Gpage_best) =>
zbp (fun (j5:(List Int)→Option ((List Int)×Int)) =>
za9 (fun _ _=>none) (zcd p1 all1 j5) zcN ([]:List Int) 0
) (fun (out1:List Int) =>
zar (zc9 all1 0) fun (q9:Gpage_best) =>
some (out1,q9.cost)
)
)
theorem zfU {bp1:Nat} {p1:Gpage_parter} {p1_h0 p1_h1 p1_h2 p1_h3:Hd} {r:((List Int)×Int)} (h:zdt p1=some r):FnR Tryz.prog 66 [zP bp1] [cells bp1 [p1_h0.v,p1_h1.v,p1_h2.v,p1_h3.v,zI p1.heights] 131,zv1 p1_h0.v p1.rows,zv0 p1_h1.v p1.blanks,zv0 p1_h2.v p1.firsts,zv0 p1_h3.v p1.lasts] [] (fun v0:Value=>.tuple #[v0,zI r.2]) (fun v0=>[zv0 v0 r.1]):=by
 unfold zdt at h
 refine FnR.intro Tryz.func66 rfl Tryz.ntmps66 (by simp) ?_
 intro w0 K hrd
 obtain ⟨j1,hj1,h⟩:=zbw h
 refine zaU (β:=(List Gpage_best)×Value) 3 rfl (fun b=>j1 b.1=some r) (fun b=>[]) (fun b=>[(4,zI (p1.rows.length:Int)),(5,b.2)]) (fun b=>[zv8 b.2 b.1]) (fun cut => ?_) ?_
 ·
  refine zyG (zyR 2 rfl (zyH (zyR 1 rfl (zap rfl dc rfl (zac zeI rfl dc rfl (show _=0 from rfl) (zaS (i:=0) hrd rfl zjF rfl dc rfl rfl (zcU (hrd.vw (i:=1) rfl) rfl dc rfl Tryz.underlying43 (zyR 1 rfl ?_))))))))
  refine zyH (zyR 1 rfl ?_)
  obtain ⟨hg1,h⟩:=zbs h
  refine zaO rfl (zaT (r:=(p1.rows.length:Int)+1) (IntWalk.i64_in _ hg1)) ?_
  obtain ⟨hg2,h⟩:=zbs h
  refine zi1 (z:=(⟨0,0,0⟩:Gpage_best)) Tryz.underlying174 zmy ziJ zaF rfl dc rfl hg2 (fun v2 => ?_)
  refine zyR 1 rfl (zyN (cut (zyG (zyR 1 rfl ?_))))
  obtain ⟨hg3,h⟩:=zbs h
  refine zaO rfl (zbD (r:=(p1.rows.length:Int) - 1) (IntWalk.i64_in _ hg3)) (zyR 1 rfl (zyN (zaB ?_)))
  refine zbm (β:=Nat×(List Gpage_best)×Int) (fun b=>za9 (fun _ _=>none) (zcf p1 j1) b.1 b.2.1 b.2.2=some r) (fun b=>[]) (fun b=>[(0,zP bp1),(4,zI (p1.rows.length:Int)),(5,v2),(6,zI b.2.2)]) (fun b=>[zv8 v2 b.2.1]) (fun b=>b.1) (zcN,(List.replicate ((p1.rows.length:Int)+1:Int).toNat (⟨0,0,0⟩:Gpage_best):List Gpage_best),(p1.rows.length:Int) - 1) h rfl (za7 rfl) (zae [0] kr rfl) ?_
  rintro ⟨n1,all4,from3⟩ h
  cases n1 with
  | zero=>exact zcS h
  | succ n1 =>
   obtain ⟨ag1,hag1⟩:∃ ag,ag=za9 (fun _ _=>none) (zcf p1 j1) n1:=⟨_,rfl⟩
   have h:zcf p1 j1 ag1 all4 from3=some r:=by rw [hag1]; exact h
   unfold zcf at h
   refine zay (zyG (zyR 1 rfl (zaO rfl zep (zyN ?_))))
   refine zyB rfl h (fun h => ?_) (fun h => ?_)
   ·
    refine zat (zaE ?_)
    obtain ⟨j2,hj2,h⟩:=zbw h
    refine zaU (β:=(List Gpage_best)) 0 rfl (fun b=>j2 b=some r) (fun b=>[]) (fun b=>[(0,zP bp1),(4,zI (p1.rows.length:Int)),(5,v2),(6,zI from3)]) (fun b=>[zv8 v2 b]) (fun cut => ?_) ?_
    ·
     refine cut (zaB (zyG (zyR 2 rfl ?_)))
     obtain ⟨q1,hq1,h⟩:=zbl h
     refine zaM (k:=0) hq1 Tryz.underlying174 zcc rfl dc rfl rfl rfl rfl (zac zdK rfl dc rfl (show _=((from3:Int).toNat)*3+1 from rfl) ?_)
     refine zd2 (i:=(from3:Int).toNat) (j:=1) (k:=0) (q:=q1) (q':=(⟨q1.cost,(-1),q1.to_⟩:Gpage_best)) zeX zaF rfl rfl rfl rfl (za4 hq1) rfl dc rfl (fun _ _=>rfl) ?_
     refine zyH (zyR 1 rfl ?_)
     obtain ⟨hg4,h⟩:=zbs h
     refine zaO rfl (zaT (r:=from3+1) (IntWalk.i64_in _ hg4)) (zyR 1 rfl (zyN (zaB ?_)))
     refine zbm (β:=Nat×(List Gpage_best)×Int) (fun b=>za9 (fun _ _=>none) (zce p1 from3 j2) b.1 b.2.1 b.2.2=some r) (fun b=>[]) (fun b=>[(0,zP bp1),(4,zI (p1.rows.length:Int)),(5,v2),(6,zI from3),(7,zI b.2.2)]) (fun b=>[zv8 v2 b.2.1]) (fun b=>b.1) (zcN,all4.set (from3:Int).toNat (⟨q1.cost,(-1),q1.to_⟩:Gpage_best),from3+1) h rfl (za7 rfl) (zae [0] kr rfl) ?_
     rintro ⟨n2,all8,to3⟩ h
     cases n2 with
     | zero=>exact zcS h
     | succ n2 =>
      obtain ⟨ag2,hag2⟩:∃ ag,ag=za9 (fun _ _=>none) (zce p1 from3 j2) n2:=⟨_,rfl⟩
      have h:zce p1 from3 j2 ag2 all8 to3=some r:=by rw [hag2]; exact h
      unfold zce at h
      refine zay (zay ?_)
      refine zev (b:=decide ((to3:Int)≤(p1.rows.length:Int))) (fun hb2 => ?_) (fun hb2 => ?_)
      ·
       have h:=zfI hb2 h
       obtain ⟨r1,hq2,h⟩:=zbl h
       refine zbj 12 [(0,33,zI to3),(1,34,zI (p1.rows.length:Int)),(2,35,.bool true),(3,36,.bool true),(4,37,zP bp1),(5,38,zI from3),(6,39,zI to3),(7,40,zI r1),(8,41,zP bp1),(9,42,zP bp1),(10,43,.pointer (some ⟨bp1,4,none⟩)),(11,44,zI p1.heights)] mixed kr kr dc (by rfl) kr kr (zyP 2 0 rfl (zad ?_ (zyP 4 3 rfl (zad ?_ (zyP 1 8 rfl (zad ?_ (zad ?_ (zad ?_ DrawPre.nil)))))))) ?_
       · exact fun D n d c u i=>zbJ rfl dc (zaa (m:=0) u rfl (d 0 dc)) (zaa (m:=1) u rfl (d 1 dc)) zdn (zeW (show Value.bool (decide ((to3:Int)≤(p1.rows.length:Int)))=Value.bool true from congrArg Value.bool hb2) (zaf 2 u i rfl))
       · exact fun D n d c u i=>zbH (v:=zI r1) (vs:=[zP bp1,zI from3,zI to3]) hrd (zdC rfl (zaa (m:=3) u rfl (d 3 dc))) dc rfl (evL.cons (zaa (m:=4) u rfl (d 4 dc)) (evL.cons (zaa (m:=5) u rfl (d 5 dc)) (evL.cons (zaa (m:=6) u rfl (d 6 dc)) evL.nil))) rfl znK (zez (bp1:=bp1) (p1:=p1) (p1_h0:=p1_h0) (p1_h1:=p1_h1) (p1_h2:=p1_h2) (p1_h3:=p1_h3) hq2) (.ro 0 rfl (.ro 1 rfl (.ro 2 rfl (.ro 3 rfl (.ro 4 rfl .nil))))) (zaf 7 u i rfl)
       · exact fun D n d c u i=>zap (zdC rfl (zaa (m:=3) u rfl (d 3 dc))) dc (zaa (m:=8) u rfl (d 8 dc)) (zaf 9 u i rfl)
       · exact fun D n d c u i=>zac zkD (zdC rfl (zaa (m:=3) u rfl (d 3 dc))) dc (zaa (m:=9) u rfl (d 9 dc)) (show _=4 from rfl) (zaf 10 u i rfl)
       · exact fun D n d c u i=>zaS (i:=0) hrd rfl zbC (zdC rfl (zaa (m:=3) u rfl (d 3 dc))) dc (zaa (m:=10) u rfl (d 10 dc)) rfl (zaf 11 u i rfl)
       refine zaO rfl zdn (zyR 1 rfl (zyN ?_))
       refine zyB rfl h (fun h => ?_) (fun h => ?_)
       ·
        refine zat (zaE ?_)
        obtain ⟨j3,hj3,h⟩:=zbw h
        refine zaU (β:=(List Gpage_best)) 0 rfl (fun b=>j3 b=some r) (fun b=>[]) (fun b=>[(0,zP bp1),(4,zI (p1.rows.length:Int)),(5,v2),(6,zI from3),(7,zI to3),(37,zP bp1),(38,zI from3),(39,zI to3),(40,zI r1),(41,zP bp1),(42,zP bp1),(43,.pointer (some ⟨bp1,4,none⟩)),(44,zI p1.heights),(45,.bool (decide ((r1:Int)≤p1.heights)))]) (fun b=>[zv8 v2 b]) (fun cut => ?_) ?_
        ·
         refine cut (zaB ?_)
         obtain ⟨j4,hj4,h⟩:=zbw h
         refine zaU (β:=Int×Int×Nat) 1 rfl (fun b=>j4 b.1 b.2.1=some r) (fun b=>[]) (fun b=>[(0,zP bp1),(4,zI (p1.rows.length:Int)),(5,v2),(6,zI from3),(7,zI to3),(8,zP b.2.2),(37,zP bp1),(38,zI from3),(39,zI to3),(40,zI r1),(41,zP bp1),(42,zP bp1),(43,.pointer (some ⟨bp1,4,none⟩)),(44,zI p1.heights),(45,.bool (decide ((r1:Int)≤p1.heights)))]) (fun b=>[zv8 v2 all8,cells b.2.2 [zI b.1,zI b.2.1,zI to3] 176]) (fun cut => ?_) ?_
         ·
          refine zyG (zyR 1 rfl ?_)
          refine zbg (v:=.agg #[zI 0,zI 1,zI to3]) (ps:=[(1,.const (zI 1)),(2,.tmp 49)]) rfl dc rfl (fun _=>by kernel_rfl) ?_
          refine zbb ziJ rfl dc (fun b4 => ?_)
          refine zaR (k:=1) (vs:=[zI 0,zI 1,zI to3]) (l':=[zI 0,zI 1,zI to3]) zcc rfl rfl rfl rfl rfl (show _≤_ by simp) rfl rfl ?_
          refine zyN (cut (zyG (zyR 2 rfl (zaO rfl zbv (zyN ?_)))))
          refine zyB rfl h (fun h => ?_) (fun h => ?_)
          ·
           refine zay ?_
           obtain ⟨r2,hq3,h⟩:=zbl h
           obtain ⟨hg5,h⟩:=zbs h
           refine zbj 8 [(0,54,zP bp1),(1,55,zP bp1),(2,56,.pointer (some ⟨bp1,4,none⟩)),(3,57,zI p1.heights),(4,58,zP bp1),(5,59,zI from3),(6,60,zI to3),(7,61,zI r2)] mixed kr kr dc (by rfl) kr kr (zyP 1 0 rfl (zad ?_ (zad ?_ (zad ?_ (zyP 3 4 rfl (zad ?_ DrawPre.nil)))))) ?_
           · exact fun D n d c u i=>zap rfl dc (zaa (m:=0) u rfl (d 0 dc)) (zaf 1 u i rfl)
           · exact fun D n d c u i=>zac zkD rfl dc (zaa (m:=1) u rfl (d 1 dc)) (show _=4 from rfl) (zaf 2 u i rfl)
           · exact fun D n d c u i=>zaS (i:=0) hrd rfl zbC rfl dc (zaa (m:=2) u rfl (d 2 dc)) rfl (zaf 3 u i rfl)
           · exact fun D n d c u i=>zbH (v:=zI r2) (vs:=[zP bp1,zI from3,zI to3]) hrd rfl dc rfl (evL.cons (zaa (m:=4) u rfl (d 4 dc)) (evL.cons (zaa (m:=5) u rfl (d 5 dc)) (evL.cons (zaa (m:=6) u rfl (d 6 dc)) evL.nil))) rfl znK (zez (bp1:=bp1) (p1:=p1) (p1_h0:=p1_h0) (p1_h1:=p1_h1) (p1_h2:=p1_h2) (p1_h3:=p1_h3) hq3) (.ro 0 rfl (.ro 1 rfl (.ro 2 rfl (.ro 3 rfl (.ro 4 rfl .nil))))) (zaf 7 u i rfl)
           refine zaO rfl (zbD (r:=p1.heights - r2) (IntWalk.i64_in _ hg5)) (zyR 1 rfl (zyN ?_))
           obtain ⟨hg6,h⟩:=zbs h
           obtain ⟨r3,hq4,h⟩:=zbl h
           obtain ⟨hg7,h⟩:=zbs h
           obtain ⟨q2,hq5,h⟩:=zbl h
           obtain ⟨hg8,h⟩:=zbs h
           obtain ⟨hg9,h⟩:=zbs h
           refine zbj 20 [(0,63,zI (p1.heights - r2)),(1,64,zI (p1.heights - r2)),(2,65,zI ((p1.heights - r2)*(p1.heights - r2))),(3,66,zP bp1),(4,67,zI to3),(5,68,zI r3),(6,69,zI (((p1.heights - r2)*(p1.heights - r2))+r3)),(7,70,v2),(8,71,zI to3),(9,72,.pointer (some ⟨zcL v2,(to3:Int).toNat*3,none⟩)),(10,73,.pointer (some ⟨zcL v2,((to3:Int).toNat)*3,none⟩)),(11,74,zI q2.cost),(12,75,zI ((((p1.heights - r2)*(p1.heights - r2))+r3)+q2.cost)),(13,76,v2),(14,77,zI to3),(15,78,.pointer (some ⟨zcL v2,(to3:Int).toNat*3,none⟩)),(16,79,.pointer (some ⟨zcL v2,((to3:Int).toNat)*3+1,none⟩)),(17,80,zI q2.rows),(18,81,zI (q2.rows+1)),(19,82,zI to3)] mixed kr kr dc (by rfl) kr kr (zyP 2 0 rfl (zad ?_ (zyP 2 3 rfl (zad ?_ (zad ?_ (zyP 2 7 rfl (zad ?_ (zad ?_ (zad ?_ (zad ?_ (zyP 2 13 rfl (zad ?_ (zad ?_ (zad ?_ (zad ?_ (zyP 1 19 rfl DrawPre.nil)))))))))))))))) ?_
           · exact fun D n d c u i=>zbJ rfl dc (zaa (m:=0) u rfl (d 0 dc)) (zaa (m:=1) u rfl (d 1 dc)) (zlJ (r:=(p1.heights - r2)*(p1.heights - r2)) (IntWalk.i64_in _ hg6)) (zaf 2 u i rfl)
           · exact fun D n d c u i=>zbH (v:=zI r3) (vs:=[zP bp1,zI to3]) hrd rfl dc rfl (evL.cons (zaa (m:=3) u rfl (d 3 dc)) (evL.cons (zaa (m:=4) u rfl (d 4 dc)) evL.nil)) rfl zoL (zgs (bp1:=bp1) (p1:=p1) (p1_h0:=p1_h0) (p1_h1:=p1_h1) (p1_h2:=p1_h2) (p1_h3:=p1_h3) hq4) (.ro 0 rfl (.ro 1 rfl (.ro 2 rfl (.ro 3 rfl (.ro 4 rfl .nil))))) (zaf 5 u i rfl)
           · exact fun D n d c u i=>zbJ rfl dc (zaa (m:=2) u rfl (d 2 dc)) (zaa (m:=5) u rfl (d 5 dc)) (zaT (r:=((p1.heights - r2)*(p1.heights - r2))+r3) (IntWalk.i64_in _ hg7)) (zaf 6 u i rfl)
           · exact fun D n d c u i=>zaM (k:=0) hq5 Tryz.underlying174 zcc rfl dc (zaa (m:=7) u rfl (d 7 dc)) (zaa (m:=8) u rfl (d 8 dc)) rfl rfl (zaf 9 u i rfl)
           · exact fun D n d c u i=>zac zdp rfl dc (zaa (m:=9) u rfl (d 9 dc)) (show _=((to3:Int).toNat)*3 from rfl) (zaf 10 u i rfl)
           · exact fun D n d c u i=>zbi (i:=(to3:Int).toNat) (j:=0) (k:=0) (q:=q2) zbC zaF rfl dc (zaa (m:=10) u rfl (d 10 dc)) rfl (za4 hq5) rfl dc rfl (zaf 11 u i rfl)
           · exact fun D n d c u i=>zbJ rfl dc (zaa (m:=6) u rfl (d 6 dc)) (zaa (m:=11) u rfl (d 11 dc)) (zaT (r:=(((p1.heights - r2)*(p1.heights - r2))+r3)+q2.cost) (IntWalk.i64_in _ hg8)) (zaf 12 u i rfl)
           · exact fun D n d c u i=>zaM (k:=0) hq5 Tryz.underlying174 zcc rfl dc (zaa (m:=13) u rfl (d 13 dc)) (zaa (m:=14) u rfl (d 14 dc)) rfl rfl (zaf 15 u i rfl)
           · exact fun D n d c u i=>zac zdK rfl dc (zaa (m:=15) u rfl (d 15 dc)) (show _=((to3:Int).toNat)*3+1 from rfl) (zaf 16 u i rfl)
           · exact fun D n d c u i=>zbi (i:=(to3:Int).toNat) (j:=1) (k:=0) (q:=q2) zbC zaF rfl dc (zaa (m:=16) u rfl (d 16 dc)) rfl (za4 hq5) rfl dc rfl (zaf 17 u i rfl)
           · exact fun D n d c u i=>zbJ rfl dc (zaa (m:=17) u rfl (d 17 dc)) rfl (zaT (r:=q2.rows+1) (IntWalk.i64_in _ hg9)) (zaf 18 u i rfl)
           refine zbg (v:=.agg #[zI ((((p1.heights - r2)*(p1.heights - r2))+r3)+q2.cost),zI (q2.rows+1),zI to3]) (ps:=[(0,.tmp 75),(1,.tmp 81),(2,.tmp 82)]) rfl dc rfl (fun _=>by kernel_rfl) ?_
           refine zaR (k:=1) (vs:=[zI ((((p1.heights - r2)*(p1.heights - r2))+r3)+q2.cost),zI (q2.rows+1),zI to3]) (l':=[zI ((((p1.heights - r2)*(p1.heights - r2))+r3)+q2.cost),zI (q2.rows+1),zI to3]) zcc rfl rfl rfl rfl rfl (show _≤_ by simp) rfl rfl (zaV ?_)
           exact zaq ((((p1.heights - r2)*(p1.heights - r2))+r3)+q2.cost,q2.rows+1,b4) h rfl (za7 rfl) (zae [0,1] kr rfl)
          refine zat ?_
          exact zaq (0,1,b4) h rfl (za7 rfl) (zae [0,1] kr rfl)
         rintro ⟨b2,b3,b1⟩ h
         rw [hj4] at h
         refine zyG (zyR 2 rfl ?_)
         obtain ⟨q3,hq6,h⟩:=zbl h
         refine zaM (k:=0) hq6 Tryz.underlying174 zcc rfl dc rfl rfl rfl rfl (zgg (i:=(from3:Int).toNat) (j:=0) (k:=0) (q:=q3) (cs:=(zr6 q3)) zhs zaF rfl dc rfl rfl (za4 hq6) rfl rfl rfl ?_)
         refine zbb ziJ rfl dc (fun b5 => ?_)
         refine zaR (k:=2) (vs:=(zr6 q3)) (l':=(zr6 q3)) zcc rfl rfl rfl rfl rfl (show _≤_ by simp) rfl rfl ?_
         refine zyH (zac zdK rfl dc rfl (show _=1 from rfl) (zan (k:=2) zbC rfl dc rfl rfl rfl (zaO rfl zbv (zyR 1 rfl ?_))))
         refine zyS (s:=91) rfl h (fun h => ?_) (fun h => ?_)
         ·
          refine zyR 14 rfl ?_
          refine zyR 6 rfl (zyN (za0 rfl (zaA (zyR 2 rfl (zaY (k:=1) (cs:=[zI b2,zI b3,zI to3]) zhs rfl dc rfl rfl rfl rfl ?_)))))
          obtain ⟨q4,hq7,h⟩:=zbl h
          refine zaM (k:=0) hq7 Tryz.underlying174 zcc rfl dc rfl rfl rfl rfl ?_
          refine zdy (i:=(from3:Int).toNat) (j:=0) (k:=0) (q:=q4) (q':=(⟨b2,b3,to3⟩:Gpage_best)) (vs:=[zI b2,zI b3,zI to3]) zcc zaF rfl rfl rfl rfl (za4 hq7) rfl dc rfl rfl (fun m=>[q4,(⟨b2,q4.rows,q4.to_⟩:Gpage_best),(⟨b2,b3,q4.to_⟩:Gpage_best),(⟨b2,b3,to3⟩:Gpage_best)].getD m q4) rfl rfl (by intro m hm; rcases m with _ | _ | _ | m <;> first | rfl | (exfalso; omega)) ?_
          refine zaV (zai ?_)
          exact zaq (all8.set (from3:Int).toNat (⟨b2,b3,to3⟩:Gpage_best)) h rfl (za7 rfl) (zae [0] kr rfl)
         refine zac zdp rfl dc rfl (show _=0 from rfl) (zan (k:=1) zbC rfl dc rfl rfl rfl (zac zdp rfl dc rfl (show _=0 from rfl) (zan (k:=2) zbC rfl dc rfl rfl rfl (zaO rfl zbv (zyR 2 rfl ?_)))))
         refine zyS (s:=98) rfl h (fun h => ?_) (fun h => ?_)
         ·
          refine zyR 13 rfl (zaV ?_)
          refine zaE (za0 rfl (zaA (zyR 2 rfl (zaY (k:=1) (cs:=[zI b2,zI b3,zI to3]) zhs rfl dc rfl rfl rfl rfl ?_))))
          obtain ⟨q5,hq8,h⟩:=zbl h
          refine zaM (k:=0) hq8 Tryz.underlying174 zcc rfl dc rfl rfl rfl rfl ?_
          refine zdy (i:=(from3:Int).toNat) (j:=0) (k:=0) (q:=q5) (q':=(⟨b2,b3,to3⟩:Gpage_best)) (vs:=[zI b2,zI b3,zI to3]) zcc zaF rfl rfl rfl rfl (za4 hq8) rfl dc rfl rfl (fun m=>[q5,(⟨b2,q5.rows,q5.to_⟩:Gpage_best),(⟨b2,b3,q5.to_⟩:Gpage_best),(⟨b2,b3,to3⟩:Gpage_best)].getD m q5) rfl rfl (by intro m hm; rcases m with _ | _ | _ | m <;> first | rfl | (exfalso; omega)) ?_
          refine zaV (zai ?_)
          exact zaq (all8.set (from3:Int).toNat (⟨b2,b3,to3⟩:Gpage_best)) h rfl (za7 rfl) (zae [0] kr rfl)
         refine zac zdp rfl dc rfl (show _=0 from rfl) (zan (k:=1) zbC rfl dc rfl rfl rfl (zac zdp rfl dc rfl (show _=0 from rfl) (zan (k:=2) zbC rfl dc rfl rfl rfl (zaO rfl zaP (zyR 1 rfl ?_)))))
         refine zyS (s:=104) rfl h (fun h => ?_) (fun h => ?_)
         ·
          refine zac zdK rfl dc rfl (show _=1 from rfl) (zan (k:=1) zbC rfl dc rfl rfl rfl (zac zdK rfl dc rfl (show _=1 from rfl) (zan (k:=2) zbC rfl dc rfl rfl rfl (zaO rfl zdn (zyR 2 rfl (zyN ?_))))))
          refine zyB rfl h (fun h => ?_) (fun h => ?_)
          ·
           refine zaA (zyR 2 rfl (zaY (k:=1) (cs:=[zI b2,zI b3,zI to3]) zhs rfl dc rfl rfl rfl rfl ?_))
           obtain ⟨q6,hq9,h⟩:=zbl h
           refine zaM (k:=0) hq9 Tryz.underlying174 zcc rfl dc rfl rfl rfl rfl ?_
           refine zdy (i:=(from3:Int).toNat) (j:=0) (k:=0) (q:=q6) (q':=(⟨b2,b3,to3⟩:Gpage_best)) (vs:=[zI b2,zI b3,zI to3]) zcc zaF rfl rfl rfl rfl (za4 hq9) rfl dc rfl rfl (fun m=>[q6,(⟨b2,q6.rows,q6.to_⟩:Gpage_best),(⟨b2,b3,q6.to_⟩:Gpage_best),(⟨b2,b3,to3⟩:Gpage_best)].getD m q6) rfl rfl (by intro m hm; rcases m with _ | _ | _ | m <;> first | rfl | (exfalso; omega)) ?_
           refine zaV (zai ?_)
           exact zaq (all8.set (from3:Int).toNat (⟨b2,b3,to3⟩:Gpage_best)) h rfl (za7 rfl) (zae [0] kr rfl)
          refine zat (zai ?_)
          exact zaq all8 h rfl (za7 rfl) (zae [0] kr rfl)
         refine zyR 7 rfl (zyN (zaL rfl (zat (zai ?_))))
         exact zaq all8 h rfl (za7 rfl) (zae [0] kr rfl)
        rintro all9 h
        rw [hj3] at h
        refine zaA (zyR 1 rfl ?_)
        obtain ⟨hg10,h⟩:=zbs h
        refine zaO rfl (zaT (r:=to3+1) (IntWalk.i64_in _ hg10)) (zyR 1 rfl (zaV ?_))
        subst hag2
        exact zaZ (n2,all9,to3+1) h (Nat.lt_succ_self _) rfl (za7 rfl) (zae [0] kr rfl)
       refine za6 (zao (zao (zaw (zai ?_))))
       exact zaq all8 h rfl (za7 rfl) (zae [0] kr rfl)
      have h:=zfJ hb2 h
      refine zbj 12 [(0,33,zI to3),(1,34,zI (p1.rows.length:Int)),(2,35,.bool false),(3,36,.bool false),(4,37,undef),(5,38,undef),(6,39,undef),(7,40,undef),(8,41,undef),(9,42,undef),(10,43,undef),(11,44,undef)] mixed kr kr dc (by rfl) kr kr (zyP 2 0 rfl (zad ?_ (zyP 9 3 rfl DrawPre.nil))) ?_
      · exact fun D n d c u i=>zbJ rfl dc (zaa (m:=0) u rfl (d 0 dc)) (zaa (m:=1) u rfl (d 1 dc)) zdn (zeW (show Value.bool (decide ((to3:Int)≤(p1.rows.length:Int)))=Value.bool false from congrArg Value.bool hb2) (zaf 2 u i rfl))
      refine zyR 2 rfl (zyN (zaL rfl (za6 (zao (zao (zaw (zai ?_)))))))
      exact zaq all8 h rfl (za7 rfl) (zae [0] kr rfl)
    rintro all5 h
    rw [hj2] at h
    refine zaA (zyR 1 rfl ?_)
    obtain ⟨hg11,h⟩:=zbs h
    refine zaO rfl (zbD (r:=from3 - 1) (IntWalk.i64_in _ hg11)) (zyR 1 rfl (zaV ?_))
    subst hag1
    exact zaZ (n1,all5,from3 - 1) h (Nat.lt_succ_self _) rfl (za7 rfl) (zae [0] kr rfl)
   refine za6 (zao (zao (zaw ?_)))
   exact zaq (all4,v2) h rfl (za7 rfl) (zae [0] kr rfl)
 rintro ⟨all1,v1⟩ h
 rw [hj1] at h
 obtain ⟨j5,hj5,h⟩:=zbw h
 refine zaU (β:=(List Int)×Hd) 1 rfl (fun b=>j5 b.1=some r) (fun b=>[]) (fun b=>[(5,v1),(11,b.2.v)]) (fun b=>[zv8 v1 all1,zv0 b.2.v b.1]) (fun cut => ?_) ?_
 ·
  refine zyG (zyR 1 rfl (zyN (cut (zyG (zyR 1 rfl (zyN (zaB (zdQ (enc:=(zmh (.i64))) (e:=3) (size:=1) ?_))))))))
  refine zbm (β:=Nat×(List Int)×Int×Hd) (fun b=>za9 (fun _ _=>none) (zcd p1 all1 j5) b.1 b.2.1 b.2.2.1=some r) (fun b=>[]) (fun b=>[(4,zI (p1.rows.length:Int)),(5,v1),(11,b.2.2.2.v),(12,zI b.2.2.1)]) (fun b=>[zv8 v1 all1,zv0 b.2.2.2.v b.2.1]) (fun b=>b.1) (zcN,([]:List Int),0,Hd.nil) h rfl (za7 rfl) (zae [0,1] kr rfl) ?_
  rintro ⟨n3,out4,from6,hd4⟩ h
  cases n3 with
  | zero=>exact zcS h
  | succ n3 =>
   obtain ⟨ag3,hag3⟩:∃ ag,ag=za9 (fun _ _=>none) (zcd p1 all1 j5) n3:=⟨_,rfl⟩
   have h:zcd p1 all1 j5 ag3 out4 from6=some r:=by rw [hag3]; exact h
   unfold zcd at h
   refine zay (zyG (zyR 2 rfl (zaO rfl zbv (zyN ?_))))
   refine zyB rfl h (fun h => ?_) (fun h => ?_)
   ·
    refine zat (zaE (zay (zaB (zaA (zyR 3 rfl ?_)))))
    obtain ⟨q7,hq10,h⟩:=zbl h
    refine zaM (k:=0) hq10 Tryz.underlying174 zcc rfl dc rfl rfl rfl rfl (zac zhS rfl dc rfl (show _=((from6:Int).toNat)*3+2 from rfl) (zbi (i:=(from6:Int).toNat) (j:=2) (k:=0) (q:=q7) zbC zaF rfl dc rfl rfl (za4 hq10) rfl dc rfl ?_))
    refine za1 (cs:=[zI q7.to_]) (te:=3) (ps:=[(0,.tmp 129)]) rfl dc rfl (fun _=>by kernel_rfl) (fun b6 => ?_)
    obtain ⟨hg12,h⟩:=zbs h
    refine zbc (k:=1) (k2:=2) (ys:=[q7.to_]) Tryz.underlying49 zm4 zbX zfg rfl dc rfl rfl rfl rfl rfl rfl hg12 (fun v3 => ?_)
    refine zbo (k:=1) rfl (fun hd5 he1 => ?_)
    subst he1
    refine zyR 1 rfl (zaV (zai (zaE (zaA (zyR 2 rfl ?_)))))
    obtain ⟨q8,hq11,h⟩:=zbl h
    refine zaM (k:=0) hq11 Tryz.underlying174 zcc rfl dc rfl rfl rfl rfl (zac zhS rfl dc rfl (show _=((from6:Int).toNat)*3+2 from rfl) (zbi (i:=(from6:Int).toNat) (j:=2) (k:=0) (q:=q8) zbC zaF rfl dc rfl rfl (za4 hq11) rfl dc rfl (zyR 1 rfl (zaV ?_))))
    subst hag3
    exact zaZ (n3,out4++[q7.to_],q8.to_,hd5) h (Nat.lt_succ_self _) rfl (za7 rfl) (zae [0,1] kr rfl)
   refine za6 (zao (zao (zaw ?_)))
   exact zaq (out4,hd4) h rfl (za7 rfl) (zae [0,1] kr rfl)
 rintro ⟨out1,hd1⟩ h
 rw [hj5] at h
 refine zay ?_
 obtain ⟨q9,hq12,h⟩:=zbl h
 refine zbj 6 [(0,132,hd1.v),(1,133,v1),(2,134,.pointer (some ⟨zcL v1,(0:Int).toNat*3,none⟩)),(3,135,.pointer (some ⟨zcL v1,((0:Int).toNat)*3,none⟩)),(4,136,zI q9.cost),(5,2,hd1.v)] mixed kr kr dc (by rfl) kr kr (zyP 2 0 rfl (zad ?_ (zad ?_ (zad ?_ (zyP 1 5 rfl DrawPre.nil))))) ?_
 · exact fun D n d c u i=>zaM (k:=0) hq12 Tryz.underlying174 zcc rfl dc (zaa (m:=1) u rfl (d 1 dc)) rfl rfl rfl (zaf 2 u i rfl)
 · exact fun D n d c u i=>zac zdp rfl dc (zaa (m:=2) u rfl (d 2 dc)) (show _=((0:Int).toNat)*3 from rfl) (zaf 3 u i rfl)
 · exact fun D n d c u i=>zbi (i:=(0:Int).toNat) (j:=0) (k:=0) (q:=q9) zbC zaF rfl dc (zaa (m:=3) u rfl (d 3 dc)) rfl (za4 hq12) rfl dc rfl (zaf 4 u i rfl)
 refine zyR 1 rfl (zyN (zau ?_))
 cases h
 exact zaC (rs:=[.tmp 2,.tmp 3]) hd1.v (.inl rfl) Tryz.results66 (.cons (.tmp rfl) (.cons (.tmp rfl) .nil)) rfl (zae [1] kr rfl)
def zcg (l1:Gapi_Layout) (x2:Int×Gapi_Verse) (ag1:(List Gapi_Row)→(List Int)→(List Int)→(List Int)→Int→Option (Int×Gpage_parter)) (cost4:Int) (l18:List Int) (l19:List Int) (r2:((List ByteArray)×Int)) (ag2:(List Gapi_Row)→(List Int)→Int→Option (Int×Gpage_parter)) (l24:List Gapi_Row) (l25:List Int) (x5:Int):Option (Int×Gpage_parter) :=
zav (decide ((x5:Int)<(r2.1.length:Int))) (
zbp (fun (j3:Int→Int→ByteArray→Option (Int×Gpage_parter)) =>
zar (zc9 r2.1 x5) fun (q2:ByteArray) =>
zav ((x5:Int)==0) (
zav (decide ((0:Int)<l1.Every)) (
grd (I64 (x2.1+1)) <|
grd (l1.Every≠0) <|
zav (((Int.tmod (x2.1+1) l1.Every):Int)==0) (
grd (I64 (x2.1+1)) <|
j3 x2.2.Indent (x2.1+1) q2
) (
j3 x2.2.Indent 0 q2
)
) (
j3 x2.2.Indent 0 q2
)
) (
j3 l1.Turn 0 q2
)
) (fun (r3:Int) (r4:Int) (r5:ByteArray) =>
grd (l24.length+1≤2147483648) <|
grd (l25.length+1≤2147483648) <|
grd (I64 (x5+1)) <|
ag2 (l24++[(⟨x2.1,x2.2.Stanza,x5,r3,r4,r5⟩:Gapi_Row)]) (l25++[x2.2.Stanza]) (x5+1)
)
) (
ag1 l24 l25 l18 (l19.set (x2.2.Stanza:Int).toNat x2.1) (cost4+r2.2)
)
def zch (l1:Gapi_Layout) (x2:Int×Gapi_Verse) (ag1:(List Gapi_Row)→(List Int)→(List Int)→(List Int)→Int→Option (Int×Gpage_parter)) (l14:List Gapi_Row) (l15:List Int) (l16:List Int) (l17:List Int) (cost4:Int):Option (Int×Gpage_parter) :=
zbp (fun (j2:(List Int)→(List Int)→Option (Int×Gpage_parter)) =>
zav ((x2.2.Stanza:Int)==(l16.length:Int)) (
grd (l16.length+1≤2147483648) <|
grd (l17.length+1≤2147483648) <|
j2 (l16++[x2.1]) (l17++[x2.1])
) (
j2 l16 l17
)
) (fun (l18:List Int) (l19:List Int) =>
zar (zc9 l19 x2.2.Stanza) fun (q1:Int) =>
zar (zfc x2.2.Text x2.2.Indent l1) fun (r2:((List ByteArray)×Int)) =>
grd (I64 (cost4+r2.2)) <|
za9 (fun _ _ _=>none) (zcg l1 x2 ag1 cost4 l18 l19 r2) zcN l14 l15 0
)
def zdu (p1:Gpage_parter) (x1:Gpoem_Poem) (l1:Gapi_Layout):Option (Int×Gpage_parter) :=
zbp (fun (j1:(List Gapi_Row)→(List Int)→(List Int)→(List Int)→Int→Option (Int×Gpage_parter)) =>
zar (zei x1) fun (r1:Unit) =>
zar (zdF x1) fun (its1:(List (Int×Gapi_Verse))) =>
zbp (fun (dn1:(List Gapi_Row)→(List Int)→(List Int)→(List Int)→Int→Option (Int×Gpage_parter)) =>
zdE dn1 (zch l1) its1 p1.rows p1.blanks p1.firsts p1.lasts 0
) (fun (l14:List Gapi_Row) (l15:List Int) (l16:List Int) (l17:List Int) (cost4:Int) =>
j1 l14 l15 l16 l17 cost4
)
) (fun (l2:List Gapi_Row) (l3:List Int) (l4:List Int) (l5:List Int) (cost1:Int) =>
some (cost1,(⟨l2,l3,l4,l5,p1.heights⟩:Gpage_parter))
)
theorem zfV {bp1:Nat} {p1:Gpage_parter} {p1_h0 p1_h1 p1_h2 p1_h3:Hd} {bx1:Nat} {x1:Gpoem_Poem} {x1_h0 x1_h1:Hd} {l1:Gapi_Layout} {r:(Int×Gpage_parter)} (h:zdu p1 x1 l1=some r):FnR Tryz.prog 65 [zP bp1,zP bx1,.agg (zr0 l1).toArray] [cells bx1 [.string x1.told_title,x1_h0.v,x1_h1.v,.string x1.source] 106,zv6 x1_h0.v x1.told_lines,zv7 x1_h1.v x1.told_stanzas] [cells bp1 [p1_h0.v,p1_h1.v,p1_h2.v,p1_h3.v,zI p1.heights] 131,zv1 p1_h0.v p1.rows,zv0 p1_h1.v p1.blanks,zv0 p1_h2.v p1.firsts,zv0 p1_h3.v p1.lasts] (fun b:Hd×Hd×Hd×Hd=>zI r.1) (fun b=>[cells bp1 [b.1.v,b.2.1.v,b.2.2.1.v,b.2.2.2.v,zI r.2.heights] 131,zv1 b.1.v r.2.rows,zv0 b.2.1.v r.2.blanks,zv0 b.2.2.1.v r.2.firsts,zv0 b.2.2.2.v r.2.lasts]):=by
 unfold zdu at h
 refine FnR.intro Tryz.func65 rfl Tryz.ntmps65 (by simp) ?_
 intro w0 K hrd
 refine zfR ?_
 obtain ⟨j1,hj1,h⟩:=zbw h
 refine zaU (β:=(List Gapi_Row)×(List Int)×(List Int)×(List Int)×Int×Hd×Hd×Hd×Hd×Nat×(List Nat)) 2 rfl (fun b=>j1 b.1 b.2.1 b.2.2.1 b.2.2.2.1 b.2.2.2.2.1=some r) (fun b=>zeC b.2.2.2.2.2.2.2.2.2.2) (fun b=>[(7,zP b.2.2.2.2.2.2.2.2.2.1)]) (fun b=>[cells bp1 [b.2.2.2.2.2.1.v,b.2.2.2.2.2.2.1.v,b.2.2.2.2.2.2.2.1.v,b.2.2.2.2.2.2.2.2.1.v,zI p1.heights] 131,zv1 b.2.2.2.2.2.1.v b.1,zv0 b.2.2.2.2.2.2.1.v b.2.1,zv0 b.2.2.2.2.2.2.2.1.v b.2.2.1,zv0 b.2.2.2.2.2.2.2.2.1.v b.2.2.2.1,cells b.2.2.2.2.2.2.2.2.2.1 [zI b.2.2.2.2.1] 3,zfS ((b.2.2.2.2.2.2.2.2.2.2:List Nat).map zhD)]) (fun cut => ?_) ?_
 ·
  refine zyG ?_
  refine zcP rfl dc rfl (fun b2 => ?_)
  refine zcP rfl dc rfl (fun b3 => ?_)
  refine zyR 1 rfl (zyH ?_)
  refine zbb zox rfl dc (fun b4 => ?_)
  refine zaG (k:=8) (l':=[zI 0]) zeX rfl rfl rfl rfl rfl (fun _ _=>rfl) rfl ?_
  refine zyN (cut (zyG (zyR 1 rfl ?_)))
  obtain ⟨r1,hq1,h⟩:=zbl h
  refine zd6 (vs:=[zP bx1]) hrd rfl dc rfl rfl rfl zoM (zg1 (bp1:=bx1) (p1:=x1) (p1_h0:=x1_h0) (p1_h1:=x1_h1) hq1) Splits.nil (.ro 0 rfl (.ro 1 rfl (.ro 2 rfl .nil))) ?_
  rintro b5
  refine zbM (L':=[cells bp1 [p1_h0.v,p1_h1.v,p1_h2.v,p1_h3.v,zI p1.heights] 131,zv1 p1_h0.v p1.rows,zv0 p1_h1.v p1.blanks,zv0 p1_h2.v p1.firsts,zv0 p1_h3.v p1.lasts,zfS ((([]:List Nat):List Nat).map zhD),cells b2 [zP bp1] 129,cells b3 (zr0 l1) 23,cells b4 [zI 0] 3,cells b5 [zP bx1] 58]) (zae [0,1,2,3,4,5,6,7,8,9] kr rfl) (zyN (zaB ?_))
  obtain ⟨its1,hq2,h⟩:=zbl h
  obtain ⟨dn1,hdn1,h⟩:=zbw h
  refine zgT (α:=Int×Gapi_Verse) (β:=(List Gapi_Row)×(List Int)×(List Int)×(List Int)×Int×Hd×Hd×Hd×Hd) (γ:=Unit) (δ:=Nat) (ps:=[17,18]) hrd Ro.nil rfl zn3 (zfT hq2) (fun pre b=>∀ post,its1=pre++post→zdE dn1 (zch l1) post b.1 b.2.1 b.2.2.1 b.2.2.2.1 b.2.2.2.2.1=some r) (fun pre b=>[cells bp1 [b.2.2.2.2.2.1.v,b.2.2.2.2.2.2.1.v,b.2.2.2.2.2.2.2.1.v,b.2.2.2.2.2.2.2.2.v,zI p1.heights] 131,zv1 b.2.2.2.2.2.1.v b.1,zv0 b.2.2.2.2.2.2.1.v b.2.1,zv0 b.2.2.2.2.2.2.2.1.v b.2.2.1,zv0 b.2.2.2.2.2.2.2.2.v b.2.2.2.1,cells b2 [zP bp1] 129,cells b3 (zr0 l1) 23,cells b4 [zI b.2.2.2.2.1] 3]) (fun c pre g=>False) (fun c pre g=>[]) (fun pre x b j=>[(3,zP b2),(5,zP b3),(6,zI 0),(7,zP b4),(16,.func (.func 115) #[] #[zP b5]),(8,zI x.1),(9,zP j)]) (fun pre x b j=>[cells bp1 [b.2.2.2.2.2.1.v,b.2.2.2.2.2.2.1.v,b.2.2.2.2.2.2.2.1.v,b.2.2.2.2.2.2.2.2.v,zI p1.heights] 131,zv1 b.2.2.2.2.2.1.v b.1,zv0 b.2.2.2.2.2.2.1.v b.2.1,zv0 b.2.2.2.2.2.2.2.1.v b.2.2.1,zv0 b.2.2.2.2.2.2.2.2.v b.2.2.2.1,cells b2 [zP bp1] 129,cells b3 (zr0 l1) 23,cells b4 [zI b.2.2.2.2.1] 3,cells j (zr3 x.2) 76]) (p1.rows,p1.blanks,p1.firsts,p1.lasts,0,p1_h0,p1_h1,p1_h2,p1_h3) (fun post e=>by rw [List.nil_append] at e; subst e; exact h) (zae [0,1,2,3,4,6,7,8] kr rfl) (.own (As:=[cells b5 [zP bx1] 58]) (zae [9] (by kernel_rfl) rfl) (fun _ _ h=>sepL.one1.1 h) (.ro 0 rfl (.ro 1 rfl (.ro 2 rfl .nil)))) (fun _=>rfl) dc ?_ ?_ ?_ ?_
  ·
   rintro lp rc pre x2 post ⟨l14,l15,l16,l17,cost4,hd13,hd14,hd15,hd16⟩ w1 K1 hxs1 hext hro hinv
   have hrd:=hrd.ext hext
   refine zyG (zyR 1 rfl (zyN (zaA ?_)))
   refine zbb zlV rfl dc (fun b6 => ?_)
   refine zaR (k:=8) (vs:=(zr3 x2.2)) (l':=(zr3 x2.2)) zj7 rfl rfl rfl rfl rfl (show _≤_ by simp) rfl rfl ?_
   refine zaV ?_
   exact fun a w ha hw=>⟨b6,(za7 rfl) _ _ _ ha,hw.weaken (zae [0,1,2,3,4,5,6,7,8] kr rfl)⟩
  ·
   rintro lp rc pre x2 post1 ⟨l14,l15,l16,l17,cost4,hd13,hd14,hd15,hd16⟩ jb1 w1 K1 hxs1 hext hro hinv
   have hrd:=hrd.ext hext
   have h:=hinv (x2::post1) hxs1
   obtain ⟨ag1,hag1⟩:∃ ag,ag=zdE dn1 (zch l1) post1:=⟨_,rfl⟩
   have h:zch l1 x2 ag1 l14 l15 l16 l17 cost4=some r:=by rw [hag1]; exact h
   unfold zch at h
   refine zaB ?_
   obtain ⟨j2,hj2,h⟩:=zbw h
   refine zaU (β:=(List Int)×(List Int)×Hd×Hd) 0 rfl (fun b=>j2 b.1 b.2.1=some r) (fun b=>[]) (fun b=>[(3,zP b2),(5,zP b3),(6,zI 0),(7,zP b4),(8,zI x2.1),(9,zP jb1),(16,.func (.func 115) #[] #[zP b5])]) (fun b=>[cells bp1 [hd13.v,hd14.v,b.2.2.1.v,b.2.2.2.v,zI p1.heights] 131,zv1 hd13.v l14,zv0 hd14.v l15,zv0 b.2.2.1.v b.1,zv0 b.2.2.2.v b.2.1,cells b2 [zP bp1] 129,cells b3 (zr0 l1) 23,cells b4 [zI cost4] 3,cells jb1 (zr3 x2.2) 76]) (fun cut => ?_) ?_
   ·
    refine cut (zay ?_)
    refine zbj 7 [(0,19,.pointer (some ⟨jb1,2,none⟩)),(1,20,zI x2.2.Stanza),(2,21,zP bp1),(3,22,zP bp1),(4,23,.pointer (some ⟨bp1,2,none⟩)),(5,24,hd15.v),(6,25,zI (l16.length:Int))] mixed kr kr dc (by rfl) kr kr (zad ?_ (zad ?_ (zad ?_ (zad ?_ (zad ?_ (zad ?_ (zad ?_ DrawPre.nil))))))) ?_
    · exact fun D n d c u i=>zac zg6 rfl dc (zba (by rfl) rfl) (show _=2 from rfl) (zaf 0 u i rfl)
    · exact fun D n d c u i=>zan (k:=8) zbC rfl dc (zaa (m:=0) u rfl (d 0 dc)) rfl rfl (zaf 1 u i rfl)
    · exact fun D n d c u i=>zan (k:=5) zfX rfl dc (zba (by rfl) rfl) rfl rfl (zaf 2 u i rfl)
    · exact fun D n d c u i=>zap rfl dc (zaa (m:=2) u rfl (d 2 dc)) (zaf 3 u i rfl)
    · exact fun D n d c u i=>zac zgC rfl dc (zaa (m:=3) u rfl (d 3 dc)) (show _=2 from rfl) (zaf 4 u i rfl)
    · exact fun D n d c u i=>zan (k:=0) zfq rfl dc (zaa (m:=4) u rfl (d 4 dc)) rfl rfl (zaf 5 u i rfl)
    · exact fun D n d c u i=>zcr (k:=3) rfl dc (zaa (m:=5) u rfl (d 5 dc)) rfl Tryz.underlying49 (zaf 6 u i rfl)
    refine zaO rfl zaP (zyN ?_)
    refine zyB rfl h (fun h => ?_) (fun h => ?_)
    ·
     obtain ⟨hg1,h⟩:=zbs h
     obtain ⟨hg2,h⟩:=zbs h
     refine ze5 2 ?_
     refine let vals1:(Nat×Hd×Nat×Hd)→List (Nat×Nat×Value):=fun b=>[(0,27,zP bp1),(1,28,zP bp1),(2,29,zP bp1),(3,30,zP bp1),(4,31,.pointer (some ⟨bp1,2,none⟩)),(5,32,hd15.v),(6,33,zI x2.1),(7,34,.slice (some ⟨b.1,0,none⟩) 1 1),(8,35,b.2.1.v),(9,36,zP bp1),(10,37,zP bp1),(11,38,.pointer (some ⟨bp1,3,none⟩)),(12,39,hd16.v),(13,40,zI x2.1),(14,41,.slice (some ⟨b.2.2.1,0,none⟩) 1 1),(15,42,b.2.2.2.v),(16,43,zP bp1),(17,44,.pointer (some ⟨bp1,2,none⟩))]; let LL1:(Nat→Prop)→(Nat×Hd×Nat×Hd)→List Asn:=fun D b=>[eD D (cells bp1 [hd13.v,hd14.v,hd15.v,hd16.v,zI p1.heights] 131) [(18,cells bp1 [hd13.v,hd14.v,b.2.1.v,hd16.v,zI p1.heights] 131)],zv1 hd13.v l14,zv0 hd14.v l15,eD D (zv0 hd15.v l16) [(8,zv0 b.2.1.v (l16++[x2.1]))],eD D (zv0 hd16.v l17) [(15,zv0 b.2.2.2.v (l17++[x2.1]))],cells b2 [zP bp1] 129,cells b3 (zr0 l1) 23,cells b4 [zI cost4] 3,cells jb1 (zr3 x2.2) 76,eD D emp [(7,cells b.1 [zI x2.1] 3)],eD D emp [(14,cells b.2.2.1 [zI x2.1] 3)]]; ?_
     have zhq:zyQ [7,8,14,15,18] LL1:=fun i h D b=>zab (ziw rfl h) (zab rfl (zab rfl (zab (ziw rfl h) (zab (ziw rfl h) (zab rfl (zab rfl (zab rfl (zab rfl (zab (ziw rfl h) (zab (ziw rfl h) rfl))))))))))
     refine zc3 (β:=Nat×Hd×Nat×Hd) 19 ((0:Nat),Hd.nil,(0:Nat),Hd.nil) vals1 LL1 mixed kr kr dc (fun _=>rfl) (zab zbr (zdd (zab zbr (zab zbr (zdr (zab zbr (zab zbr rfl))))))) (zgV zhq rfl (fun _=>rfl) (fun _=>rfl) ?_ (zgV zhq rfl (fun _=>rfl) (fun _=>rfl) ?_ (zgV zhq rfl (fun _=>rfl) (fun _=>rfl) ?_ (zyq zhq rfl (fun _=>rfl) (fun _=>rfl) ?_ (zyq zhq rfl (fun _=>rfl) (fun _=>rfl) ?_ (zgV zhq rfl (fun _=>rfl) (fun _=>rfl) ?_ (zj4 zhq (fun _=>rfl) (fun _=>rfl) 1 6 (fun _=>rfl) rfl (zas ?_ (zas ?_ (zgV zhq rfl (fun _=>rfl) (fun _=>rfl) ?_ (zyq zhq rfl (fun _=>rfl) (fun _=>rfl) ?_ (zyq zhq rfl (fun _=>rfl) (fun _=>rfl) ?_ (zgV zhq rfl (fun _=>rfl) (fun _=>rfl) ?_ (zj4 zhq (fun _=>rfl) (fun _=>rfl) 1 13 (fun _=>rfl) rfl (zas ?_ (zas ?_ (zyq zhq rfl (fun _=>rfl) (fun _=>rfl) ?_ (zyq zhq rfl (fun _=>rfl) (fun _=>rfl) ?_ (zas ?_ DrawG.nil))))))))))))))))))) ?_
     · exact fun D ⟨b7,hd19,b8,hd20⟩ n d c u i=>⟨_,(zab (zag (fun hD=>n (c 18 _ rfl hD 0 dc)) zak) (zi5 rfl)),zan (k:=5) zfX rfl dc (zba (by rfl) rfl) rfl rfl (zaf 0 u i rfl)⟩
     · exact fun D ⟨b7,hd19,b8,hd20⟩ n d c u i=>⟨_,(zos rfl),zan (k:=5) zfX rfl dc (zba (by rfl) rfl) rfl rfl (zaf 1 u i rfl)⟩
     · exact fun D ⟨b7,hd19,b8,hd20⟩ n d c u i=>⟨_,(zab (zag (fun hD=>n (c 18 _ rfl hD 2 dc)) zak) (zdd (zab (zag (fun hD=>n (c 3 _ rfl (c 4 _ rfl (c 5 _ rfl (c 8 _ rfl hD 5 dc) 4 dc) 3 dc) 2 dc)) zak) (zab (zag (fun hD=>n (c 3 _ rfl (c 4 _ rfl (c 5 _ rfl (c 8 _ rfl (c 15 _ rfl hD 8 dc) 5 dc) 4 dc) 3 dc) 2 dc)) zak) (zmE rfl))))),zan (k:=5) zfX rfl dc (zba (by rfl) rfl) rfl rfl (zaf 2 u i rfl)⟩
     · exact fun D ⟨b7,hd19,b8,hd20⟩ n d c u i=>zap rfl dc (zaa (m:=2) u rfl (d 2 dc)) (zaf 3 u i rfl)
     · exact fun D ⟨b7,hd19,b8,hd20⟩ n d c u i=>zac zgC rfl dc (zaa (m:=3) u rfl (d 3 dc)) (show _=2 from rfl) (zaf 4 u i rfl)
     · exact fun D ⟨b7,hd19,b8,hd20⟩ n d c u i=>⟨_,(zab (zag (fun hD=>n (c 18 _ rfl hD 5 dc)) zak) (zdd (zab (zag (fun hD=>n (c 8 _ rfl hD 5 dc)) zak) (zab (zag (fun hD=>n (c 8 _ rfl (c 15 _ rfl hD 8 dc) 5 dc)) zak) (zmE rfl))))),zan (k:=0) zfq rfl dc (zaa (m:=4) u rfl (d 4 dc)) rfl rfl (zaf 5 u i rfl)⟩
     ·
      intro D b hn hd hcl
      obtain ⟨zb0,hd19,b8,hd20⟩:=b
      refine zaD (zab (zag (fun hD=>hn (hcl 18 _ rfl hD 7 dc)) zak) (zdd (zab (zag (fun hD=>hn (hcl 8 _ rfl hD 7 dc)) zak) (zab (zag (fun hD=>hn (hcl 8 _ rfl (hcl 15 _ rfl hD 8 dc) 7 dc)) zak) (zdr (zab (zag hn zak) rfl)))))) ?_
      refine za1 (cs:=[zI x2.1]) (te:=3) (ps:=[(0,.tmp 33)]) rfl dc (evP.cons (zaa (m:=6) rfl rfl (hd 6 dc)) evP.nil) (fun _=>by kernel_rfl) (fun b7 => ?_)
      refine zci 9 rfl rfl ?_
      exact zaJ (b:=(zb0,hd19,b8,hd20)) (b7,hd19,b8,hd20) 7 (by rfl) (by rfl) rfl (zhC (zam (fun hD=>absurd hD hn) (zmG rfl))) (zab ((zal (by rfl)).trans (zag (fun hD=>hn (hcl 18 _ rfl hD 7 dc)) zak)) (zdd (zab ((zal (by rfl)).trans (zag (fun hD=>hn (hcl 8 _ rfl hD 7 dc)) zak)) (zab ((zal (by rfl)).trans (zag (fun hD=>hn (hcl 8 _ rfl (hcl 15 _ rfl hD 8 dc) 7 dc)) zak)) (zdr (zab (zaz (Or.inr rfl) rfl) (zab (zal (by rfl)) rfl)))))))
     ·
      intro D b hn hd hcl
      obtain ⟨b7,zb1,b8,hd20⟩:=b
      refine zaD (zab (zag (fun hD=>hn (hcl 18 _ rfl hD 8 dc)) zak) (zdd (zab (zag hn zak) (zab (zag (fun hD=>hn (hcl 15 _ rfl hD 8 dc)) zak) (zdr (zab (zaz (hd 7 dc) rfl) rfl)))))) ?_
      refine zbc (k:=3) (k2:=9) (ys:=[x2.1]) Tryz.underlying49 zm4 zbX zfg rfl dc (zaa (m:=5) rfl rfl (hd 5 dc)) (zaa (m:=7) rfl rfl (hd 7 dc)) rfl rfl rfl rfl hg1 (fun v1 => ?_)
      refine zbo (k:=3) rfl (fun hd19 he1 => ?_)
      subst he1
      exact zaJ (b:=(b7,zb1,b8,hd20)) (b7,hd19,b8,hd20) 8 (by rfl) (by rfl) rfl (zgW (zam (fun hD=>absurd hD hn) (zpy rfl))) (zab ((zal (by rfl)).trans (zag (fun hD=>hn (hcl 18 _ rfl hD 8 dc)) zak)) (zdd (zab (zaz (Or.inr rfl) rfl) (zab ((zal (by rfl)).trans (zag (fun hD=>hn (hcl 15 _ rfl hD 8 dc)) zak)) (zdr (zab ((zal (by rfl)).trans (zaz (hd 7 dc) rfl)) (zab (zal (by rfl)) rfl)))))))
     · exact fun D ⟨b7,hd19,b8,hd20⟩ n d c u i=>⟨_,(zab (zag (fun hD=>n (c 10 _ rfl (c 11 _ rfl (c 12 _ rfl (c 18 _ rfl hD 12 dc) 11 dc) 10 dc) 9 dc)) zak) (zbU (zab (zag (fun hD=>n (c 10 _ rfl (c 11 _ rfl (c 12 _ rfl (c 15 _ rfl hD 12 dc) 11 dc) 10 dc) 9 dc)) zak) (zmE rfl)))),zan (k:=5) zfX rfl dc (zba (by rfl) rfl) rfl rfl (zaf 9 u i rfl)⟩
     · exact fun D ⟨b7,hd19,b8,hd20⟩ n d c u i=>zap rfl dc (zaa (m:=9) u rfl (d 9 dc)) (zaf 10 u i rfl)
     · exact fun D ⟨b7,hd19,b8,hd20⟩ n d c u i=>zac zhV rfl dc (zaa (m:=10) u rfl (d 10 dc)) (show _=3 from rfl) (zaf 11 u i rfl)
     · exact fun D ⟨b7,hd19,b8,hd20⟩ n d c u i=>⟨_,(zab (zag (fun hD=>n (c 18 _ rfl hD 12 dc)) zak) (zbU (zab (zag (fun hD=>n (c 15 _ rfl hD 12 dc)) zak) (zmE rfl)))),zan (k:=0) zfq rfl dc (zaa (m:=11) u rfl (d 11 dc)) rfl rfl (zaf 12 u i rfl)⟩
     ·
      intro D b hn hd hcl
      obtain ⟨b7,hd19,zb2,hd20⟩:=b
      refine zaD (zab (zag (fun hD=>hn (hcl 15 _ rfl (hcl 18 _ rfl hD 15 dc) 14 dc)) zak) (zbU (zab (zag (fun hD=>hn (hcl 15 _ rfl hD 14 dc)) zak) (zj5 (zab (zag hn zak) rfl))))) ?_
      refine za1 (cs:=[zI x2.1]) (te:=3) (ps:=[(0,.tmp 40)]) rfl dc (evP.cons (zaa (m:=13) rfl rfl (hd 13 dc)) evP.nil) (fun _=>by kernel_rfl) (fun b8 => ?_)
      refine zci 10 rfl rfl ?_
      exact zaJ (b:=(b7,hd19,zb2,hd20)) (b7,hd19,b8,hd20) 14 (by rfl) (by rfl) rfl (znl (zct (zam (fun hD=>absurd hD hn) (zne rfl)))) (zab ((zal (by rfl)).trans (zag (fun hD=>hn (hcl 15 _ rfl (hcl 18 _ rfl hD 15 dc) 14 dc)) zak)) (zdd (zab (zal (by rfl)) (zab ((zal (by rfl)).trans (zag (fun hD=>hn (hcl 15 _ rfl hD 14 dc)) zak)) (zdr (zab (zal (by rfl)) (zab (zaz (Or.inr rfl) rfl) rfl)))))))
     ·
      intro D b hn hd hcl
      obtain ⟨b7,hd19,b8,zb3⟩:=b
      refine zaD (zab (zag (fun hD=>hn (hcl 18 _ rfl hD 15 dc)) zak) (zdd (zab (zaz (hd 8 dc) rfl) (zab (zag hn zak) (zdr (zab (zaz (hcl 8 _ rfl (hd 8 dc) 7 dc) rfl) (zab (zaz (hd 14 dc) rfl) rfl))))))) ?_
      refine zbc (k:=4) (k2:=10) (ys:=[x2.1]) Tryz.underlying49 zm4 zbX zfg rfl dc (zaa (m:=12) rfl rfl (hd 12 dc)) (zaa (m:=14) rfl rfl (hd 14 dc)) rfl rfl rfl rfl hg2 (fun v2 => ?_)
      refine zbo (k:=4) rfl (fun hd20 he2 => ?_)
      subst he2
      exact zaJ (b:=(b7,hd19,b8,zb3)) (b7,hd19,b8,hd20) 15 (by rfl) (by rfl) rfl (zne (zct (zam (fun hD=>absurd hD hn) (znl rfl)))) (zab ((zal (by rfl)).trans (zag (fun hD=>hn (hcl 18 _ rfl hD 15 dc)) zak)) (zdd (zab ((zal (by rfl)).trans (zaz (hd 8 dc) rfl)) (zab (zaz (Or.inr rfl) rfl) (zdr (zab ((zal (by rfl)).trans (zaz (hcl 8 _ rfl (hd 8 dc) 7 dc) rfl)) (zab ((zal (by rfl)).trans (zaz (hd 14 dc) rfl)) rfl)))))))
     · exact fun D ⟨b7,hd19,b8,hd20⟩ n d c u i=>zap rfl dc (zaa (m:=0) u rfl (d 0 dc)) (zaf 16 u i rfl)
     · exact fun D ⟨b7,hd19,b8,hd20⟩ n d c u i=>zac zgC rfl dc (zaa (m:=16) u rfl (d 16 dc)) (show _=2 from rfl) (zaf 17 u i rfl)
     ·
      intro D b hn hd hcl
      obtain ⟨b7,hd19,b8,hd20⟩:=b
      refine zaD (zab (zag hn zak) (zdd (zab (zaz (hd 8 dc) rfl) (zab (zaz (hd 15 dc) rfl) (zdr (zab (zaz (hd 7 dc) rfl) (zab (zaz (hcl 15 _ rfl (hd 15 dc) 14 dc) rfl) rfl))))))) ?_
      refine zaG (k:=0) (l':=[hd13.v,hd14.v,hd19.v,hd16.v,zI p1.heights]) zk9 rfl (zaa (m:=17) rfl rfl (hd 17 dc)) (zaa (m:=8) rfl rfl (hd 8 dc)) rfl rfl (fun _ _=>rfl) rfl ?_
      exact zgQ (b:=(b7,hd19,b8,hd20)) (b7,hd19,b8,hd20) (by rfl) (zmF (zct rfl)) (zab (zaz (Or.inr rfl) rfl) (zdd (zab ((zal (by rfl)).trans (zaz (hd 8 dc) rfl)) (zab ((zal (by rfl)).trans (zaz (hd 15 dc) rfl)) (zdr (zab ((zal (by rfl)).trans (zaz (hd 7 dc) rfl)) (zab ((zal (by rfl)).trans (zaz (hcl 15 _ rfl (hd 15 dc) 14 dc) rfl)) rfl)))))))
     intro D b hall
     obtain ⟨b7,hd19,b8,hd20⟩:=b
     refine zaD (zab (zaz (hall 18 dc) rfl) (zdd (zab (zaz (hall 8 dc) rfl) (zab (zaz (hall 15 dc) rfl) (zdr (zab (zaz (hall 7 dc) rfl) (zab (zaz (hall 14 dc) rfl) rfl))))))) (zap rfl dc rfl (zac zhV rfl dc rfl (show _=3 from rfl) ?_))
     refine zaG (k:=0) (l':=[hd13.v,hd14.v,hd19.v,hd20.v,zI p1.heights]) zk9 rfl rfl rfl rfl rfl (fun _ _=>rfl) rfl ?_
     refine zaV ?_
     exact zaq (l16++[x2.1],l17++[x2.1],hd19,hd20) h rfl (za7 rfl) (zae [0,1,2,3,4,5,6,7,8] kr rfl)
    refine zat ?_
    exact zaq (l16,l17,hd15,hd16) h rfl (za7 rfl) (zae [0,1,2,3,4,5,6,7,8] kr rfl)
   rintro ⟨l18,l19,hd17,hd18⟩ h
   rw [hj2] at h
   refine zay ?_
   obtain ⟨q1,hq3,h⟩:=zbl h
   refine zbj 7 [(0,47,zP bp1),(1,48,zP bp1),(2,49,.pointer (some ⟨bp1,3,none⟩)),(3,50,hd18.v),(4,51,.pointer (some ⟨jb1,2,none⟩)),(5,52,zI x2.2.Stanza),(6,53,zI x2.1)] mixed kr kr dc (by rfl) kr kr (zad ?_ (zad ?_ (zad ?_ (zad ?_ (zad ?_ (zad ?_ (zyP 1 6 rfl DrawPre.nil))))))) ?_
   · exact fun D n d c u i=>zan (k:=5) zfX rfl dc (zba (by rfl) rfl) rfl rfl (zaf 0 u i rfl)
   · exact fun D n d c u i=>zap rfl dc (zaa (m:=0) u rfl (d 0 dc)) (zaf 1 u i rfl)
   · exact fun D n d c u i=>zac zhV rfl dc (zaa (m:=1) u rfl (d 1 dc)) (show _=3 from rfl) (zaf 2 u i rfl)
   · exact fun D n d c u i=>zan (k:=0) zfq rfl dc (zaa (m:=2) u rfl (d 2 dc)) rfl rfl (zaf 3 u i rfl)
   · exact fun D n d c u i=>zac zg6 rfl dc (zba (by rfl) rfl) (show _=2 from rfl) (zaf 4 u i rfl)
   · exact fun D n d c u i=>zan (k:=8) zbC rfl dc (zaa (m:=4) u rfl (d 4 dc)) rfl rfl (zaf 5 u i rfl)
   refine zaM (k:=4) hq3 Tryz.underlying49 zeX rfl dc rfl rfl rfl rfl ?_
   refine zd2 (i:=(x2.2.Stanza:Int).toNat) (j:=0) (k:=4) (q:=q1) (q':=x2.1) zeX zbX rfl rfl rfl rfl (za4 hq3) rfl dc rfl (fun _ _=>rfl) ?_
   refine zyH (zac zkh rfl dc rfl (show _=0 from rfl) (zan (k:=8) ziz rfl dc rfl rfl rfl (zac zjk rfl dc rfl (show _=1 from rfl) (zan (k:=8) zbC rfl dc rfl rfl rfl (zaY (k:=6) (cs:=(zr0 l1)) zjf rfl dc rfl rfl rfl rfl ?_)))))
   obtain ⟨r2,hq4,h⟩:=zbl h
   refine zcB (vs:=[.string x2.2.Text,zI x2.2.Indent,.agg (zr0 l1).toArray]) rfl dc rfl rfl rfl znN (zhu (l1:=l1) hq4) Splits.nil ?_
   rintro v3
   refine zbo (k:=9) rfl (fun hd21 he3 => ?_)
   subst he3
   refine zyR 1 rfl (zax rfl dc rfl rfl (zax rfl dc rfl rfl (zyR 2 rfl (zyH (zan (k:=7) zbC rfl dc rfl rfl rfl (zyR 1 rfl ?_))))))
   obtain ⟨hg3,h⟩:=zbs h
   refine zaO rfl (zaT (r:=cost4+r2.2) (IntWalk.i64_in _ hg3)) ?_
   refine zaG (k:=7) (l':=[zI (cost4+r2.2)]) zeX rfl rfl rfl rfl rfl (fun _ _=>rfl) rfl ?_
   refine zyH (zyR 1 rfl (zcr (k:=9) rfl dc rfl rfl Tryz.underlying70 (zyR 1 rfl (zyN (zaB ?_)))))
   refine zbm (β:=Nat×(List Gapi_Row)×(List Int)×Int×Hd×Hd) (fun b=>za9 (fun _ _ _=>none) (zcg l1 x2 ag1 cost4 l18 l19 r2) b.1 b.2.1 b.2.2.1 b.2.2.2.1=some r) (fun b=>[]) (fun b=>[(3,zP b2),(5,zP b3),(6,zI 0),(7,zP b4),(8,zI x2.1),(9,zP jb1),(16,.func (.func 115) #[] #[zP b5]),(67,hd21.v),(68,zI (r2.1.length:Int)),(69,zI b.2.2.2.1)]) (fun b=>[cells bp1 [b.2.2.2.2.1.v,b.2.2.2.2.2.v,hd17.v,hd18.v,zI p1.heights] 131,zv1 b.2.2.2.2.1.v b.2.1,zv0 b.2.2.2.2.2.v b.2.2.1,zv0 hd17.v l18,zv0 hd18.v (l19.set (x2.2.Stanza:Int).toNat x2.1),cells b2 [zP bp1] 129,cells b3 (zr0 l1) 23,cells b4 [zI (cost4+r2.2)] 3,cells jb1 (zr3 x2.2) 76,zv5 hd21.v r2.1]) (fun b=>b.1) (zcN,l14,l15,0,hd13,hd14) h rfl (za7 rfl) (zae [0,1,2,3,4,5,6,7,8,9] kr rfl) ?_
   rintro ⟨n1,l24,l25,x5,hd26,hd27⟩ h
   cases n1 with
   | zero=>exact zcS h
   | succ n1 =>
    obtain ⟨ag2,hag2⟩:∃ ag,ag=za9 (fun _ _ _=>none) (zcg l1 x2 ag1 cost4 l18 l19 r2) n1:=⟨_,rfl⟩
    have h:zcg l1 x2 ag1 cost4 l18 l19 r2 ag2 l24 l25 x5=some r:=by rw [hag2]; exact h
    unfold zcg at h
    refine zyG (zaO rfl zbv (zyN (zay ?_)))
    refine zyB rfl h (fun h => ?_) (fun h => ?_)
    ·
     refine zat (zaE (zay (zaB ?_)))
     obtain ⟨j3,hj3,h⟩:=zbw h
     refine zaU (β:=Int×Int×ByteArray×Nat) 2 rfl (fun b=>j3 b.1 b.2.1 b.2.2.1=some r) (fun b=>[]) (fun b=>[(3,zP b2),(5,zP b3),(6,zI 0),(7,zP b4),(8,zI x2.1),(9,zP jb1),(14,zP b.2.2.2),(16,.func (.func 115) #[] #[zP b5]),(67,hd21.v),(68,zI (r2.1.length:Int)),(69,zI x5)]) (fun b=>[cells bp1 [hd26.v,hd27.v,hd17.v,hd18.v,zI p1.heights] 131,zv1 hd26.v l24,zv0 hd27.v l25,zv0 hd17.v l18,zv0 hd18.v (l19.set (x2.2.Stanza:Int).toNat x2.1),cells b2 [zP bp1] 129,cells b3 (zr0 l1) 23,cells b4 [zI (cost4+r2.2)] 3,cells jb1 (zr3 x2.2) 76,cells b.2.2.2 [zI x2.1,zI x2.2.Stanza,zI x5,zI b.1,zI b.2.1,.string b.2.2.1] 33,zv5 hd21.v r2.1]) (fun cut => ?_) ?_
     ·
      refine zyG (zyR 1 rfl ?_)
      obtain ⟨q2,hq5,h⟩:=zbl h
      refine zaM (k:=9) hq5 Tryz.underlying70 zlZ rfl dc rfl rfl rfl rfl (zbi (i:=(x5:Int).toNat) (j:=0) (k:=9) (q:=q2) ziz zff rfl dc rfl rfl (za4 hq5) rfl dc rfl (zyR 2 rfl (zyH (zyR 1 rfl (zac zg6 rfl dc rfl (show _=2 from rfl) (zan (k:=8) zbC rfl dc rfl rfl rfl (zyR 1 rfl (zac zij rfl dc rfl (show _=2 from rfl) (zan (k:=6) zbC rfl dc rfl rfl rfl ?_)))))))))
      refine zyR 1 rfl ?_
      refine zbg (v:=.agg #[zI x2.1,zI x2.2.Stanza,zI x5,zI l1.Turn,zI 0,.string q2]) (ps:=[(0,.tmp 74),(1,.tmp 76),(2,.tmp 77),(3,.tmp 79),(5,.tmp 80)]) rfl dc rfl (fun _=>by kernel_rfl) ?_
      refine zbb zjy rfl dc (fun b10 => ?_)
      refine zaR (k:=10) (vs:=[zI x2.1,zI x2.2.Stanza,zI x5,zI l1.Turn,zI 0,.string q2]) (l':=[zI x2.1,zI x2.2.Stanza,zI x5,zI l1.Turn,zI 0,.string q2]) zf1 rfl rfl rfl rfl rfl (show _≤_ by simp) rfl rfl ?_
      refine zyN (cut (zyG (zyR 1 rfl (zaO rfl zaP (zyN ?_)))))
      refine zyB rfl h (fun h => ?_) (fun h => ?_)
      ·
       refine zyG (zac zjk rfl dc rfl (show _=1 from rfl) (zan (k:=8) zbC rfl dc rfl rfl rfl (zac zjl rfl dc rfl (show _=3 from rfl) ?_)))
       refine zaG (k:=10) (l':=[zI x2.1,zI x2.2.Stanza,zI x5,zI x2.2.Indent,zI 0,.string q2]) zeX rfl rfl rfl rfl rfl (fun _ _=>rfl) rfl ?_
       refine zyH (zac zjm rfl dc rfl (show _=3 from rfl) (zan (k:=6) zbC rfl dc rfl rfl rfl (zaO rfl zcY (zyR 1 rfl ?_))))
       refine zyS (s:=90) rfl h (fun h => ?_) (fun h => ?_)
       ·
        refine zyR 1 rfl ?_
        obtain ⟨hg4,h⟩:=zbs h
        refine zaO rfl (zaT (r:=x2.1+1) (IntWalk.i64_in _ hg4)) (zac zjm rfl dc rfl (show _=3 from rfl) (zan (k:=6) zbC rfl dc rfl rfl rfl ?_))
        obtain ⟨hg5,h⟩:=zbs h
        refine zaO rfl (zm7 hg5 rfl) (zaO rfl zaP (zyR 1 rfl (zyN ?_)))
        refine zyB rfl h (fun h => ?_) (fun h => ?_)
        ·
         refine zaA (zyR 1 rfl ?_)
         obtain ⟨hg6,h⟩:=zbs h
         refine zaO rfl (zaT (r:=x2.1+1) (IntWalk.i64_in _ hg6)) (zac zmV rfl dc rfl (show _=4 from rfl) ?_)
         refine zaG (k:=10) (l':=[zI x2.1,zI x2.2.Stanza,zI x5,zI x2.2.Indent,zI (x2.1+1),.string q2]) zeX rfl rfl rfl rfl rfl (fun _ _=>rfl) rfl ?_
         refine zaV ?_
         exact zaq (x2.2.Indent,x2.1+1,q2,b10) h rfl (za7 rfl) (zae [0,1,2,3,4,5,6,7,8,10,9] kr rfl)
        refine zat ?_
        exact zaq (x2.2.Indent,0,q2,b10) h rfl (za7 rfl) (zae [0,1,2,3,4,5,6,7,8,10,9] kr rfl)
       refine zyR 7 rfl (zyN (zaL rfl (zat ?_)))
       exact zaq (x2.2.Indent,0,q2,b10) h rfl (za7 rfl) (zae [0,1,2,3,4,5,6,7,8,10,9] kr rfl)
      refine zat ?_
      exact zaq (l1.Turn,0,q2,b10) h rfl (za7 rfl) (zae [0,1,2,3,4,5,6,7,8,10,9] kr rfl)
     rintro ⟨r3,r4,r5,b9⟩ h
     rw [hj3] at h
     obtain ⟨hg7,h⟩:=zbs h
     obtain ⟨hg8,h⟩:=zbs h
     refine ze5 2 ?_
     refine let vals2:(Nat×Hd×Nat×Hd)→List (Nat×Nat×Value):=fun b=>[(0,101,zP bp1),(1,102,zP bp1),(2,103,zP bp1),(3,104,zP bp1),(4,105,zP bp1),(5,106,hd26.v),(6,107,.agg #[zI x2.1,zI x2.2.Stanza,zI x5,zI r3,zI r4,.string r5]),(7,108,.slice (some ⟨b.1,0,none⟩) 1 1),(8,109,b.2.1.v),(9,110,zP bp1),(10,111,zP bp1),(11,112,.pointer (some ⟨bp1,1,none⟩)),(12,113,hd27.v),(13,114,.pointer (some ⟨jb1,2,none⟩)),(14,115,zI x2.2.Stanza),(15,116,.slice (some ⟨b.2.2.1,0,none⟩) 1 1),(16,117,b.2.2.2.v),(17,118,zP bp1),(18,119,zP bp1)]; let LL2:(Nat→Prop)→(Nat×Hd×Nat×Hd)→List Asn:=fun D b=>[eD D (cells bp1 [hd26.v,hd27.v,hd17.v,hd18.v,zI p1.heights] 131) [(19,cells bp1 [b.2.1.v,hd27.v,hd17.v,hd18.v,zI p1.heights] 131)],eD D (zv1 hd26.v l24) [(8,zv1 b.2.1.v (l24++[(⟨x2.1,x2.2.Stanza,x5,r3,r4,r5⟩:Gapi_Row)]))],eD D (zv0 hd27.v l25) [(16,zv0 b.2.2.2.v (l25++[x2.2.Stanza]))],zv0 hd17.v l18,zv0 hd18.v (l19.set (x2.2.Stanza:Int).toNat x2.1),cells b2 [zP bp1] 129,cells b3 (zr0 l1) 23,cells b4 [zI (cost4+r2.2)] 3,cells jb1 (zr3 x2.2) 76,cells b9 [zI x2.1,zI x2.2.Stanza,zI x5,zI r3,zI r4,.string r5] 33,zv5 hd21.v r2.1,eD D emp [(7,cells b.1 [zI x2.1,zI x2.2.Stanza,zI x5,zI r3,zI r4,.string r5] 33)],eD D emp [(15,cells b.2.2.1 [zI x2.2.Stanza] 3)]]; ?_
     refine zc3 (β:=Nat×Hd×Nat×Hd) 20 ((0:Nat),Hd.nil,(0:Nat),Hd.nil) vals2 LL2 mixed kr kr dc (fun _=>rfl) (zab zbr (zab zbr (zab zbr (zgi (zab zbr (zab zbr rfl)))))) (zas ?_ (zas ?_ (zas ?_ (zas ?_ (zas ?_ (zas ?_ (zas ?_ (zas ?_ (zas ?_ (zas ?_ (zas ?_ (zas ?_ (zas ?_ (zas ?_ (zas ?_ (zas ?_ (zas ?_ (zas ?_ (zas ?_ (zas ?_ DrawG.nil)))))))))))))))))))) ?_
     ·
      intro D b hn hd hcl
      obtain ⟨b11,hd28,b12,hd29⟩:=b
      refine zaD (zab (zag (fun hD=>hn (hcl 19 _ rfl hD 0 dc)) zak) (znk rfl)) ?_
      refine zan (k:=5) zfX rfl dc (zba (by rfl) rfl) rfl rfl ?_
      exact zaJ (b:=(b11,hd28,b12,hd29)) (b11,hd28,b12,hd29) 0 (by rfl) (by rfl) rfl (zhC (zct rfl)) (zab ((zal (by rfl)).trans (zag (fun hD=>hn (hcl 19 _ rfl hD 0 dc)) zak)) (zab (zal (by rfl)) (zab (zal (by rfl)) (zgi (zab (zal (by rfl)) (zab (zal (by rfl)) rfl))))))
     ·
      intro D b hn hd hcl
      obtain ⟨b11,hd28,b12,hd29⟩:=b
      refine zaD (zab rfl (znk rfl)) (zan (k:=5) zfX rfl dc (zba (by rfl) rfl) rfl rfl ?_)
      exact zaJ (b:=(b11,hd28,b12,hd29)) (b11,hd28,b12,hd29) 1 (by rfl) (by rfl) rfl (zhC (zct rfl)) (zab (zal (by rfl)) (zab (zal (by rfl)) (zab (zal (by rfl)) (zgi (zab (zal (by rfl)) (zab (zal (by rfl)) rfl))))))
     ·
      intro D b hn hd hcl
      obtain ⟨b11,hd28,b12,hd29⟩:=b
      refine zaD (zab (zag (fun hD=>hn (hcl 19 _ rfl hD 2 dc)) zak) (zab (zag (fun hD=>hn (hcl 3 _ rfl (hcl 4 _ rfl (hcl 5 _ rfl (hcl 8 _ rfl hD 5 dc) 4 dc) 3 dc) 2 dc)) zak) (zab (zag (fun hD=>hn (hcl 3 _ rfl (hcl 4 _ rfl (hcl 5 _ rfl (hcl 8 _ rfl (hcl 16 _ rfl hD 8 dc) 5 dc) 4 dc) 3 dc) 2 dc)) zak) (zi5 rfl)))) ?_
      refine zan (k:=5) zfX rfl dc (zba (by rfl) rfl) rfl rfl ?_
      exact zaJ (b:=(b11,hd28,b12,hd29)) (b11,hd28,b12,hd29) 2 (by rfl) (by rfl) rfl (zhC (zct rfl)) (zab ((zal (by rfl)).trans (zag (fun hD=>hn (hcl 19 _ rfl hD 2 dc)) zak)) (zab ((zal (by rfl)).trans (zag (fun hD=>hn (hcl 3 _ rfl (hcl 4 _ rfl (hcl 5 _ rfl (hcl 8 _ rfl hD 5 dc) 4 dc) 3 dc) 2 dc)) zak)) (zab ((zal (by rfl)).trans (zag (fun hD=>hn (hcl 3 _ rfl (hcl 4 _ rfl (hcl 5 _ rfl (hcl 8 _ rfl (hcl 16 _ rfl hD 8 dc) 5 dc) 4 dc) 3 dc) 2 dc)) zak)) (zgi (zab (zal (by rfl)) (zab (zal (by rfl)) rfl))))))
     ·
      intro D b hn hd hcl
      obtain ⟨b11,hd28,b12,hd29⟩:=b
      refine zaD (zab (zag (fun hD=>hn (hcl 19 _ rfl hD 3 dc)) zak) (zab (zag (fun hD=>hn (hcl 4 _ rfl (hcl 5 _ rfl (hcl 8 _ rfl hD 5 dc) 4 dc) 3 dc)) zak) (zab (zag (fun hD=>hn (hcl 4 _ rfl (hcl 5 _ rfl (hcl 8 _ rfl (hcl 16 _ rfl hD 8 dc) 5 dc) 4 dc) 3 dc)) zak) (zi5 rfl)))) ?_
      refine zap rfl dc (zaa (m:=2) rfl rfl (hd 2 dc)) ?_
      exact zaJ (b:=(b11,hd28,b12,hd29)) (b11,hd28,b12,hd29) 3 (by rfl) (by rfl) rfl (zhC (zct rfl)) (zab ((zal (by rfl)).trans (zag (fun hD=>hn (hcl 19 _ rfl hD 3 dc)) zak)) (zab ((zal (by rfl)).trans (zag (fun hD=>hn (hcl 4 _ rfl (hcl 5 _ rfl (hcl 8 _ rfl hD 5 dc) 4 dc) 3 dc)) zak)) (zab ((zal (by rfl)).trans (zag (fun hD=>hn (hcl 4 _ rfl (hcl 5 _ rfl (hcl 8 _ rfl (hcl 16 _ rfl hD 8 dc) 5 dc) 4 dc) 3 dc)) zak)) (zgi (zab (zal (by rfl)) (zab (zal (by rfl)) rfl))))))
     ·
      intro D b hn hd hcl
      obtain ⟨b11,hd28,b12,hd29⟩:=b
      refine zaD (zab (zag (fun hD=>hn (hcl 19 _ rfl hD 4 dc)) zak) (zab (zag (fun hD=>hn (hcl 5 _ rfl (hcl 8 _ rfl hD 5 dc) 4 dc)) zak) (zab (zag (fun hD=>hn (hcl 5 _ rfl (hcl 8 _ rfl (hcl 16 _ rfl hD 8 dc) 5 dc) 4 dc)) zak) (zi5 rfl)))) ?_
      refine zac zeI rfl dc (zaa (m:=3) rfl rfl (hd 3 dc)) (show _=0 from rfl) ?_
      exact zaJ (b:=(b11,hd28,b12,hd29)) (b11,hd28,b12,hd29) 4 (by rfl) (by rfl) rfl (zhC (zct rfl)) (zab ((zal (by rfl)).trans (zag (fun hD=>hn (hcl 19 _ rfl hD 4 dc)) zak)) (zab ((zal (by rfl)).trans (zag (fun hD=>hn (hcl 5 _ rfl (hcl 8 _ rfl hD 5 dc) 4 dc)) zak)) (zab ((zal (by rfl)).trans (zag (fun hD=>hn (hcl 5 _ rfl (hcl 8 _ rfl (hcl 16 _ rfl hD 8 dc) 5 dc) 4 dc)) zak)) (zgi (zab (zal (by rfl)) (zab (zal (by rfl)) rfl))))))
     ·
      intro D b hn hd hcl
      obtain ⟨b11,hd28,b12,hd29⟩:=b
      refine zaD (zab (zag (fun hD=>hn (hcl 19 _ rfl hD 5 dc)) zak) (zab (zag (fun hD=>hn (hcl 8 _ rfl hD 5 dc)) zak) (zab (zag (fun hD=>hn (hcl 8 _ rfl (hcl 16 _ rfl hD 8 dc) 5 dc)) zak) (zi5 rfl)))) ?_
      refine zan (k:=0) zjF rfl dc (zaa (m:=4) rfl rfl (hd 4 dc)) rfl rfl ?_
      exact zaJ (b:=(b11,hd28,b12,hd29)) (b11,hd28,b12,hd29) 5 (by rfl) (by rfl) rfl (zhC (zct rfl)) (zab ((zal (by rfl)).trans (zag (fun hD=>hn (hcl 19 _ rfl hD 5 dc)) zak)) (zab ((zal (by rfl)).trans (zag (fun hD=>hn (hcl 8 _ rfl hD 5 dc)) zak)) (zab ((zal (by rfl)).trans (zag (fun hD=>hn (hcl 8 _ rfl (hcl 16 _ rfl hD 8 dc) 5 dc)) zak)) (zgi (zab (zal (by rfl)) (zab (zal (by rfl)) rfl))))))
     ·
      intro D b hn hd hcl
      obtain ⟨b11,hd28,b12,hd29⟩:=b
      refine zaD (zab (zag (fun hD=>hn (hcl 19 _ rfl hD 6 dc)) zak) (zab (zag (fun hD=>hn (hcl 7 _ rfl (hcl 8 _ rfl hD 7 dc) 6 dc)) zak) (zab (zag (fun hD=>hn (hcl 7 _ rfl (hcl 8 _ rfl (hcl 16 _ rfl hD 8 dc) 7 dc) 6 dc)) zak) (zgi (zab (zag (fun hD=>hn (hcl 7 _ rfl hD 6 dc)) zak) rfl))))) ?_
      refine zaY (k:=9) (cs:=[zI x2.1,zI x2.2.Stanza,zI x5,zI r3,zI r4,.string r5]) ziB rfl dc (zba (by rfl) rfl) rfl rfl rfl ?_
      exact zaJ (b:=(b11,hd28,b12,hd29)) (b11,hd28,b12,hd29) 6 (by rfl) (by rfl) rfl (zhC (zct rfl)) (zab ((zal (by rfl)).trans (zag (fun hD=>hn (hcl 19 _ rfl hD 6 dc)) zak)) (zab ((zal (by rfl)).trans (zag (fun hD=>hn (hcl 7 _ rfl (hcl 8 _ rfl hD 7 dc) 6 dc)) zak)) (zab ((zal (by rfl)).trans (zag (fun hD=>hn (hcl 7 _ rfl (hcl 8 _ rfl (hcl 16 _ rfl hD 8 dc) 7 dc) 6 dc)) zak)) (zgi (zab ((zal (by rfl)).trans (zag (fun hD=>hn (hcl 7 _ rfl hD 6 dc)) zak)) (zab (zal (by rfl)) rfl))))))
     ·
      intro D b hn hd hcl
      obtain ⟨zb0,hd28,b12,hd29⟩:=b
      refine zaD (zab (zag (fun hD=>hn (hcl 19 _ rfl hD 7 dc)) zak) (zab (zag (fun hD=>hn (hcl 8 _ rfl hD 7 dc)) zak) (zab (zag (fun hD=>hn (hcl 8 _ rfl (hcl 16 _ rfl hD 8 dc) 7 dc)) zak) (zgi (zab (zag hn zak) rfl))))) ?_
      refine za1 (cs:=[zI x2.1,zI x2.2.Stanza,zI x5,zI r3,zI r4,.string r5]) (te:=33) (ps:=[(0,.tmp 107)]) rfl dc (evP.cons (zaa (m:=6) rfl rfl (hd 6 dc)) evP.nil) (fun _=>by kernel_rfl) (fun b11 => ?_)
      refine zci 11 rfl rfl ?_
      exact zaJ (b:=(zb0,hd28,b12,hd29)) (b11,hd28,b12,hd29) 7 (by rfl) (by rfl) rfl (zhC (zam (fun hD=>absurd hD hn) (znm rfl))) (zab ((zal (by rfl)).trans (zag (fun hD=>hn (hcl 19 _ rfl hD 7 dc)) zak)) (zab ((zal (by rfl)).trans (zag (fun hD=>hn (hcl 8 _ rfl hD 7 dc)) zak)) (zab ((zal (by rfl)).trans (zag (fun hD=>hn (hcl 8 _ rfl (hcl 16 _ rfl hD 8 dc) 7 dc)) zak)) (zgi (zab (zaz (Or.inr rfl) rfl) (zab (zal (by rfl)) rfl))))))
     ·
      intro D b hn hd hcl
      obtain ⟨b11,zb1,b12,hd29⟩:=b
      refine zaD (zab (zag (fun hD=>hn (hcl 19 _ rfl hD 8 dc)) zak) (zab (zag hn zak) (zab (zag (fun hD=>hn (hcl 16 _ rfl hD 8 dc)) zak) (zgi (zab (zaz (hd 7 dc) rfl) rfl))))) ?_
      refine zbc (k:=1) (k2:=11) (ys:=[(⟨x2.1,x2.2.Stanza,x5,r3,r4,r5⟩:Gapi_Row)]) Tryz.underlying43 zm3 zbA zen rfl dc (zaa (m:=5) rfl rfl (hd 5 dc)) (zaa (m:=7) rfl rfl (hd 7 dc)) rfl rfl rfl rfl hg7 (fun v4 => ?_)
      refine zbo (k:=1) rfl (fun hd28 he4 => ?_)
      subst he4
      exact zaJ (b:=(b11,zb1,b12,hd29)) (b11,hd28,b12,hd29) 8 (by rfl) (by rfl) rfl (zgW (zam (fun hD=>absurd hD hn) (zmG rfl))) (zab ((zal (by rfl)).trans (zag (fun hD=>hn (hcl 19 _ rfl hD 8 dc)) zak)) (zab (zaz (Or.inr rfl) rfl) (zab ((zal (by rfl)).trans (zag (fun hD=>hn (hcl 16 _ rfl hD 8 dc)) zak)) (zgi (zab ((zal (by rfl)).trans (zaz (hd 7 dc) rfl)) (zab (zal (by rfl)) rfl))))))
     ·
      intro D b hn hd hcl
      obtain ⟨b11,hd28,b12,hd29⟩:=b
      refine zaD (zab (zag (fun hD=>hn (hcl 10 _ rfl (hcl 11 _ rfl (hcl 12 _ rfl (hcl 19 _ rfl hD 12 dc) 11 dc) 10 dc) 9 dc)) zak) (zab rfl (zab (zag (fun hD=>hn (hcl 10 _ rfl (hcl 11 _ rfl (hcl 12 _ rfl (hcl 16 _ rfl hD 12 dc) 11 dc) 10 dc) 9 dc)) zak) (zi5 rfl)))) ?_
      refine zan (k:=5) zfX rfl dc (zba (by rfl) rfl) rfl rfl ?_
      exact zaJ (b:=(b11,hd28,b12,hd29)) (b11,hd28,b12,hd29) 9 (by rfl) (by rfl) rfl (zhC (zct rfl)) (zab ((zal (by rfl)).trans (zag (fun hD=>hn (hcl 10 _ rfl (hcl 11 _ rfl (hcl 12 _ rfl (hcl 19 _ rfl hD 12 dc) 11 dc) 10 dc) 9 dc)) zak)) (zab (zal (by rfl)) (zab ((zal (by rfl)).trans (zag (fun hD=>hn (hcl 10 _ rfl (hcl 11 _ rfl (hcl 12 _ rfl (hcl 16 _ rfl hD 12 dc) 11 dc) 10 dc) 9 dc)) zak)) (zgi (zab (zal (by rfl)) (zab (zal (by rfl)) rfl))))))
     ·
      intro D b hn hd hcl
      obtain ⟨b11,hd28,b12,hd29⟩:=b
      refine zaD (zab (zag (fun hD=>hn (hcl 11 _ rfl (hcl 12 _ rfl (hcl 19 _ rfl hD 12 dc) 11 dc) 10 dc)) zak) (zab rfl (zab (zag (fun hD=>hn (hcl 11 _ rfl (hcl 12 _ rfl (hcl 16 _ rfl hD 12 dc) 11 dc) 10 dc)) zak) (zi5 rfl)))) ?_
      refine zap rfl dc (zaa (m:=9) rfl rfl (hd 9 dc)) ?_
      exact zaJ (b:=(b11,hd28,b12,hd29)) (b11,hd28,b12,hd29) 10 (by rfl) (by rfl) rfl (zhC (zct rfl)) (zab ((zal (by rfl)).trans (zag (fun hD=>hn (hcl 11 _ rfl (hcl 12 _ rfl (hcl 19 _ rfl hD 12 dc) 11 dc) 10 dc)) zak)) (zab (zal (by rfl)) (zab ((zal (by rfl)).trans (zag (fun hD=>hn (hcl 11 _ rfl (hcl 12 _ rfl (hcl 16 _ rfl hD 12 dc) 11 dc) 10 dc)) zak)) (zgi (zab (zal (by rfl)) (zab (zal (by rfl)) rfl))))))
     ·
      intro D b hn hd hcl
      obtain ⟨b11,hd28,b12,hd29⟩:=b
      refine zaD (zab (zag (fun hD=>hn (hcl 12 _ rfl (hcl 19 _ rfl hD 12 dc) 11 dc)) zak) (zab rfl (zab (zag (fun hD=>hn (hcl 12 _ rfl (hcl 16 _ rfl hD 12 dc) 11 dc)) zak) (zi5 rfl)))) ?_
      refine zac zhW rfl dc (zaa (m:=10) rfl rfl (hd 10 dc)) (show _=1 from rfl) ?_
      exact zaJ (b:=(b11,hd28,b12,hd29)) (b11,hd28,b12,hd29) 11 (by rfl) (by rfl) rfl (zhC (zct rfl)) (zab ((zal (by rfl)).trans (zag (fun hD=>hn (hcl 12 _ rfl (hcl 19 _ rfl hD 12 dc) 11 dc)) zak)) (zab (zal (by rfl)) (zab ((zal (by rfl)).trans (zag (fun hD=>hn (hcl 12 _ rfl (hcl 16 _ rfl hD 12 dc) 11 dc)) zak)) (zgi (zab (zal (by rfl)) (zab (zal (by rfl)) rfl))))))
     ·
      intro D b hn hd hcl
      obtain ⟨b11,hd28,b12,hd29⟩:=b
      refine zaD (zab (zag (fun hD=>hn (hcl 19 _ rfl hD 12 dc)) zak) (zab rfl (zab (zag (fun hD=>hn (hcl 16 _ rfl hD 12 dc)) zak) (zi5 rfl)))) ?_
      refine zan (k:=0) zfq rfl dc (zaa (m:=11) rfl rfl (hd 11 dc)) rfl rfl ?_
      exact zaJ (b:=(b11,hd28,b12,hd29)) (b11,hd28,b12,hd29) 12 (by rfl) (by rfl) rfl (zhC (zct rfl)) (zab ((zal (by rfl)).trans (zag (fun hD=>hn (hcl 19 _ rfl hD 12 dc)) zak)) (zab (zal (by rfl)) (zab ((zal (by rfl)).trans (zag (fun hD=>hn (hcl 16 _ rfl hD 12 dc)) zak)) (zgi (zab (zal (by rfl)) (zab (zal (by rfl)) rfl))))))
     ·
      intro D b hn hd hcl
      obtain ⟨b11,hd28,b12,hd29⟩:=b
      refine zaD (zab (zag (fun hD=>hn (hcl 14 _ rfl (hcl 15 _ rfl (hcl 16 _ rfl (hcl 19 _ rfl hD 16 dc) 15 dc) 14 dc) 13 dc)) zak) (zab rfl (zab (zag (fun hD=>hn (hcl 14 _ rfl (hcl 15 _ rfl (hcl 16 _ rfl hD 15 dc) 14 dc) 13 dc)) zak) (zor (zab (zag (fun hD=>hn (hcl 14 _ rfl (hcl 15 _ rfl hD 14 dc) 13 dc)) zak) rfl))))) ?_
      refine zac zg6 rfl dc (zba (by rfl) rfl) (show _=2 from rfl) ?_
      exact zaJ (b:=(b11,hd28,b12,hd29)) (b11,hd28,b12,hd29) 13 (by rfl) (by rfl) rfl (zhC (zct rfl)) (zab ((zal (by rfl)).trans (zag (fun hD=>hn (hcl 14 _ rfl (hcl 15 _ rfl (hcl 16 _ rfl (hcl 19 _ rfl hD 16 dc) 15 dc) 14 dc) 13 dc)) zak)) (zab (zal (by rfl)) (zab ((zal (by rfl)).trans (zag (fun hD=>hn (hcl 14 _ rfl (hcl 15 _ rfl (hcl 16 _ rfl hD 15 dc) 14 dc) 13 dc)) zak)) (zgi (zab (zal (by rfl)) (zab ((zal (by rfl)).trans (zag (fun hD=>hn (hcl 14 _ rfl (hcl 15 _ rfl hD 14 dc) 13 dc)) zak)) rfl))))))
     ·
      intro D b hn hd hcl
      obtain ⟨b11,hd28,b12,hd29⟩:=b
      refine zaD (zab (zag (fun hD=>hn (hcl 15 _ rfl (hcl 16 _ rfl (hcl 19 _ rfl hD 16 dc) 15 dc) 14 dc)) zak) (zab rfl (zab (zag (fun hD=>hn (hcl 15 _ rfl (hcl 16 _ rfl hD 15 dc) 14 dc)) zak) (zor (zab (zag (fun hD=>hn (hcl 15 _ rfl hD 14 dc)) zak) rfl))))) ?_
      refine zan (k:=8) zbC rfl dc (zaa (m:=13) rfl rfl (hd 13 dc)) rfl rfl ?_
      exact zaJ (b:=(b11,hd28,b12,hd29)) (b11,hd28,b12,hd29) 14 (by rfl) (by rfl) rfl (zhC (zct rfl)) (zab ((zal (by rfl)).trans (zag (fun hD=>hn (hcl 15 _ rfl (hcl 16 _ rfl (hcl 19 _ rfl hD 16 dc) 15 dc) 14 dc)) zak)) (zab (zal (by rfl)) (zab ((zal (by rfl)).trans (zag (fun hD=>hn (hcl 15 _ rfl (hcl 16 _ rfl hD 15 dc) 14 dc)) zak)) (zgi (zab (zal (by rfl)) (zab ((zal (by rfl)).trans (zag (fun hD=>hn (hcl 15 _ rfl hD 14 dc)) zak)) rfl))))))
     ·
      intro D b hn hd hcl
      obtain ⟨b11,hd28,zb2,hd29⟩:=b
      refine zaD (zab (zag (fun hD=>hn (hcl 16 _ rfl (hcl 19 _ rfl hD 16 dc) 15 dc)) zak) (zab rfl (zab (zag (fun hD=>hn (hcl 16 _ rfl hD 15 dc)) zak) (zor (zab (zag hn zak) rfl))))) ?_
      refine za1 (cs:=[zI x2.2.Stanza]) (te:=3) (ps:=[(0,.tmp 115)]) rfl dc (evP.cons (zaa (m:=14) rfl rfl (hd 14 dc)) evP.nil) (fun _=>by kernel_rfl) (fun b12 => ?_)
      refine zci 12 rfl rfl ?_
      exact zaJ (b:=(b11,hd28,zb2,hd29)) (b11,hd28,b12,hd29) 15 (by rfl) (by rfl) rfl (zne (zct (zam (fun hD=>absurd hD hn) (zne rfl)))) (zab ((zal (by rfl)).trans (zag (fun hD=>hn (hcl 16 _ rfl (hcl 19 _ rfl hD 16 dc) 15 dc)) zak)) (zab (zal (by rfl)) (zab ((zal (by rfl)).trans (zag (fun hD=>hn (hcl 16 _ rfl hD 15 dc)) zak)) (zgi (zab (zal (by rfl)) (zab (zaz (Or.inr rfl) rfl) rfl))))))
     ·
      intro D b hn hd hcl
      obtain ⟨b11,hd28,b12,zb3⟩:=b
      refine zaD (zab (zag (fun hD=>hn (hcl 19 _ rfl hD 16 dc)) zak) (zab (zaz (hd 8 dc) rfl) (zab (zag hn zak) (zgi (zab (zaz (hcl 8 _ rfl (hd 8 dc) 7 dc) rfl) (zab (zaz (hd 15 dc) rfl) rfl)))))) ?_
      refine zbc (k:=2) (k2:=12) (ys:=[x2.2.Stanza]) Tryz.underlying49 zm4 zbX zfg rfl dc (zaa (m:=12) rfl rfl (hd 12 dc)) (zaa (m:=15) rfl rfl (hd 15 dc)) rfl rfl rfl rfl hg8 (fun v5 => ?_)
      refine zbo (k:=2) rfl (fun hd29 he5 => ?_)
      subst he5
      exact zaJ (b:=(b11,hd28,b12,zb3)) (b11,hd28,b12,hd29) 16 (by rfl) (by rfl) rfl (zot (zct (zam (fun hD=>absurd hD hn) (znl rfl)))) (zab ((zal (by rfl)).trans (zag (fun hD=>hn (hcl 19 _ rfl hD 16 dc)) zak)) (zab ((zal (by rfl)).trans (zaz (hd 8 dc) rfl)) (zab (zaz (Or.inr rfl) rfl) (zgi (zab ((zal (by rfl)).trans (zaz (hcl 8 _ rfl (hd 8 dc) 7 dc) rfl)) (zab ((zal (by rfl)).trans (zaz (hd 15 dc) rfl)) rfl))))))
     ·
      intro D b hn hd hcl
      obtain ⟨b11,hd28,b12,hd29⟩:=b
      refine zaD (zab (zag (fun hD=>hn (hcl 18 _ rfl (hcl 19 _ rfl hD 18 dc) 17 dc)) zak) (zab (zaz (hd 8 dc) rfl) (zab (zaz (hd 16 dc) rfl) (zgi (zab (zaz (hd 7 dc) rfl) (zab (zaz (hcl 16 _ rfl (hd 16 dc) 15 dc) rfl) rfl)))))) ?_
      refine zap rfl dc (zaa (m:=0) rfl rfl (hd 0 dc)) ?_
      exact zaJ (b:=(b11,hd28,b12,hd29)) (b11,hd28,b12,hd29) 17 (by rfl) (by rfl) rfl (zhC (zct rfl)) (zab ((zal (by rfl)).trans (zag (fun hD=>hn (hcl 18 _ rfl (hcl 19 _ rfl hD 18 dc) 17 dc)) zak)) (zab ((zal (by rfl)).trans (zaz (hd 8 dc) rfl)) (zab ((zal (by rfl)).trans (zaz (hd 16 dc) rfl)) (zgi (zab ((zal (by rfl)).trans (zaz (hd 7 dc) rfl)) (zab ((zal (by rfl)).trans (zaz (hcl 16 _ rfl (hd 16 dc) 15 dc) rfl)) rfl))))))
     ·
      intro D b hn hd hcl
      obtain ⟨b11,hd28,b12,hd29⟩:=b
      refine zaD (zab (zag (fun hD=>hn (hcl 19 _ rfl hD 18 dc)) zak) (zab (zaz (hd 8 dc) rfl) (zab (zaz (hd 16 dc) rfl) (zgi (zab (zaz (hd 7 dc) rfl) (zab (zaz (hcl 16 _ rfl (hd 16 dc) 15 dc) rfl) rfl)))))) ?_
      refine zac zeI rfl dc (zaa (m:=17) rfl rfl (hd 17 dc)) (show _=0 from rfl) ?_
      exact zaJ (b:=(b11,hd28,b12,hd29)) (b11,hd28,b12,hd29) 18 (by rfl) (by rfl) rfl (zhC (zct rfl)) (zab ((zal (by rfl)).trans (zag (fun hD=>hn (hcl 19 _ rfl hD 18 dc)) zak)) (zab ((zal (by rfl)).trans (zaz (hd 8 dc) rfl)) (zab ((zal (by rfl)).trans (zaz (hd 16 dc) rfl)) (zgi (zab ((zal (by rfl)).trans (zaz (hd 7 dc) rfl)) (zab ((zal (by rfl)).trans (zaz (hcl 16 _ rfl (hd 16 dc) 15 dc) rfl)) rfl))))))
     ·
      intro D b hn hd hcl
      obtain ⟨b11,hd28,b12,hd29⟩:=b
      refine zaD (zab (zag hn zak) (zab (zaz (hd 8 dc) rfl) (zab (zaz (hd 16 dc) rfl) (zgi (zab (zaz (hd 7 dc) rfl) (zab (zaz (hcl 16 _ rfl (hd 16 dc) 15 dc) rfl) rfl)))))) ?_
      refine zaG (k:=0) (l':=[hd28.v,hd27.v,hd17.v,hd18.v,zI p1.heights]) znw rfl (zaa (m:=18) rfl rfl (hd 18 dc)) (zaa (m:=8) rfl rfl (hd 8 dc)) rfl rfl (fun _ _=>rfl) rfl ?_
      exact zgQ (b:=(b11,hd28,b12,hd29)) (b11,hd28,b12,hd29) (by rfl) (zhC (zct rfl)) (zab (zaz (Or.inr rfl) rfl) (zab ((zal (by rfl)).trans (zaz (hd 8 dc) rfl)) (zab ((zal (by rfl)).trans (zaz (hd 16 dc) rfl)) (zgi (zab ((zal (by rfl)).trans (zaz (hd 7 dc) rfl)) (zab ((zal (by rfl)).trans (zaz (hcl 16 _ rfl (hd 16 dc) 15 dc) rfl)) rfl))))))
     intro D b hall
     obtain ⟨b11,hd28,b12,hd29⟩:=b
     refine zaD (zab (zaz (hall 19 dc) rfl) (zab (zaz (hall 8 dc) rfl) (zab (zaz (hall 16 dc) rfl) (zgi (zab (zaz (hall 7 dc) rfl) (zab (zaz (hall 15 dc) rfl) rfl)))))) (zap rfl dc rfl (zac zhW rfl dc rfl (show _=1 from rfl) ?_))
     refine zaG (k:=0) (l':=[hd28.v,hd29.v,hd17.v,hd18.v,zI p1.heights]) zk9 rfl rfl rfl rfl rfl (fun _ _=>rfl) rfl ?_
     refine zaV (zai (zaE (zaA ?_)))
     obtain ⟨hg9,h⟩:=zbs h
     refine zaO rfl (zaT (r:=x5+1) (IntWalk.i64_in _ hg9)) (zyR 1 rfl (zaV ?_))
     subst hag2
     exact zaZ (n1,l24++[(⟨x2.1,x2.2.Stanza,x5,r3,r4,r5⟩:Gapi_Row)],l25++[x2.2.Stanza],x5+1,hd28,hd29) h (Nat.lt_succ_self _) rfl (za7 rfl) (zae [0,1,2,3,4,5,6,7,8,10] kr rfl)
    refine za6 (zao (zao (zaw (zai ?_))))
    exact zfQ (l24,l25,l18,l19.set (x2.2.Stanza:Int).toNat x2.1,cost4+r2.2,hd26,hd27,hd17,hd18) (fun post2 e2=>by have e9:=zeZ hxs1 e2; subst e9; subst hag1; exact h) (zae [0,1,2,3,4,5,6,7] kr rfl)
  ·
   rintro dm1 ⟨l14,l15,l16,l17,cost4,hd13,hd14,hd15,hd16⟩ hinv
   have h:dn1 l14 l15 l16 l17 cost4=some r:=hinv [] (List.append_nil _).symm
   rw [hdn1] at h
   refine zd1 (k:=18) (j:=5) rfl rfl dc ?_
   refine zai ?_
   exact zaq (l14,l15,l16,l17,cost4,hd13,hd14,hd15,hd16,b4,dm1::([]:List Nat)) h rfl (za7 rfl) (zae [10,11,12,13,14,17,5] kr rfl)
  rintro dm1 c pre x2 post g hxs hX
  exact (show False from hX).elim
 rintro ⟨l2,l3,l4,l5,cost1,hd1,hd2,hd3,hd4,b1,ds1⟩ h
 rw [hj1] at h
 refine zyG (zan (k:=5) zbC rfl dc rfl rfl rfl (zyR 1 rfl (zyN (zau ?_))))
 cases h
 exact zbR (rs:=[.tmp 6]) ds1 (hd1,hd2,hd3,hd4) (.inl rfl) (zaK (k:=6) rfl) Tryz.results65 (.cons (.tmp rfl) .nil) rfl (zae [0,1,2,3,4] kr rfl)
end Go.Proofs.YtbempdelckaccaaGreatDoor

namespace Go.Proofs.YtbempdelckaccaaGreatDoor
open Go.RowKit Go.Lib
set_option linter.unusedVariables false
set_option linter.unusedSimpArgs false
def zeA (r2:(Int×Gpage_parter)) (from3:Int) (j3:Int→(List Gapi_Row)→Option ((Option Gpage_Book)×Int)) (q1:Int) (ag2:(List Gapi_Row)→Int→Option ((Option Gpage_Book)×Int)) (page4:List Gapi_Row) (k3:Int):Option ((Option Gpage_Book)×Int) :=
zav (decide ((k3:Int)<q1)) (
zbp (fun (j4:(List Gapi_Row)→Option ((Option Gpage_Book)×Int)) =>
zav (decide ((from3:Int)<k3)) (
zar (zc9 r2.2.rows k3) fun (q2:Gapi_Row) =>
grd (I64 (k3 - 1)) <|
zar (zc9 r2.2.rows (k3 - 1)) fun (q3:Gapi_Row) =>
zav ((q2.Stanza:Int) != q3.Stanza) (
grd (page4.length+1≤2147483648) <|
j4 (page4++[(⟨(-1),0,0,0,0,ByteArray.empty⟩:Gapi_Row)])
) (
j4 page4
)
) (
j4 page4
)
) (fun (page5:List Gapi_Row) =>
zar (zc9 r2.2.rows k3) fun (q4:Gapi_Row) =>
grd (page5.length+1≤2147483648) <|
grd (I64 (k3+1)) <|
ag2 (page5++[q4]) (k3+1)
)
) (
j3 q1 page4
)
def zeB (j1:(List (List Gapi_Row))→Int→Option ((Option Gpage_Book)×Int)) (r2:(Int×Gpage_parter)) (r3:((List Int)×Int)) (ag1:(List (List Gapi_Row))→Int→Int→Option ((Option Gpage_Book)×Int)) (b9:List (List Gapi_Row)) (from3:Int) (x4:Int):Option ((Option Gpage_Book)×Int) :=
zav (decide ((x4:Int)<(r3.1.length:Int))) (
zbp (fun (j2:(List (List Gapi_Row))→Int→Option ((Option Gpage_Book)×Int)) =>
zbp (fun (j3:Int→(List Gapi_Row)→Option ((Option Gpage_Book)×Int)) =>
zar (zc9 r3.1 x4) fun (q1:Int) =>
za9 (fun _ _=>none) (zeA r2 from3 j3 q1) zcN ([]:List Gapi_Row) from3
) (fun (to1:Int) (page1:List Gapi_Row) =>
grd (b9.length+1≤2147483648) <|
j2 (b9++[page1]) to1
)
) (fun (b10:List (List Gapi_Row)) (from4:Int) =>
grd (I64 (x4+1)) <|
ag1 b10 from4 (x4+1)
)
) (
j1 b9 (r2.1+r3.2)
)
def zfO (x1:Gpoem_Poem) (l1:Gapi_Layout):Option ((Option Gpage_Book)×Int) :=
zar (zfN l1) fun (r1:Bool) =>
zav (!r1) (
some (none,2)
) (
zbp (fun (j1:(List (List Gapi_Row))→Int→Option ((Option Gpage_Book)×Int)) =>
zar (zdu (⟨([]:List Gapi_Row),([]:List Int),([]:List Int),([]:List Int),l1.Height⟩:Gpage_parter) x1 l1) fun (r2:(Int×Gpage_parter)) =>
zar (zdt r2.2) fun (r3:((List Int)×Int)) =>
grd (I64 (r2.1+r3.2)) <|
za9 (fun _ _ _=>none) (zeB j1 r2 r3) zcN ([]:List (List Gapi_Row)) 0 0
) (fun (b3:List (List Gapi_Row)) (b4:Int) =>
some ((some (⟨l1.Width,l1.Height,l1.Turn,l1.Every,b3,b4⟩:Gpage_Book)),0)
)
)
theorem zie {bx1:Nat} {x1:Gpoem_Poem} {x1_h0 x1_h1:Hd} {l1:Gapi_Layout} {r:((Option Gpage_Book)×Int)} (h:zfO x1 l1=some r):FnR Tryz.prog 28 [zP bx1,.agg (zr0 l1).toArray] [cells bx1 [.string x1.told_title,x1_h0.v,x1_h1.v,.string x1.source] 106,zv6 x1_h0.v x1.told_lines,zv7 x1_h1.v x1.told_stanzas] [] (fun v0:Value=>.tuple #[v0,zI r.2]) (fun v0=>[zfv zbe zbd 81 v0 r.1]):=by
 unfold zfO at h
 refine FnR.intro Tryz.func28 rfl Tryz.ntmps28 (by simp) ?_
 intro w0 K hrd
 refine zyG ?_
 refine zcP rfl dc rfl (fun b1 => ?_)
 refine zyR 2 rfl (zyN (zay (zaB (zyG (zyR 1 rfl (zaO rfl (zbB Tryz.underlying58) (zyR 1 rfl (zyN (zaL rfl ?_)))))))))
 refine zyG (zaY (k:=0) (cs:=(zr0 l1)) zjf rfl dc rfl rfl rfl rfl ?_)
 obtain ⟨r1,hq1,h⟩:=zbl h
 refine za5 (v:=.bool r1) (vs:=[.agg (zr0 l1).toArray]) rfl dc rfl rfl rfl znO (zib (l1:=l1) hq1) (zcZ rfl dc rfl zbZ (zyR 1 rfl (zyN ?_)))
 refine zyB rfl h (fun h => ?_) (fun h => ?_)
 ·
  refine zyG (zyR 2 rfl (zyN (zau (zaj (zah (zca zbe zbd 81 ?_))))))
  cases h
  exact zaC (rs:=[.tmp 4,.tmp 5]) (.pointer none) (.inl rfl) Tryz.results28 (.cons (.tmp rfl) (.cons (.tmp rfl) .nil)) rfl (zae [1] kr rfl)
 refine zat (zai (zaE ?_))
 obtain ⟨j1,hj1,h⟩:=zbw h
 refine zaU (β:=(List (List Gapi_Row))×Int×Nat×Hd) 5 rfl (fun b=>j1 b.1 b.2.1=some r) (fun b=>[]) (fun b=>[(7,zP b.2.2.1)]) (fun b=>[cells b.2.2.1 [zI l1.Width,zI l1.Height,zI l1.Turn,zI l1.Every,b.2.2.2.v,zI b.2.1] 81,zfp zaN zaX 43 1 b.2.2.2.v b.1]) (fun cut => ?_) ?_
 ·
  refine zyG (zac zkj rfl dc rfl (show _=1 from rfl) (zan (k:=0) zbC rfl dc rfl rfl rfl ?_))
  refine zbg (v:=.agg #[.slice none 0 0,.slice none 0 0,.slice none 0 0,.slice none 0 0,zI l1.Height]) (ps:=[(4,.tmp 23)]) rfl dc rfl (fun _=>by kernel_rfl) ?_
  refine zcP rfl dc rfl (fun b5 => ?_)
  refine zyR 1 rfl (zyN (zay ?_))
  obtain ⟨r2,hq2,h⟩:=zbl h
  refine ze5 4 ?_
  refine let vals1:(Hd×Hd×Hd×Hd)→List (Nat×Nat×Value):=fun b=>[(0,26,.agg (zr0 l1).toArray),(1,27,zP b5),(2,28,zP bx1),(3,29,.agg (zr0 l1).toArray),(4,30,zI r2.1)]; let LL1:(Nat→Prop)→(Hd×Hd×Hd×Hd)→List Asn:=fun D b=>[cells b1 (zr0 l1) 23,eD D (cells b5 [.slice none 0 0,.slice none 0 0,.slice none 0 0,.slice none 0 0,zI l1.Height] 131) [(4,cells b5 [b.1.v,b.2.1.v,b.2.2.1.v,b.2.2.2.v,zI r2.2.heights] 131)],eD D emp [(4,zv1 b.1.v r2.2.rows)],eD D emp [(4,zv0 b.2.1.v r2.2.blanks)],eD D emp [(4,zv0 b.2.2.1.v r2.2.firsts)],eD D emp [(4,zv0 b.2.2.2.v r2.2.lasts)]]; ?_
  have zhq:zyQ [4] LL1:=fun i h D b=>zab rfl (zab (ziw rfl h) (zab (ziw rfl h) (zab (ziw rfl h) (zab (ziw rfl h) (zab (ziw rfl h) rfl)))))
  refine zc3 (β:=Hd×Hd×Hd×Hd) 5 (Hd.nil,Hd.nil,Hd.nil,Hd.nil) vals1 LL1 mixed kr kr dc (fun _=>rfl) (zab rfl (zab zbr (zab zbr (zab zbr (zab zbr (zab zbr rfl)))))) (zgV zhq rfl (fun _=>rfl) (fun _=>rfl) ?_ (zj4 zhq (fun _=>rfl) (fun _=>rfl) 2 1 (fun _=>rfl) rfl (zgV zhq rfl (fun _=>rfl) (fun _=>rfl) ?_ (zas ?_ DrawG.nil)))) ?_
  · exact fun D ⟨hd2,hd3,hd4,hd5⟩ n d c u i=>⟨_,(zmE rfl),zaY (k:=0) (cs:=(zr0 l1)) zjf rfl dc (zba (by rfl) rfl) rfl rfl rfl (zaf 0 u i rfl)⟩
  · exact fun D ⟨hd2,hd3,hd4,hd5⟩ n d c u i=>⟨_,(zab rfl (zab (zag (fun hD=>n (c 4 _ rfl hD 3 dc)) zak) (zab (zag (fun hD=>n (c 4 _ rfl hD 3 dc)) zak) (zab (zag (fun hD=>n (c 4 _ rfl hD 3 dc)) zak) (zab (zag (fun hD=>n (c 4 _ rfl hD 3 dc)) zak) (zab (zag (fun hD=>n (c 4 _ rfl hD 3 dc)) zak) rfl)))))),zaY (k:=0) (cs:=(zr0 l1)) zjf rfl dc (zba (by rfl) rfl) rfl rfl rfl (zaf 3 u i rfl)⟩
  ·
   intro D b hn hd hcl
   obtain ⟨zb0,zb1,zb2,zb3⟩:=b
   refine zaD (zab rfl (zab (zag hn zak) (zab (zag hn zak) (zab (zag hn zak) (zab (zag hn zak) (zab (zag hn zak) rfl)))))) (ze3 (enc:=zbI) (e:=33) (size:=6) ?_)
   refine ze3 (enc:=(zmh (.i64))) (e:=3) (size:=1) ?_
   refine ze3 (enc:=(zmh (.i64))) (e:=3) (size:=1) ?_
   refine ze3 (enc:=(zmh (.i64))) (e:=3) (size:=1) ?_
   refine zd6 (vs:=[zP b5,zP bx1,.agg (zr0 l1).toArray]) hrd rfl dc rfl (evL.cons (zaa (m:=1) rfl rfl (hd 1 dc)) (evL.cons (zaa (m:=2) rfl rfl (hd 2 dc)) (evL.cons (zaa (m:=3) rfl rfl (hd 3 dc)) evL.nil))) rfl zoV (zfV (bp1:=b5) (p1:=(⟨([]:List Gapi_Row),([]:List Int),([]:List Int),([]:List Int),l1.Height⟩:Gpage_parter)) (p1_h0:=Hd.nil) (p1_h1:=Hd.nil) (p1_h2:=Hd.nil) (p1_h3:=Hd.nil) (bx1:=bx1) (x1:=x1) (x1_h0:=x1_h0) (x1_h1:=x1_h1) (l1:=l1) hq2) (zae [1,6,7,8,9] kr rfl) (.ro 0 rfl (.ro 1 rfl (.ro 2 rfl .nil))) ?_
   rintro ⟨hd2,hd3,hd4,hd5⟩
   refine zbM (L':=[cells b1 (zr0 l1) 23,cells b5 [hd2.v,hd3.v,hd4.v,hd5.v,zI r2.2.heights] 131,emp,emp,emp,emp,zv1 hd2.v r2.2.rows,zv0 hd3.v r2.2.blanks,zv0 hd4.v r2.2.firsts,zv0 hd5.v r2.2.lasts]) (zae [0,10,2,3,4,5,11,12,13,14] kr rfl) (zci 5 rfl rfl ?_)
   refine zci 4 rfl rfl ?_
   refine zci 3 rfl rfl ?_
   refine zci 2 rfl rfl ?_
   exact zaJ (b:=(zb0,zb1,zb2,zb3)) (hd2,hd3,hd4,hd5) 4 (by rfl) (by rfl) rfl (zjx rfl) (zab rfl (zab (zaz (Or.inr rfl) rfl) (zab (zaz (Or.inr rfl) rfl) (zab (zaz (Or.inr rfl) rfl) (zab (zaz (Or.inr rfl) rfl) (zab (zaz (Or.inr rfl) rfl) rfl))))))
  intro D b hall
  obtain ⟨hd2,hd3,hd4,hd5⟩:=b
  refine zaD (zab rfl (zab (zaz (hall 4 dc) rfl) (zab (zaz (hall 4 dc) rfl) (zab (zaz (hall 4 dc) rfl) (zab (zaz (hall 4 dc) rfl) (zab (zaz (hall 4 dc) rfl) rfl)))))) ?_
  refine zbg (v:=.agg #[zI l1.Width,zI l1.Height,zI l1.Turn,zI l1.Every,.slice none 0 0,zI r2.1]) (ps:=[(0,.tmp 26),(2,.tmp 30)]) rfl dc rfl (fun _=>by kernel_rfl) ?_
  refine zcP rfl dc rfl (fun b6 => ?_)
  refine zyR 1 rfl (zyH (zyR 1 rfl ?_))
  obtain ⟨r3,hq3,h⟩:=zbl h
  refine zd6 (vs:=[zP b5]) hrd rfl dc rfl rfl rfl zoU (zfU (bp1:=b5) (p1:=r2.2) (p1_h0:=hd2) (p1_h1:=hd3) (p1_h2:=hd4) (p1_h3:=hd5) hq3) Splits.nil (.own (zae [1] (by kernel_rfl) rfl) (fun _ _ h=>sepL.one1.1 h) (.own (zae [2] (by kernel_rfl) rfl) (fun _ _ h=>sepL.one1.1 h) (.own (zae [3] (by kernel_rfl) rfl) (fun _ _ h=>sepL.one1.1 h) (.own (zae [4] (by kernel_rfl) rfl) (fun _ _ h=>sepL.one1.1 h) (.own (zae [5] (by kernel_rfl) rfl) (fun _ _ h=>sepL.one1.1 h) .nil))))) ?_
  rintro v1
  refine zbo (k:=7) rfl (fun hd6 he1 => ?_)
  subst he1
  refine zyR 1 rfl (zax rfl dc rfl rfl (zax rfl dc rfl rfl (zyR 2 rfl (zyH (zyR 1 rfl (zap rfl dc rfl (zac zkg rfl dc rfl (show _=5 from rfl) (zan (k:=6) zbC rfl dc rfl rfl rfl (zyR 1 rfl ?_)))))))))
  obtain ⟨hg1,h⟩:=zbs h
  refine zaO rfl (zaT (r:=r2.1+r3.2) (IntWalk.i64_in _ hg1)) (zap rfl dc rfl (zac zkg rfl dc rfl (show _=5 from rfl) ?_))
  refine zaG (k:=6) (l':=[zI l1.Width,zI l1.Height,zI l1.Turn,zI l1.Every,.slice none 0 0,zI (r2.1+r3.2)]) zeX rfl rfl rfl rfl rfl (fun _ _=>rfl) rfl ?_
  refine zyH (zyR 1 rfl (zyN (cut (zyG (zyR 1 rfl (zcr (k:=7) rfl dc rfl rfl Tryz.underlying49 (zyR 1 rfl (zaV ?_))))))))
  refine zaE (zaB (zlO (enc:=zaN) (nest:=zaX) (e:=43) (size:=1) ?_))
  refine zbm (β:=Nat×(List (List Gapi_Row))×Int×Int×Hd) (fun b=>za9 (fun _ _ _=>none) (zeB j1 r2 r3) b.1 b.2.1 b.2.2.1 b.2.2.2.1=some r) (fun b=>[]) (fun b=>[(6,zP b5),(7,zP b6),(10,zI b.2.2.1),(46,hd6.v),(47,zI (r3.1.length:Int)),(48,zI b.2.2.2.1)]) (fun b=>[cells b5 [hd2.v,hd3.v,hd4.v,hd5.v,zI r2.2.heights] 131,zv1 hd2.v r2.2.rows,zv0 hd3.v r2.2.blanks,zv0 hd4.v r2.2.firsts,zv0 hd5.v r2.2.lasts,cells b6 [zI l1.Width,zI l1.Height,zI l1.Turn,zI l1.Every,b.2.2.2.2.v,zI (r2.1+r3.2)] 81,zfp zaN zaX 43 1 b.2.2.2.2.v b.2.1,zv0 hd6.v r3.1]) (fun b=>b.1) (zcN,([]:List (List Gapi_Row)),0,0,Hd.nil) h rfl (za7 rfl) (zae [1,2,3,4,5,6,8,7] kr rfl) ?_
  rintro ⟨n1,b9,from3,x4,hd9⟩ h
  cases n1 with
  | zero=>exact zcS h
  | succ n1 =>
   obtain ⟨ag1,hag1⟩:∃ ag,ag=za9 (fun _ _ _=>none) (zeB j1 r2 r3) n1:=⟨_,rfl⟩
   have h:zeB j1 r2 r3 ag1 b9 from3 x4=some r:=by rw [hag1]; exact h
   unfold zeB at h
   refine zyG (zaO rfl zbv (zyN (zay ?_)))
   refine zyB rfl h (fun h => ?_) (fun h => ?_)
   ·
    refine zat (zaE ?_)
    obtain ⟨j2,hj2,h⟩:=zbw h
    refine zaU (β:=(List (List Gapi_Row))×Int×Hd) 0 rfl (fun b=>j2 b.1 b.2.1=some r) (fun b=>[]) (fun b=>[(6,zP b5),(7,zP b6),(10,zI b.2.1),(46,hd6.v),(47,zI (r3.1.length:Int)),(48,zI x4)]) (fun b=>[cells b5 [hd2.v,hd3.v,hd4.v,hd5.v,zI r2.2.heights] 131,zv1 hd2.v r2.2.rows,zv0 hd3.v r2.2.blanks,zv0 hd4.v r2.2.firsts,zv0 hd5.v r2.2.lasts,cells b6 [zI l1.Width,zI l1.Height,zI l1.Turn,zI l1.Every,b.2.2.v,zI (r2.1+r3.2)] 81,zfp zaN zaX 43 1 b.2.2.v b.1,zv0 hd6.v r3.1]) (fun cut => ?_) ?_
    ·
     refine cut (zaB ?_)
     obtain ⟨j3,hj3,h⟩:=zbw h
     refine zaU (β:=Int×(List Gapi_Row)×Hd) 2 rfl (fun b=>j3 b.1 b.2.1=some r) (fun b=>[]) (fun b=>[(6,zP b5),(7,zP b6),(12,zI b.1),(13,b.2.2.v),(46,hd6.v),(47,zI (r3.1.length:Int)),(48,zI x4)]) (fun b=>[cells b5 [hd2.v,hd3.v,hd4.v,hd5.v,zI r2.2.heights] 131,zv1 hd2.v r2.2.rows,zv0 hd3.v r2.2.blanks,zv0 hd4.v r2.2.firsts,zv0 hd5.v r2.2.lasts,cells b6 [zI l1.Width,zI l1.Height,zI l1.Turn,zI l1.Every,hd9.v,zI (r2.1+r3.2)] 81,zfp zaN zaX 43 1 hd9.v b9,zv1 b.2.2.v b.2.1,zv0 hd6.v r3.1]) (fun cut => ?_) ?_
     ·
      refine zyG ?_
      obtain ⟨q1,hq4,h⟩:=zbl h
      refine zaM (k:=7) hq4 Tryz.underlying49 zeX rfl dc rfl rfl rfl rfl (zbi (i:=(x4:Int).toNat) (j:=0) (k:=7) (q:=q1) zbC zbX rfl dc rfl rfl (za4 hq4) rfl dc rfl (zyR 1 rfl (zyH (zyR 1 rfl (zyN (cut (zyG (zyR 1 rfl ?_))))))))
      refine zyR 1 rfl (zyN (zaB (zdQ (enc:=zbI) (e:=33) (size:=6) ?_)))
      refine zbm (β:=Nat×(List Gapi_Row)×Int×Hd) (fun b=>za9 (fun _ _=>none) (zeA r2 from3 j3 q1) b.1 b.2.1 b.2.2.1=some r) (fun b=>[]) (fun b=>[(6,zP b5),(7,zP b6),(10,zI from3),(12,zI q1),(13,b.2.2.2.v),(14,zI b.2.2.1),(46,hd6.v),(47,zI (r3.1.length:Int)),(48,zI x4)]) (fun b=>[cells b5 [hd2.v,hd3.v,hd4.v,hd5.v,zI r2.2.heights] 131,zv1 hd2.v r2.2.rows,zv0 hd3.v r2.2.blanks,zv0 hd4.v r2.2.firsts,zv0 hd5.v r2.2.lasts,cells b6 [zI l1.Width,zI l1.Height,zI l1.Turn,zI l1.Every,hd9.v,zI (r2.1+r3.2)] 81,zfp zaN zaX 43 1 hd9.v b9,zv1 b.2.2.2.v b.2.1,zv0 hd6.v r3.1]) (fun b=>b.1) (zcN,([]:List Gapi_Row),from3,Hd.nil) h rfl (za7 rfl) (zae [0,1,2,3,4,5,6,8,7] kr rfl) ?_
      rintro ⟨n2,page4,k3,hd14⟩ h
      cases n2 with
      | zero=>exact zcS h
      | succ n2 =>
       obtain ⟨ag2,hag2⟩:∃ ag,ag=za9 (fun _ _=>none) (zeA r2 from3 j3 q1) n2:=⟨_,rfl⟩
       have h:zeA r2 from3 j3 q1 ag2 page4 k3=some r:=by rw [hag2]; exact h
       unfold zeA at h
       refine zay (zyG (zyR 2 rfl (zaO rfl zbv (zyN ?_))))
       refine zyB rfl h (fun h => ?_) (fun h => ?_)
       ·
        refine zat (zaE (zay (zaB ?_)))
        obtain ⟨j4,hj4,h⟩:=zbw h
        refine zaU (β:=(List Gapi_Row)×Hd) 0 rfl (fun b=>j4 b.1=some r) (fun b=>[]) (fun b=>[(6,zP b5),(7,zP b6),(10,zI from3),(12,zI q1),(13,b.2.v),(14,zI k3),(46,hd6.v),(47,zI (r3.1.length:Int)),(48,zI x4)]) (fun b=>[cells b5 [hd2.v,hd3.v,hd4.v,hd5.v,zI r2.2.heights] 131,zv1 hd2.v r2.2.rows,zv0 hd3.v r2.2.blanks,zv0 hd4.v r2.2.firsts,zv0 hd5.v r2.2.lasts,cells b6 [zI l1.Width,zI l1.Height,zI l1.Turn,zI l1.Every,hd9.v,zI (r2.1+r3.2)] 81,zfp zaN zaX 43 1 hd9.v b9,zv1 b.2.v b.1,zv0 hd6.v r3.1]) (fun cut => ?_) ?_
        ·
         refine cut (zay ?_)
         refine zev (b:=decide ((from3:Int)<k3)) (fun hb4 => ?_) (fun hb4 => ?_)
         ·
          have h:=zfI hb4 h
          obtain ⟨q2,hq5,h⟩:=zbl h
          obtain ⟨hg2,h⟩:=zbs h
          obtain ⟨q3,hq6,h⟩:=zbl h
          refine zbj 21 [(0,58,zI k3),(1,59,zI from3),(2,60,.bool true),(3,61,.bool true),(4,62,zP b5),(5,63,zP b5),(6,64,zP b5),(7,65,hd2.v),(8,66,zI k3),(9,67,.pointer (some ⟨zcL hd2.v,(k3:Int).toNat*6,none⟩)),(10,68,.pointer (some ⟨zcL hd2.v,((k3:Int).toNat)*6+1,none⟩)),(11,69,zI q2.Stanza),(12,70,zP b5),(13,71,zP b5),(14,72,zP b5),(15,73,hd2.v),(16,74,zI k3),(17,75,zI (k3 - 1)),(18,76,.pointer (some ⟨zcL hd2.v,(k3 - 1:Int).toNat*6,none⟩)),(19,77,.pointer (some ⟨zcL hd2.v,((k3 - 1:Int).toNat)*6+1,none⟩)),(20,78,zI q3.Stanza)] mixed kr kr dc (by rfl) kr kr (zyP 2 0 rfl (zad ?_ (zyP 2 3 rfl (zad ?_ (zad ?_ (zad ?_ (zyP 1 8 rfl (zad ?_ (zad ?_ (zad ?_ (zyP 1 12 rfl (zad ?_ (zad ?_ (zad ?_ (zyP 1 16 rfl (zad ?_ (zad ?_ (zad ?_ (zad ?_ DrawPre.nil))))))))))))))))))) ?_
          · exact fun D n d c u i=>zbJ rfl dc (zaa (m:=0) u rfl (d 0 dc)) (zaa (m:=1) u rfl (d 1 dc)) zcY (zeW (show Value.bool (decide ((from3:Int)<k3))=Value.bool true from congrArg Value.bool hb4) (zaf 2 u i rfl))
          · exact fun D n d c u i=>zap (zdC rfl (zaa (m:=3) u rfl (d 3 dc))) dc (zaa (m:=4) u rfl (d 4 dc)) (zaf 5 u i rfl)
          · exact fun D n d c u i=>zac zeI (zdC rfl (zaa (m:=3) u rfl (d 3 dc))) dc (zaa (m:=5) u rfl (d 5 dc)) (show _=0 from rfl) (zaf 6 u i rfl)
          · exact fun D n d c u i=>zan (k:=0) zjF (zdC rfl (zaa (m:=3) u rfl (d 3 dc))) dc (zaa (m:=6) u rfl (d 6 dc)) rfl rfl (zaf 7 u i rfl)
          · exact fun D n d c u i=>zaM (k:=1) hq5 Tryz.underlying43 zf1 (zdC rfl (zaa (m:=3) u rfl (d 3 dc))) dc (zaa (m:=7) u rfl (d 7 dc)) (zaa (m:=8) u rfl (d 8 dc)) rfl rfl (zaf 9 u i rfl)
          · exact fun D n d c u i=>zac zdm (zdC rfl (zaa (m:=3) u rfl (d 3 dc))) dc (zaa (m:=9) u rfl (d 9 dc)) (show _=((k3:Int).toNat)*6+1 from rfl) (zaf 10 u i rfl)
          · exact fun D n d c u i=>zbi (i:=(k3:Int).toNat) (j:=1) (k:=1) (q:=q2) zbC zbA (zdC rfl (zaa (m:=3) u rfl (d 3 dc))) dc (zaa (m:=10) u rfl (d 10 dc)) rfl (za4 hq5) rfl dc rfl (zaf 11 u i rfl)
          · exact fun D n d c u i=>zap (zdC rfl (zaa (m:=3) u rfl (d 3 dc))) dc (zaa (m:=12) u rfl (d 12 dc)) (zaf 13 u i rfl)
          · exact fun D n d c u i=>zac zeI (zdC rfl (zaa (m:=3) u rfl (d 3 dc))) dc (zaa (m:=13) u rfl (d 13 dc)) (show _=0 from rfl) (zaf 14 u i rfl)
          · exact fun D n d c u i=>zan (k:=0) zjF (zdC rfl (zaa (m:=3) u rfl (d 3 dc))) dc (zaa (m:=14) u rfl (d 14 dc)) rfl rfl (zaf 15 u i rfl)
          · exact fun D n d c u i=>zbJ (zdC rfl (zaa (m:=3) u rfl (d 3 dc))) dc (zaa (m:=16) u rfl (d 16 dc)) rfl (zbD (r:=k3 - 1) (IntWalk.i64_in _ hg2)) (zaf 17 u i rfl)
          · exact fun D n d c u i=>zaM (k:=1) hq6 Tryz.underlying43 zf1 (zdC rfl (zaa (m:=3) u rfl (d 3 dc))) dc (zaa (m:=15) u rfl (d 15 dc)) (zaa (m:=17) u rfl (d 17 dc)) rfl rfl (zaf 18 u i rfl)
          · exact fun D n d c u i=>zac zdm (zdC rfl (zaa (m:=3) u rfl (d 3 dc))) dc (zaa (m:=18) u rfl (d 18 dc)) (show _=((k3 - 1:Int).toNat)*6+1 from rfl) (zaf 19 u i rfl)
          · exact fun D n d c u i=>zbi (i:=(k3 - 1:Int).toNat) (j:=1) (k:=1) (q:=q3) zbC zbA (zdC rfl (zaa (m:=3) u rfl (d 3 dc))) dc (zaa (m:=19) u rfl (d 19 dc)) rfl (za4 hq6) rfl dc rfl (zaf 20 u i rfl)
          refine zaO rfl zbq (zyR 1 rfl (zyN ?_))
          refine zyB rfl h (fun h => ?_) (fun h => ?_)
          ·
           refine zaA (zyR 1 rfl ?_)
           refine zbg (v:=.agg #[zI (-1),zI 0,zI 0,zI 0,zI 0,.string ByteArray.empty]) (ps:=[(0,.const (zI (-1)))]) rfl dc rfl (fun _=>by kernel_rfl) ?_
           refine za1 (cs:=[zI (-1),zI 0,zI 0,zI 0,zI 0,.string ByteArray.empty]) (te:=33) (ps:=[(0,.tmp 82)]) rfl dc rfl (fun _=>by kernel_rfl) (fun b11 => ?_)
           obtain ⟨hg3,h⟩:=zbs h
           refine zbc (k:=7) (k2:=9) (ys:=[(⟨(-1),0,0,0,0,ByteArray.empty⟩:Gapi_Row)]) Tryz.underlying43 zm3 zbA zen rfl dc rfl rfl rfl rfl rfl rfl hg3 (fun v2 => ?_)
           refine zbo (k:=7) rfl (fun hd16 he2 => ?_)
           subst he2
           refine zyR 1 rfl (zaV ?_)
           exact zaq (page4++[(⟨(-1),0,0,0,0,ByteArray.empty⟩:Gapi_Row)],hd16) h rfl (za7 rfl) (zae [0,1,2,3,4,5,6,7,8] kr rfl)
          refine zat ?_
          exact zaq (page4,hd14) h rfl (za7 rfl) (zae [0,1,2,3,4,5,6,7,8] kr rfl)
         have h:=zfJ hb4 h
         refine zbj 21 [(0,58,zI k3),(1,59,zI from3),(2,60,.bool false),(3,61,.bool false),(4,62,undef),(5,63,undef),(6,64,undef),(7,65,undef),(8,66,undef),(9,67,undef),(10,68,undef),(11,69,undef),(12,70,undef),(13,71,undef),(14,72,undef),(15,73,undef),(16,74,undef),(17,75,undef),(18,76,undef),(19,77,undef),(20,78,undef)] mixed kr kr dc (by rfl) kr kr (zyP 2 0 rfl (zad ?_ (zyP 18 3 rfl DrawPre.nil))) ?_
         · exact fun D n d c u i=>zbJ rfl dc (zaa (m:=0) u rfl (d 0 dc)) (zaa (m:=1) u rfl (d 1 dc)) zcY (zeW (show Value.bool (decide ((from3:Int)<k3))=Value.bool false from congrArg Value.bool hb4) (zaf 2 u i rfl))
         refine zyR 2 rfl (zyN (zaL rfl (zat ?_)))
         exact zaq (page4,hd14) h rfl (za7 rfl) (zae [0,1,2,3,4,5,6,7,8] kr rfl)
        rintro ⟨page5,hd15⟩ h
        rw [hj4] at h
        refine zaA (zyR 2 rfl (zap rfl dc rfl (zac zeI rfl dc rfl (show _=0 from rfl) (zan (k:=0) zjF rfl dc rfl rfl rfl (zyR 1 rfl ?_)))))
        obtain ⟨q4,hq7,h⟩:=zbl h
        refine zaM (k:=1) hq7 Tryz.underlying43 zf1 rfl dc rfl rfl rfl rfl (zgg (i:=(k3:Int).toNat) (j:=0) (k:=1) (q:=q4) (cs:=(zr4 q4)) ziB zbA rfl dc rfl rfl (za4 hq7) rfl rfl rfl ?_)
        refine za1 (cs:=(zr4 q4)) (te:=33) (ps:=[(0,.tmp 92)]) rfl dc rfl (fun _=>by kernel_rfl) (fun b12 => ?_)
        obtain ⟨hg4,h⟩:=zbs h
        refine zbc (k:=7) (k2:=9) (ys:=[q4]) Tryz.underlying43 zm3 zbA zen rfl dc rfl rfl rfl rfl rfl rfl hg4 (fun v3 => ?_)
        refine zbo (k:=7) rfl (fun hd17 he3 => ?_)
        subst he3
        refine zyR 1 rfl (zaV (zai (zaE (zaA (zyR 1 rfl ?_)))))
        obtain ⟨hg5,h⟩:=zbs h
        refine zaO rfl (zaT (r:=k3+1) (IntWalk.i64_in _ hg5)) (zyR 1 rfl (zaV ?_))
        subst hag2
        exact zaZ (n2,page5++[q4],k3+1,hd17) h (Nat.lt_succ_self _) rfl (za7 rfl) (zae [0,1,2,3,4,5,6,7,8] kr rfl)
       refine za6 (zao (zao (zaw ?_)))
       exact zaq (q1,page4,hd14) h rfl (za7 rfl) (zae [0,1,2,3,4,5,6,7,8] kr rfl)
     rintro ⟨to1,page1,hd11⟩ h
     rw [hj3] at h
     refine zaA (zyR 2 rfl (zap rfl dc rfl (zac zjj rfl dc rfl (show _=4 from rfl) (zan (k:=5) zmM rfl dc rfl rfl rfl (zyR 1 rfl ?_)))))
     refine za1 (cs:=[hd11.v]) (te:=43) (ps:=[(0,.tmp 100)]) rfl dc rfl (fun _=>by kernel_rfl) (fun b13 => ?_)
     refine zhl (k:=6) rfl zl5 (fun zs1 hz1 => ?_)
     obtain ⟨hg6,h⟩:=zbs h
     refine zbc (k:=6) (k2:=9) (ys:=[(page1,hd11)]) Tryz.underlying79 zpe zdM zgM rfl dc rfl rfl rfl rfl rfl rfl (by rw [zoz hz1]; exact hg6) (fun v4 => ?_)
     refine zbo (k:=6) rfl (fun hd18 he4 => ?_)
     subst he4
     refine zgS (k:=10) rfl (zae [7] kr rfl) rfl (zmv (nest:=zaX) (zs:=zs1) (z:=(page1,hd11))) ?_
     refine zgS (k:=6) rfl (zae [10] kr rfl) rfl (zkH (enc:=zaN) (nest:=zaX) (zpr hz1)) ?_
     refine zbM (L':=[cells b5 [hd2.v,hd3.v,hd4.v,hd5.v,zI r2.2.heights] 131,zv1 hd2.v r2.2.rows,zv0 hd3.v r2.2.blanks,zv0 hd4.v r2.2.firsts,zv0 hd5.v r2.2.lasts,cells b6 [zI l1.Width,zI l1.Height,zI l1.Turn,zI l1.Every,hd9.v,zI (r2.1+r3.2)] 81,zfp zaN zaX 43 1 hd18.v (b9++[page1]),emp,zv0 hd6.v r3.1,cells b13 [hd11.v] 43]) (zae [0,1,2,3,4,5,6,7,8,9] kr rfl) (zyR 1 rfl (zap rfl dc rfl (zac zjj rfl dc rfl (show _=4 from rfl) ?_)))
     refine zaG (k:=5) (l':=[zI l1.Width,zI l1.Height,zI l1.Turn,zI l1.Every,hd18.v,zI (r2.1+r3.2)]) zoC rfl rfl rfl rfl rfl (fun _ _=>rfl) rfl ?_
     refine zyR 1 rfl (zaV (zai ?_))
     exact zaq (b9++[page1],to1,hd18) h rfl (za7 rfl) (zae [0,1,2,3,4,5,6,8] kr rfl)
    rintro ⟨b10,from4,hd10⟩ h
    rw [hj2] at h
    refine zaA ?_
    obtain ⟨hg7,h⟩:=zbs h
    refine zaO rfl (zaT (r:=x4+1) (IntWalk.i64_in _ hg7)) (zyR 1 rfl (zaV ?_))
    subst hag1
    exact zaZ (n1,b10,from4,x4+1,hd10) h (Nat.lt_succ_self _) rfl (za7 rfl) (zae [0,1,2,3,4,5,6,7] kr rfl)
   refine za6 (zao (zao (zaw ?_)))
   exact zaq (b9,r2.1+r3.2,b6,hd9) h rfl (za7 rfl) (zae [5,6] kr rfl)
 rintro ⟨b3,b4,b2,hd1⟩ h
 rw [hj1] at h
 refine zyG (zyR 3 rfl (zyN (zau ?_)))
 refine zkp (As:=[cells b2 [zI l1.Width,zI l1.Height,zI l1.Turn,zI l1.Every,hd1.v,zI b4] 81,zfp zaN zaX 43 1 hd1.v b3]) (zae [0,1] kr rfl) (zhn (enc:=zbe) (nest:=zbd) (t:=81) (x:=(⟨l1.Width,l1.Height,l1.Turn,l1.Every,b3,b4⟩:Gpage_Book)) (b:=b2) (hd:=hd1)) (fun _ _ => ?_)
 cases h
 exact zaC (rs:=[.tmp 4,.tmp 5]) (zP b2) (.inl rfl) Tryz.results28 (.cons (.tmp rfl) (.cons (.tmp rfl) .nil)) rfl (zae [2] kr rfl)
def zdY (b1:Gpage_Book):Option Int :=
some (b1.pages.length:Int)
theorem zgu {bb1:Nat} {b1:Gpage_Book} {b1_h0:Hd} {r:Int} (h:zdY b1=some r):FnR Tryz.prog 16 [zP bb1] [cells bb1 [zI b1.layout_Width,zI b1.layout_Height,zI b1.layout_Turn,zI b1.layout_Every,b1_h0.v,zI b1.cost] 81,zfp zaN zaX 43 1 b1_h0.v b1.pages] [] (fun _:Unit=>(zI r)) (fun _=>[]):=by
 unfold zdY at h
 refine FnR.intro Tryz.func16 rfl Tryz.ntmps16 (by simp) ?_
 intro w0 K hrd
 refine zyG (zyR 1 rfl (zyN (zay (zyG (zyR 1 rfl (zaO rfl (zbB Tryz.underlying25) (zyN (zaL rfl (zat ?_)))))))))
 refine zaE (zyG (zyR 1 rfl (zap rfl dc rfl (zac zjj rfl dc rfl (show _=4 from rfl) (zaS (i:=0) hrd rfl zmM rfl dc rfl rfl ?_)))))
 obtain ⟨zs1,hz1,hV1,hrd⟩:=hrd.openN (i:=1) rfl zdM zfE
 replace hrd:Rd _ _ [cells bb1 [zI b1.layout_Width,zI b1.layout_Height,zI b1.layout_Turn,zI b1.layout_Every,b1_h0.v,zI b1.cost] 81,zfp zaN zaX 43 1 b1_h0.v b1.pages,zdR zaN 1 b1_h0.v 0 zs1,ze9 zcH zs1]:=hrd
 refine ze4 hz1 hV1 rfl dc rfl Tryz.underlying79 (zyR 1 rfl (zyN (zau ?_)))
 cases h
 exact zaC (rs:=[.tmp 2]) () (.inl rfl) Tryz.results16 (.cons (.tmp rfl) .nil) rfl Splits.nil
def zem (b1:Gpage_Book):Option Int :=
some b1.cost
theorem zg5 {bb1:Nat} {b1:Gpage_Book} {b1_h0:Hd} {r:Int} (h:zem b1=some r):FnR Tryz.prog 18 [zP bb1] [cells bb1 [zI b1.layout_Width,zI b1.layout_Height,zI b1.layout_Turn,zI b1.layout_Every,b1_h0.v,zI b1.cost] 81,zfp zaN zaX 43 1 b1_h0.v b1.pages] [] (fun _:Unit=>(zI r)) (fun _=>[]):=by
 unfold zem at h
 refine FnR.intro Tryz.func18 rfl Tryz.ntmps18 (by simp) ?_
 intro w0 K hrd
 refine zyG (zyR 1 rfl (zyN (zay (zyG (zyR 1 rfl (zaO rfl (zbB Tryz.underlying25) (zyN (zaL rfl (zat ?_)))))))))
 refine zaE (zyG (zyR 1 rfl (zap rfl dc rfl (zac zkg rfl dc rfl (show _=5 from rfl) (zaS (i:=0) hrd rfl zbC rfl dc rfl rfl (zyR 1 rfl (zyN (zau ?_))))))))
 cases h
 exact zaC (rs:=[.tmp 2]) () (.inl rfl) Tryz.results18 (.cons (.tmp rfl) .nil) rfl Splits.nil
end Go.Proofs.YtbempdelckaccaaGreatDoor

namespace Go.Proofs.YtbempdelckaccaaGreatDoor
open Go.RowKit Go.Lib
set_option linter.unusedVariables false
set_option linter.unusedSimpArgs false
end Go.Proofs.YtbempdelckaccaaGreatDoor

namespace Go.Proofs.YtbempdelckaccaaGreatDoor
open Go.RowKit Go.Lib
set_option linter.unusedVariables false
set_option linter.unusedSimpArgs false
end Go.Proofs.YtbempdelckaccaaGreatDoor

namespace Go.Proofs.YtbempdelckaccaaGreatDoor
open Go.RowKit Go.Lib
set_option linter.unusedVariables false
set_option linter.unusedSimpArgs false
end Go.Proofs.YtbempdelckaccaaGreatDoor
