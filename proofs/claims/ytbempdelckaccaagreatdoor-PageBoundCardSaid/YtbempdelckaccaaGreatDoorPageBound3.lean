/-
  Texts laid together: LpR, LfR, Qr, LpC, Pa, LpT, Pb, Pc, Pd, Pe. Nothing is assumed.
-/
import Derived.Test.YtbempdelckaccaaGreatDoorPageBound2
set_option maxRecDepth 100000
set_option maxHeartbeats 4000000
namespace Go.Proofs.YtbempdelckaccaaGreatDoor
abbrev zI (x : Int) : Value := .int .i64 x
abbrev zP (x : Nat) : Value := .pointer (some ⟨x, 0, none⟩)
end Go.Proofs.YtbempdelckaccaaGreatDoor

namespace Go.Proofs.YtbempdelckaccaaGreatDoor
open Go.RowKit Go.Lib
set_option linter.unusedVariables false
set_option linter.unusedSimpArgs false
theorem za1 {σ:List (Nat×Value)}:∀ {σ':List (Nat×Value)},σ'.map (fun p=>σ.lookup p.1)=σ'.map (fun p=>some p.2)→Sbs σ σ'
  | [],_=>zlr
  | (t,v)::σ',h=>znF (List.cons.inj h).1 (za1 (List.cons.inj h).2)
theorem zcS {α:Type} {a0 a1:α} {l l':List α} (h:l=l'):a0::a1::l=a0::a1::l':=by rw [h]
theorem zcC {α:Type} {a0 a1 a2:α} {l l':List α} (h:l=l'):a0::a1::a2::l=a0::a1::a2::l':=by rw [h]
theorem zfN {α:Type} {a0 a1 a2 a3:α} {l l':List α} (h:l=l'):a0::a1::a2::a3::l=a0::a1::a2::a3::l':=by rw [h]
theorem zoS {α:Type} {a0 a1 a2 a3 a4:α} {l l':List α} (h:l=l'):a0::a1::a2::a3::a4::l=a0::a1::a2::a3::a4::l':=by rw [h]
theorem zuc {α:Type} {a0 a1 a2 a3 a4 a5:α} {l l':List α} (h:l=l'):a0::a1::a2::a3::a4::a5::l=a0::a1::a2::a3::a4::a5::l':=by rw [h]
theorem zw5 {α:Type} {a0 a1 a2 a3 a4 a5 a6:α} {l l':List α} (h:l=l'):a0::a1::a2::a3::a4::a5::a6::l=a0::a1::a2::a3::a4::a5::a6::l':=by rw [h]
theorem zit {α:Type} {a0 a1 a2 a3 a4 a5 a6 a7:α} {l l':List α} (h:l=l'):a0::a1::a2::a3::a4::a5::a6::a7::l=a0::a1::a2::a3::a4::a5::a6::a7::l':=by rw [h]
theorem zxi {α:Type} {a0 a1 a2 a3 a4 a5 a6 a7 a8:α} {l l':List α} (h:l=l'):a0::a1::a2::a3::a4::a5::a6::a7::a8::l=a0::a1::a2::a3::a4::a5::a6::a7::a8::l':=by rw [h]
theorem zmy {α:Type} {a0 a1 a2 a3 a4 a5 a6 a7 a8 a9:α} {l l':List α} (h:l=l'):a0::a1::a2::a3::a4::a5::a6::a7::a8::a9::l=a0::a1::a2::a3::a4::a5::a6::a7::a8::a9::l':=by rw [h]
theorem zlz {α:Type} {a0 a1 a2 a3 a4 a5 a6 a7 a8 a9 a10:α} {l l':List α} (h:l=l'):a0::a1::a2::a3::a4::a5::a6::a7::a8::a9::a10::l=a0::a1::a2::a3::a4::a5::a6::a7::a8::a9::a10::l':=by rw [h]
theorem zud {α:Type} {a0 a1 a2 a3 a4 a5 a6 a7 a8 a9 a10 a11:α} {l l':List α} (h:l=l'):a0::a1::a2::a3::a4::a5::a6::a7::a8::a9::a10::a11::l=a0::a1::a2::a3::a4::a5::a6::a7::a8::a9::a10::a11::l':=by rw [h]
theorem zvC {D:Nat→Prop} {i0 t0 i1 t1:Nat} {v0 v1:Value} {r r':List (Nat×Nat×Value)} (h:dl D r=dl D r'):dl D ((i0,t0,v0)::(i1,t1,v1)::r)=dl D ((i0,t0,v0)::(i1,t1,v1)::r'):=zar (fun _=>rfl) (zar (fun _=>rfl) h)
theorem zvt {D:Nat→Prop} {i0 t0 i1 t1 i2 t2:Nat} {v0 v1 v2:Value} {r r':List (Nat×Nat×Value)} (h:dl D r=dl D r'):dl D ((i0,t0,v0)::(i1,t1,v1)::(i2,t2,v2)::r)=dl D ((i0,t0,v0)::(i1,t1,v1)::(i2,t2,v2)::r'):=zar (fun _=>rfl) (zar (fun _=>rfl) (zar (fun _=>rfl) h))
theorem znH {D:Nat→Prop} {i0 t0 i1 t1 i2 t2 i3 t3:Nat} {v0 v1 v2 v3:Value} {r r':List (Nat×Nat×Value)} (h:dl D r=dl D r'):dl D ((i0,t0,v0)::(i1,t1,v1)::(i2,t2,v2)::(i3,t3,v3)::r)=dl D ((i0,t0,v0)::(i1,t1,v1)::(i2,t2,v2)::(i3,t3,v3)::r'):=zar (fun _=>rfl) (zar (fun _=>rfl) (zar (fun _=>rfl) (zar (fun _=>rfl) h)))
theorem znK {D:Nat→Prop} {i0 t0 i1 t1 i2 t2 i3 t3 i4 t4:Nat} {v0 v1 v2 v3 v4:Value} {r r':List (Nat×Nat×Value)} (h:dl D r=dl D r'):dl D ((i0,t0,v0)::(i1,t1,v1)::(i2,t2,v2)::(i3,t3,v3)::(i4,t4,v4)::r)=dl D ((i0,t0,v0)::(i1,t1,v1)::(i2,t2,v2)::(i3,t3,v3)::(i4,t4,v4)::r'):=zar (fun _=>rfl) (zar (fun _=>rfl) (zar (fun _=>rfl) (zar (fun _=>rfl) (zar (fun _=>rfl) h))))
theorem zue {D:Nat→Prop} {i0 t0 i1 t1 i2 t2 i3 t3 i4 t4 i5 t5:Nat} {v0 v1 v2 v3 v4 v5:Value} {r r':List (Nat×Nat×Value)} (h:dl D r=dl D r'):dl D ((i0,t0,v0)::(i1,t1,v1)::(i2,t2,v2)::(i3,t3,v3)::(i4,t4,v4)::(i5,t5,v5)::r)=dl D ((i0,t0,v0)::(i1,t1,v1)::(i2,t2,v2)::(i3,t3,v3)::(i4,t4,v4)::(i5,t5,v5)::r'):=zar (fun _=>rfl) (zar (fun _=>rfl) (zar (fun _=>rfl) (zar (fun _=>rfl) (zar (fun _=>rfl) (zar (fun _=>rfl) h)))))
theorem zj3 {D:Nat→Prop} {i0 t0 i1 t1 i2 t2 i3 t3 i4 t4 i5 t5 i6 t6:Nat} {v0 v1 v2 v3 v4 v5 v6:Value} {r r':List (Nat×Nat×Value)} (h:dl D r=dl D r'):dl D ((i0,t0,v0)::(i1,t1,v1)::(i2,t2,v2)::(i3,t3,v3)::(i4,t4,v4)::(i5,t5,v5)::(i6,t6,v6)::r)=dl D ((i0,t0,v0)::(i1,t1,v1)::(i2,t2,v2)::(i3,t3,v3)::(i4,t4,v4)::(i5,t5,v5)::(i6,t6,v6)::r'):=zar (fun _=>rfl) (zar (fun _=>rfl) (zar (fun _=>rfl) (zar (fun _=>rfl) (zar (fun _=>rfl) (zar (fun _=>rfl) (zar (fun _=>rfl) h))))))
theorem zjm {D:Nat→Prop} {i0 t0 i1 t1 i2 t2 i3 t3 i4 t4 i5 t5 i6 t6 i7 t7:Nat} {v0 v1 v2 v3 v4 v5 v6 v7:Value} {r r':List (Nat×Nat×Value)} (h:dl D r=dl D r'):dl D ((i0,t0,v0)::(i1,t1,v1)::(i2,t2,v2)::(i3,t3,v3)::(i4,t4,v4)::(i5,t5,v5)::(i6,t6,v6)::(i7,t7,v7)::r)=dl D ((i0,t0,v0)::(i1,t1,v1)::(i2,t2,v2)::(i3,t3,v3)::(i4,t4,v4)::(i5,t5,v5)::(i6,t6,v6)::(i7,t7,v7)::r'):=zar (fun _=>rfl) (zar (fun _=>rfl) (zar (fun _=>rfl) (zar (fun _=>rfl) (zar (fun _=>rfl) (zar (fun _=>rfl) (zar (fun _=>rfl) (zar (fun _=>rfl) h)))))))
theorem zyD {D:Nat→Prop} {i0 t0 i1 t1 i2 t2 i3 t3 i4 t4 i5 t5 i6 t6 i7 t7 i8 t8:Nat} {v0 v1 v2 v3 v4 v5 v6 v7 v8:Value} {r r':List (Nat×Nat×Value)} (h:dl D r=dl D r'):dl D ((i0,t0,v0)::(i1,t1,v1)::(i2,t2,v2)::(i3,t3,v3)::(i4,t4,v4)::(i5,t5,v5)::(i6,t6,v6)::(i7,t7,v7)::(i8,t8,v8)::r)=dl D ((i0,t0,v0)::(i1,t1,v1)::(i2,t2,v2)::(i3,t3,v3)::(i4,t4,v4)::(i5,t5,v5)::(i6,t6,v6)::(i7,t7,v7)::(i8,t8,v8)::r'):=zar (fun _=>rfl) (zar (fun _=>rfl) (zar (fun _=>rfl) (zar (fun _=>rfl) (zar (fun _=>rfl) (zar (fun _=>rfl) (zar (fun _=>rfl) (zar (fun _=>rfl) (zar (fun _=>rfl) h))))))))
theorem zj4 {D:Nat→Prop} {i0 t0 i1 t1 i2 t2 i3 t3 i4 t4 i5 t5 i6 t6 i7 t7 i8 t8 i9 t9:Nat} {v0 v1 v2 v3 v4 v5 v6 v7 v8 v9:Value} {r r':List (Nat×Nat×Value)} (h:dl D r=dl D r'):dl D ((i0,t0,v0)::(i1,t1,v1)::(i2,t2,v2)::(i3,t3,v3)::(i4,t4,v4)::(i5,t5,v5)::(i6,t6,v6)::(i7,t7,v7)::(i8,t8,v8)::(i9,t9,v9)::r)=dl D ((i0,t0,v0)::(i1,t1,v1)::(i2,t2,v2)::(i3,t3,v3)::(i4,t4,v4)::(i5,t5,v5)::(i6,t6,v6)::(i7,t7,v7)::(i8,t8,v8)::(i9,t9,v9)::r'):=zar (fun _=>rfl) (zar (fun _=>rfl) (zar (fun _=>rfl) (zar (fun _=>rfl) (zar (fun _=>rfl) (zar (fun _=>rfl) (zar (fun _=>rfl) (zar (fun _=>rfl) (zar (fun _=>rfl) (zar (fun _=>rfl) h)))))))))
theorem zvD {D:Nat→Prop} {i0 t0 i1 t1 i2 t2 i3 t3 i4 t4 i5 t5 i6 t6 i7 t7 i8 t8 i9 t9 i10 t10:Nat} {v0 v1 v2 v3 v4 v5 v6 v7 v8 v9 v10:Value} {r r':List (Nat×Nat×Value)} (h:dl D r=dl D r'):dl D ((i0,t0,v0)::(i1,t1,v1)::(i2,t2,v2)::(i3,t3,v3)::(i4,t4,v4)::(i5,t5,v5)::(i6,t6,v6)::(i7,t7,v7)::(i8,t8,v8)::(i9,t9,v9)::(i10,t10,v10)::r)=dl D ((i0,t0,v0)::(i1,t1,v1)::(i2,t2,v2)::(i3,t3,v3)::(i4,t4,v4)::(i5,t5,v5)::(i6,t6,v6)::(i7,t7,v7)::(i8,t8,v8)::(i9,t9,v9)::(i10,t10,v10)::r'):=zar (fun _=>rfl) (zar (fun _=>rfl) (zar (fun _=>rfl) (zar (fun _=>rfl) (zar (fun _=>rfl) (zar (fun _=>rfl) (zar (fun _=>rfl) (zar (fun _=>rfl) (zar (fun _=>rfl) (zar (fun _=>rfl) (zar (fun _=>rfl) h))))))))))
theorem zcF {D:Nat→Prop} {i0 t0 i1 t1 i2 t2 i3 t3 i4 t4 i5 t5 i6 t6 i7 t7 i8 t8 i9 t9 i10 t10 i11 t11:Nat} {v0 v1 v2 v3 v4 v5 v6 v7 v8 v9 v10 v11:Value} {r r':List (Nat×Nat×Value)} (h:dl D r=dl D r'):dl D ((i0,t0,v0)::(i1,t1,v1)::(i2,t2,v2)::(i3,t3,v3)::(i4,t4,v4)::(i5,t5,v5)::(i6,t6,v6)::(i7,t7,v7)::(i8,t8,v8)::(i9,t9,v9)::(i10,t10,v10)::(i11,t11,v11)::r)=dl D ((i0,t0,v0)::(i1,t1,v1)::(i2,t2,v2)::(i3,t3,v3)::(i4,t4,v4)::(i5,t5,v5)::(i6,t6,v6)::(i7,t7,v7)::(i8,t8,v8)::(i9,t9,v9)::(i10,t10,v10)::(i11,t11,v11)::r'):=zar (fun _=>rfl) (zar (fun _=>rfl) (zar (fun _=>rfl) (zar (fun _=>rfl) (zar (fun _=>rfl) (zar (fun _=>rfl) (zar (fun _=>rfl) (zar (fun _=>rfl) (zar (fun _=>rfl) (zar (fun _=>rfl) (zar (fun _=>rfl) (zar (fun _=>rfl) h)))))))))))
def zvu (lk:Nat→Option Value):Operand→Option Value
  | .tmp t=>lk t
  | .const v=>some v
  | .func f=>some (.func (.func f) #[] #[])
  | .global _=>none
def zw6 (lk:Nat→Option Value) (ops:Array Oper):Option (Nat×Bool)→Option Bool
  | none=>some true
  | some (j,b)=>match (ops[j]?).bind (·.dst) with
    | some t=>match lk t with
      | some (.bool c)=>some (c==b)
      | some (.tuple _)=>some false
      | _=>none
    | none=>none
def zvE (lk:Nat→Option Value) (N:Nat) (ops:Array Oper) (o:Oper):Option (Nat×Value) :=
  match o.dst with
  | none=>none
  | some d=>match Nat.blt d N with
    | false=>none
    | true=>match zw6 lk ops o.guard with
      | none=>none
      | some false=>some (d,undef)
      | some true=>match o.op with
        | .move x=>match zvu lk x with
          | some v=>some (d,v)
          | none=>none
        | .assign x=>match zvu lk x with
          | some v=>some (d,v)
          | none=>none
        | .pick x y z=>match zvu lk x with
          | some (.bool true)=>match zvu lk y with
            | some v=>some (d,v)
            | none=>none
          | some (.bool false)=>match zvu lk z with
            | some v=>some (d,v)
            | none=>none
          | _=>none
        | _=>none
theorem zjn {lk:Nat→Option Value} {S:List (Nat×Value)} (hl:∀ t v,lk t=some v→S.lookup t=some v) {x:Operand} {v:Value} (h:zvu lk x=some v):ev S x=some v:=by
  cases x with
  | tmp t=>exact hl t v h
  | const c=>exact h
  | func f=>exact h
  | global g=>exact h
theorem zuf {lk:Nat→Option Value} {S:List (Nat×Value)} {ops:Array Oper} (hl:∀ t v,lk t=some v→S.lookup t=some v) {g:Option (Nat×Bool)} {r:Bool} (h:zw6 lk ops g=some r):gd ops S g=some r:=by
  cases g with
  | none=>exact h
  | some p =>
    obtain ⟨j,b⟩:=p
    unfold zw6 at h; unfold gd
    dsimp only at h ⊢
    cases ht:(ops[j]?).bind (·.dst) with
    | none=>rw [ht] at h; cases h
    | some t =>
      rw [ht] at h; dsimp only at h ⊢
      cases hk:lk t with
      | none=>rw [hk] at h; cases h
      | some v=>rw [hk] at h; rw [hl t v hk]; exact h
theorem zmz {F:Fence} [WideF F] {P:Program} {w0:World} {K:Nat→Prop} {N:Nat} {dfs:List Deferred} {ops:Array Oper} {Q:Exit→Act→World→Prop} {rest:List Oper} {lk:Nat→Option Value} {S:List (Nat×Value)} {L:List Asn} {o:Oper} {t:Nat} {v:Value}
    (hl:∀ t v,lk t=some v→S.lookup t=some v) (e:zvE lk N ops o=some (t,v)) (h:TO F P w0 K N dfs ops Q rest ((t,v)::S) L):TO F P w0 K N dfs ops Q (o::rest) S L:=by
  obtain ⟨dst,op,ty,pos,aft,g⟩:=o
  unfold zvE at e
  cases dst with
  | none=>cases e
  | some d =>
    dsimp only at e
    cases hb:Nat.blt d N with
    | false=>rw [hb] at e; cases e
    | true =>
    have hd:d<N:=Nat.lt_of_lt_of_le (Nat.lt_succ_self d) (Nat.le_of_ble_eq_true hb)
    rw [hb] at e; dsimp only at e
    cases hg:zw6 lk ops g with
    | none=>rw [hg] at e; cases e
    | some gb =>
      rw [hg] at e
      have hg':=zuf hl hg
      cases gb with
      | false=>cases e; exact zvj hg' hd h
      | true =>
        cases op <;> dsimp only at e <;> first | (cases e; done) | skip
        · split at e
          · cases e; exact ze4 hg' hd (zjn hl (by assumption)) h
          · cases e
        · split at e
          · cases e; exact zoN hg' hd (zjn hl (by assumption)) h
          · cases e
        · split at e
          · split at e
            · cases e; exact zsq (b:=true) hg' hd (zjn hl (by assumption)) (zjn hl (by assumption)) h
            · cases e
          · split at e
            · cases e; exact zsq (b:=false) hg' hd (zjn hl (by assumption)) (zjn hl (by assumption)) h
            · cases e
          · cases e
def zxj (N:Nat) (ops:Array Oper):Nat→List Oper→List (Nat×Value)→Option (List Oper×List (Nat×Value))
  | 0,r,σ=>some (r,σ)
  | n+1,o::r,σ=>match zvE (fun t=>σ.lookup t) N ops o with
    | some p=>zxj N ops n r (p::σ)
    | none=>none
  | _+1,[],_=>none
theorem zyR {F:Fence} [WideF F] {P:Program} {w0:World} {K:Nat→Prop} {N:Nat} {dfs:List Deferred} {ops:Array Oper} {Q:Exit→Act→World→Prop} {L:List Asn} (n:Nat):∀ {rest rest':List Oper} {σ σ':List (Nat×Value)},
    zxj N ops n rest σ=some (rest',σ')→TO F P w0 K N dfs ops Q rest' σ' L→TO F P w0 K N dfs ops Q rest σ L:=by
  induction n with
  | zero=>intro rest rest' σ σ' e h; cases e; exact h
  | succ n ih =>
    intro rest rest' σ σ' e h
    cases rest with
    | nil=>cases e
    | cons o r =>
      simp only [zxj] at e
      split at e
      · exact zmz (fun _ _ h=>h) (by assumption) (ih e h)
      · cases e
def zvF (deps:List Nat) (σ:List (Nat×Value)) (t:Nat):List (Nat×Nat×Value)→Option Value
  | []=>σ.lookup t
  | (i,t',v)::r=>match Nat.beq t t' with
    | true=>match deps.contains i with
      | true=>some v
      | false=>none
    | false=>zvF deps σ t r
theorem zmA {D:Nat→Prop} {deps:List Nat} {σ:List (Nat×Value)} (hd:∀ j∈deps,D j) (t:Nat) (v:Value):∀ {vals:List (Nat×Nat×Value)},zvF deps σ t vals=some v→(dl D vals++σ).lookup t=some v
  | [],h=>h
  | (i,t',v')::r,h=>by
    unfold zvF at h
    cases hb:Nat.beq t t' with
    | true =>
      rw [hb] at h; dsimp only at h
      have e:t=t':=Nat.eq_of_beq_eq_true hb
      subst e
      split at h
      · cases h
        have hD:D i:=hd i (by simpa using (by assumption:deps.contains i=true))
        simp only [dl]
        rw [if_pos hD]
        simp
      · cases h
    | false =>
      rw [hb] at h; dsimp only at h
      have ih:=zmA (σ:=σ) hd t v h
      have hn:(t==t')=false:=by
        have:t≠t':=Nat.ne_of_beq_eq_false hb
        simpa using this
      simp only [dl]
      split
      · simp only [List.cons_append,List.lookup,hn]; exact ih
      · exact ih
def zsC (N:Nat) (ops:Array Oper) (σ:List (Nat×Value)) (vals:List (Nat×Nat×Value)):Nat→List Oper→Nat→Option (List Oper×Nat×List (Nat×Nat×Value))
  | 0,r,i=>some (r,i,[])
  | n+1,o::r,i=>match zvE (fun t=>zvF (zc7 o) σ t vals) N ops o with
    | some p=>match zsC N ops σ vals n r (i+1) with
      | some q=>some (q.1,q.2.1,(i,p.1,p.2)::q.2.2)
      | none=>none
    | none=>none
  | _+1,[],_=>none
section
variable {F:Fence} {P:Program} {w0:World} {K:Nat→Prop} {N:Nat} {dfs:List Deferred} {Q:Exit→Act→World→Prop} {σ:List (Nat×Value)} {L:List Asn} {ops:Array Oper}
theorem ziu {vals:List (Nat×Nat×Value)} {n m i i':Nat} {o:Oper} {r rest':List Oper} (e:zsC N ops σ vals (n+1) (o::r) i=some (rest',i',(vals.drop m).take (n+1))) :
    ∃ t v,zvE (fun t=>zvF (zc7 o) σ t vals) N ops o=some (t,v)∧vals[m]?=some (i,t,v)∧zsC N ops σ vals n r (i+1)=some (rest',i',(vals.drop (m+1)).take n):=by
  simp only [zsC] at e
  split at e
  · rename_i p hp
    split at e
    · rename_i q hq
      obtain ⟨q1,q2,q3⟩:=q
      simp only [Option.some.injEq,Prod.mk.injEq] at e
      obtain ⟨rfl,rfl,e⟩:=e
      cases hdr:vals.drop m with
      | nil=>rw [hdr] at e; simp at e
      | cons x xs =>
        rw [hdr,List.take_succ_cons,List.cons.injEq] at e
        have hm:vals[m]?=some x:=by
          have:(vals.drop m)[0]?=some x:=by rw [hdr]; rfl
          simpa using this
        refine ⟨p.1,p.2,hp,by rw [hm,← e.1],?_⟩
        have:vals.drop (m+1)=xs:=by rw [← List.drop_drop,hdr]; rfl
        rw [this,← e.2]; exact hq
    · cases e
  · cases e
theorem zyP [WideF F] {vals:List (Nat×Nat×Value)} (n m:Nat):∀ {l rest':List Oper} {i i':Nat},zsC N ops σ vals n l i=some (rest',i',(vals.drop m).take n) →
    DrawPre F P w0 K N dfs Q ops σ L vals rest' i'→DrawPre F P w0 K N dfs Q ops σ L vals l i:=by
  induction n generalizing m with
  | zero=>intro l rest' i i' e h; cases e; exact h
  | succ n ih =>
    intro l rest' i i' e h
    cases l with
    | nil=>cases e
    | cons o r =>
      obtain ⟨t,v,h1,h2,h3⟩:=ziu e
      exact zae (fun D hn hd hcl hu hi=>zmz (fun t v h=>zmA hd t v h) h1 (zaf m hu hi h2)) (ih (m+1) h3 h)
theorem zyE [WideF F] {vals:List (Nat×Nat×Value)} {x:Nat} (n m:Nat):∀ {l rest':List Oper} {i i':Nat},zsC N ops σ vals n l i=some (rest',i',(vals.drop m).take n) →
    DrawPreX F P w0 K N dfs Q ops σ L vals x rest' i'→DrawPreX F P w0 K N dfs Q ops σ L vals x l i:=by
  induction n generalizing m with
  | zero=>intro l rest' i i' e h; cases e; exact h
  | succ n ih =>
    intro l rest' i i' e h
    cases l with
    | nil=>cases e
    | cons o r =>
      obtain ⟨t,v,h1,h2,h3⟩:=ziu e
      exact zai (fun D hn hd hcl hu hi=>zmz (fun t v h=>zmA hd t v h) h1 (zaf m hu hi h2)) (ih (m+1) h3 h)
def zyQ {β:Type} (S:List Nat) (LL:(Nat→Prop)→β→List Asn):Prop:=∀ i,S.contains i=false→∀ D b,LL (fun j=>D j∨j=i) b=LL D b
theorem zlx {D:Nat→Prop} {i:Nat} {base:Asn} {r:List (Nat×Asn)} {S:List Nat} (hs:(r.map Prod.fst).all (fun x=>S.contains x)=true) (h:S.contains i=false):eD (fun j=>D j∨j=i) base r=eD D base r:=by
  refine zao ?_
  cases hc:(r.map Prod.fst).contains i with
  | false=>rfl
  | true =>
    have h1:i∈r.map Prod.fst:=by simpa using hc
    have h2:=List.all_eq_true.1 hs i h1
    have h3:S.contains i=true:=h2
    rw [h] at h3; cases h3
theorem zxk {β:Type} {vals:β→List (Nat×Nat×Value)} {LL:(Nat→Prop)→β→List Asn} (hb:¬ Nonempty β):∀ (l:List Oper) (i:Nat),DrawG F P w0 K N dfs Q ops σ vals LL l i
  | [],_=>trivial
  | o::r,i=>⟨fun D b=>absurd ⟨b⟩ hb,zxk hb r (i+1)⟩
theorem zyq {β:Type} {vals:β→List (Nat×Nat×Value)} {LL:(Nat→Prop)→β→List Asn} {S:List Nat} {o:Oper} {rest:List Oper} {i:Nat} (hq:zyQ S LL) (hs:S.contains i=false)
    (hu:∀ b,zcR ((vals b).map (fun p=>p.2.1))=true) (hi:∀ b,zcR ((vals b).map (fun p=>p.1))=true)
    (h:∀ (D:Nat→Prop) (b:β),¬ D i→(∀ j∈zc7 o,D j)→Clo ops D→zcR ((vals b).map (fun p=>p.2.1))=true→zcR ((vals b).map (fun p=>p.1))=true →
      TO F P w0 K N dfs ops (Exit.then (fun a w=>At N dfs (dl (fun j=>D j∨j=i) (vals b)++σ) a∧Holds w0 K (LL D b) w) Q) [o] (dl D (vals b)++σ) (LL D b))
    (hr:DrawG F P w0 K N dfs Q ops σ vals LL rest (i+1)):DrawG F P w0 K N dfs Q ops σ vals LL (o::rest) i :=
  zas (fun D b hn hd hcl a w ha hw=>by
    have h0:=h D b hn hd hcl (hu b) (hi b) a w ha hw
    exact zbW (fun a' w' h2=>⟨b,h2.1,by rw [hq i hs D b]; exact h2.2⟩) h0) hr
theorem znJ [WideF F] {β:Type} {vals:β→List (Nat×Nat×Value)} {LL:(Nat→Prop)→β→List Asn} {S:List Nat} (hq:zyQ S LL)
    (hu:∀ b,zcR ((vals b).map (fun p=>p.2.1))=true) (hi:∀ b,zcR ((vals b).map (fun p=>p.1))=true) (n m:Nat):∀ {l rest':List Oper} {i i':Nat},
    (∀ b,zsC N ops σ (vals b) n l i=some (rest',i',((vals b).drop m).take n))→(List.range n).all (fun j=>!S.contains (i+j))=true →
    DrawG F P w0 K N dfs Q ops σ vals LL rest' i'→DrawG F P w0 K N dfs Q ops σ vals LL l i:=by
  induction n generalizing m with
  | zero =>
    intro l rest' i i' e hs h
    by_cases hb:Nonempty β
    · obtain ⟨b⟩:=hb
      have e:=e b
      simp only [zsC,Option.some.injEq,Prod.mk.injEq] at e
      obtain ⟨rfl,rfl,_⟩:=e
      exact h
    · exact zxk hb _ _
  | succ n ih =>
    intro l rest' i i' e hs h
    by_cases hb:Nonempty β
    · obtain ⟨b0⟩:=hb
      cases l with
      | nil=>exact absurd (e b0) (by simp [zsC])
      | cons o r =>
        have hs0:S.contains i=false:=by
          have:=List.all_eq_true.1 hs 0 (by simp)
          simpa using this
        have hs1:(List.range n).all (fun j=>!S.contains (i+1+j))=true:=by
          refine List.all_eq_true.2 fun j hj => ?_
          have:=List.all_eq_true.1 hs (j+1) (by simp at hj ⊢; omega)
          rwa [show i+(j+1)=i+1+j by omega] at this
        refine zyq hq hs0 hu hi (fun D b hn hd hcl hu' hi' => ?_) (ih (m+1) (fun b => ?_) hs1 h)
        · obtain ⟨t,v,h1,h2,h3⟩:=ziu (e b)
          exact zmz (fun t v h=>zmA hd t v h) h1 (zaf m hu' hi' h2)
        · obtain ⟨t,v,h1,h2,h3⟩:=ziu (e b)
          exact h3
    · exact zxk hb _ _
end
section
variable {F:Fence} {P:Program} {w0:World} {K:Nat→Prop} {N:Nat} {dfs:List Deferred} {Q:Exit→Act→World→Prop} {σ:List (Nat×Value)} {L:List Asn} {ops:Array Oper}
theorem zjl {β:Type} {vals:β→List (Nat×Nat×Value)} {LL:(Nat→Prop)→β→List Asn} {S:List Nat} {o:Oper} {rest:List Oper} {i:Nat} (hq:zyQ S LL) (hs:S.contains i=false)
    (hu:∀ b,zcR ((vals b).map (fun p=>p.2.1))=true) (hi:∀ b,zcR ((vals b).map (fun p=>p.1))=true)
    (h:∀ (D:Nat→Prop) (b:β),¬ D i→(∀ j∈zc7 o,D j)→Clo ops D→zcR ((vals b).map (fun p=>p.2.1))=true→zcR ((vals b).map (fun p=>p.1))=true→∃ L',LL D b=L' ∧
      TO F P w0 K N dfs ops (Exit.then (fun a w=>At N dfs (dl (fun j=>D j∨j=i) (vals b)++σ) a∧Holds w0 K L' w) Q) [o] (dl D (vals b)++σ) L')
    (hr:DrawG F P w0 K N dfs Q ops σ vals LL rest (i+1)):DrawG F P w0 K N dfs Q ops σ vals LL (o::rest) i :=
  zyq hq hs hu hi (fun D b hn hd hcl hu hi=>by obtain ⟨L',e,h0⟩:=h D b hn hd hcl hu hi; rw [e]; exact h0) hr
end
section
variable {R:Type} {F:Fence} {P:Program} {w0:World} {K:Nat→Prop} {N:Nat} {dfs:List Deferred} {ops:Array Oper} {Q:Exit→Act→World→Prop} {rest:List Oper} {σ:List (Nat×Value)} {L:List Asn} {x:Operand} {c c1 c2:Code} {p q:Option R} {r:R} {b:Bool}
theorem zyB (hc:ev σ x=some (.bool b)) (h:zax b p q=some r) (ht:p=some r→TC F P w0 K N dfs Q c1 σ L) (hf:q=some r→TC F P w0 K N dfs Q c2 σ L):TC F P w0 K N dfs Q (.cond x c1 c2) σ L:=zty hc (fun e=>ht (zhm e h)) (fun e=>hf (zhn e h))
theorem zaU [WideF F] {b:BinOp} {t yt ty:TypeId} {d:Nat} {pos:String} {aft:Array Edge} {g:Option (Nat×Bool)} {x y:Operand} {v v1 v2:Value} (e:(gd ops σ g,decide (d<N),ev σ x,ev σ y)=(some true,true,some v1,some v2))
    (hb:∀ w:World,(do eqGuard b t x y v1 v2; binOp b t v1 v2:Sem Value).run P w=.ok v w) (h:TO F P w0 K N dfs ops Q rest ((d,v)::σ) L) :
    TO F P w0 K N dfs ops Q (⟨some d,.binOp b t x y yt,ty,pos,aft,g⟩::rest) σ L:=by
  simp only [Prod.mk.injEq] at e
  exact zbR e.1 (of_decide_eq_true e.2.1) e.2.2.1 e.2.2.2 hb h
theorem zyN (h:TC F P w0 K N dfs Q c σ L):TO F P w0 K N dfs ops (Exit.then (c.wpIn F 0 P Q) Q) [] σ L:=zaO (zaL h)
theorem zyG {id:Nat} {l:List Oper} (h:TO F P w0 K N dfs l.toArray (Exit.then (c.wpIn F 0 P Q) Q) l σ L):TC F P w0 K N dfs Q (.seq (.region id l.toArray false) c) σ L:=zaK (zaw h)
theorem zyH {id:Nat} {l:List Oper} (h:TO F P w0 K N dfs l.toArray (Exit.then (c.wpIn F 0 P Q) Q) l σ L):TO F P w0 K N dfs ops (Exit.then ((Code.seq (.region id l.toArray false) c).wpIn F 0 P Q) Q) [] σ L:=zaO (zaL (zaK (zaw h)))
theorem zyS {s:Nat} (hs:σ.lookup s=some (.bool b)) (h:zax b p q=some r) (ht:p=some r→TO F P w0 K N dfs ops Q rest ((s,.bool true)::σ) L) (hf:q=some r→TO F P w0 K N dfs ops Q rest ((s,.bool false)::σ) L):TO F P w0 K N dfs ops Q rest σ L:=ztv hs (fun e=>ht (zhm e h)) (fun e=>hf (zhn e h))
theorem zyO (h:zax b p q=some r) (ht:p=some r→TO F P w0 K N dfs ops Q rest σ L) (hf:q=some r→TO F P w0 K N dfs ops Q rest σ L):TO F P w0 K N dfs ops Q rest σ L:=zfH (b:=b) (fun e=>ht (zhm e h)) (fun e=>hf (zhn e h))
theorem zyC (h:zax b p q=some r) (ht:p=some r→TC F P w0 K N dfs Q c σ L) (hf:q=some r→TC F P w0 K N dfs Q c σ L):TC F P w0 K N dfs Q c σ L:=zeL (b:=b) (fun e=>ht (zhm e h)) (fun e=>hf (zhn e h))
abbrev zy8 (F:Fence) (P:Program) (w0:World) (K:Nat→Prop) (N:Nat) (dfs:List Deferred) (ops:Array Oper) (Q:Exit→Act→World→Prop) (rest:List Oper) (σ:List (Nat×Value)) (L:List Asn):Prop:=TO F P w0 K N dfs ops Q rest σ L
end
abbrev zr0 (x:Gapi_Layout):List Value:=[zI x.Width,zI x.Height,zI x.Turn,zI x.Every]
abbrev zr1 (x:Gapi_Cell):List Value:=[zI x.Span_From,zI x.Span_To,zI x.Columns]
abbrev zr2 (x:Gapi_Piece):List Value:=[zI x.At,zI x.Width,.int .i32 x.Rune,.bool x.Broken]
abbrev zr3 (x:Gapi_Row):List Value:=[zI x.Line,zI x.Stanza,zI x.Part,zI x.Indent,zI x.Number,.string x.Text]
abbrev zr4 (x:Gapi_Verse):List Value:=[.string x.Text,zI x.Indent,zI x.Stanza,zI x.In,zI x.Span_From,zI x.Span_To]
abbrev zr5 (x:Gapi_Span):List Value:=[zI x.From,zI x.To]
abbrev zr6 (x:Gapi_Spot):List Value:=[zI x.Err,zI x.At]
abbrev zr7 (x:Gpage_best):List Value:=[zI x.cost,zI x.rows,zI x.to_]
abbrev zv0 (v:Value):=vec (znI (.i64)) 3 1 v
abbrev zv1 (v:Value):=vec zeI 40 3 v
abbrev zv2 (v:Value):=vec zcz 33 6 v
abbrev zv3 (v:Value):=vec zdI 157 4 v
abbrev zv4 (v:Value):=vec zem 155 5 v
abbrev zv5 (v:Value):=vec zqJ 9 1 v
abbrev zv6 (v:Value):=vec zbw 76 6 v
abbrev zv7 (v:Value):=vec zdP 38 2 v
abbrev zv8 (v:Value):=vec zib 176 3 v
abbrev zv9 (v:Value):=vec zei 146 5 v
abbrev ztB (v:Value):=vec zej 187 3 v
def zfg (r1:Int):Option Int :=
zbd (fun (j1:Option Int) =>
zax ((r1:Int) != 65533) (
zax (decide (Utf8.encode r1=(⟨#[239,191,189]⟩:ByteArray))) (
some 0
) (
j1
)
) (
j1
)
) (
some ((Utf8.encode r1).size:Int)
)
theorem zlG {r1:Int} {r:Int} (h:zfg r1=some r):FnP Tryz.prog 102 [.int .i32 r1] (zI r):=by
 unfold zfg at h
 refine FnP.intro Tryz.func102 rfl Tryz.ntmps102 (by simp) ?_
 intro w0 K
 obtain ⟨j1,hj1,h⟩:=zbC h
 refine zaX (β:=Unit) 1 rfl (fun b=>j1=some r) (fun b=>[]) (fun b=>[(0,.int .i32 r1)]) (fun b=>[]) (fun cut => ?_) ?_
 ·
  refine zyG (zyR 1 rfl (zyN (cut (zyG (zyR 1 rfl (zaU rfl zck (zyR 1 rfl ?_)))))))
  refine zyS (s:=5) rfl h (fun h => ?_) (fun h => ?_)
  ·
   refine zyR 1 rfl (znD rfl dc rfl (zoE Tryz.underlying21 Tryz.underlying9) (zaU rfl zhT (zyR 1 rfl (zyN ?_))))
   refine zyB rfl h (fun h => ?_) (fun h => ?_)
   ·
    refine zyG (zyR 1 rfl (zyN (zaH (zav ?_))))
    cases h
    exact zaN (rs:=[.tmp 2]) () (.inl rfl) Tryz.results102 (.cons (.tmp rfl) .nil) rfl Splits.nil
   refine zat ?_
   exact zam () h rfl (za1 rfl) Splits.nil
  refine zyR 4 rfl (zyN (zaQ rfl (zat ?_)))
  exact zam () h rfl (za1 rfl) Splits.nil
 rintro _ h
 rw [hj1] at h
 refine zyG (zyR 1 rfl (znD rfl dc rfl (zoE Tryz.underlying21 Tryz.underlying9) (zbQ rfl dc rfl Tryz.underlying9 (zyR 1 rfl (zyN (zaH ?_))))))
 cases h
 exact zaN (rs:=[.tmp 2]) () (.inl rfl) Tryz.results102 (.cons (.tmp rfl) .nil) rfl Splits.nil
def zeA (s1:ByteArray) (at1:Int) (j1:Option Gapi_Piece) (ag1:Option Gapi_Piece):Option Gapi_Piece :=
zax (decide (0<(pcs (zbS s1 at1 (s1.size:Int)).data.toList).length)) (
zak ((pcs (zbS s1 at1 (s1.size:Int)).data.toList)[0]?) fun (p1:Pc) =>
zbd (fun (j2:Int→Option Gapi_Piece) =>
zak (zfg (p1.r:Int)) fun (r1:Int) =>
zax (((p1.r:Int):Int)==65533) (
grd (I64 ((s1.size:Int) - at1)) <|
zax (decide ((((s1.size:Int) - at1):Int)<3)) (
some (⟨at1,1,65533,true⟩:Gapi_Piece)
) (
grd (I64 (at1+3)) <|
grd (0≤(at1:Int)∧(at1:Int)≤(at1+3)∧(at1+3:Int)≤(s1.size:Int)) <|
zax (!decide (zbS s1 at1 (at1+3)=(⟨#[239,191,189]⟩:ByteArray))) (
some (⟨at1,1,65533,true⟩:Gapi_Piece)
) (
j2 r1
)
)
) (
j2 r1
)
) (fun (n2:Int) =>
some (⟨at1,n2,(p1.r:Int),false⟩:Gapi_Piece)
)
) (
j1
)
def ze7 (s1:ByteArray) (at1:Int):Option Gapi_Piece :=
zbd (fun (j1:Option Gapi_Piece) =>
grd (0≤(at1:Int)∧(at1:Int)≤(s1.size:Int)∧((s1.size:Int):Int)≤(s1.size:Int)) <|
zaF none (zeA s1 at1 j1) zbV
) (
some (⟨0,0,0,false⟩:Gapi_Piece)
)
theorem zmS {s1:ByteArray} {at1:Int} {r:Gapi_Piece} (h:ze7 s1 at1=some r):FnP Tryz.prog 70 [.string s1,zI at1] (.agg (zr2 r).toArray):=by
 unfold ze7 at h
 refine FnP.intro Tryz.func70 rfl Tryz.ntmps70 (by simp) ?_
 intro w0 K
 obtain ⟨j1,hj1,h⟩:=zbC h
 refine zaX (β:=Nat) 1 rfl (fun b=>j1=some r) (fun b=>[]) (fun b=>[(4,zP b)]) (fun b=>[cells b [zI 0,zI 0,.int .i32 0,.bool false] 85]) (fun cut => ?_) ?_
 ·
  refine zyG ?_
  refine zbk zug rfl dc (fun b2 => ?_)
  refine zyN (cut (zyG (zyR 2 rfl ?_)))
  obtain ⟨hg1,h⟩:=zbl h
  refine zdn rfl dc rfl rfl rfl (zbN (i:=at1) (j:=(s1.size:Int)) Tryz.underlying9 (.inr rfl) (.inl ⟨rfl,rfl⟩) hg1) ?_
  refine zfG Tryz.underlying9 rfl dc rfl (fun b3 => ?_)
  refine zyN (zaD ?_)
  refine zbn (β:=Nat) (fun b=>zaF none (zeA s1 at1 j1) b=some r) (fun b=>[]) (fun b=>[(0,.string s1),(1,zI at1),(4,zP b2),(11,zP b3)]) (fun b=>[cells b2 [zI 0,zI 0,.int .i32 0,.bool false] 85,obj b3 (.stringIter (zbS s1 at1 (s1.size:Int)) (zf5 (zbS s1 at1 (s1.size:Int)) 0))]) (fun b=>b) zbV h rfl (za1 rfl) (zad [0,1] kr rfl) ?_
  rintro n1 h
  cases n1 with
  | zero=>exact zdD h
  | succ n1 =>
   obtain ⟨ag1,hag1⟩:∃ ag,ag=zaF none (zeA s1 at1 j1) n1:=⟨_,rfl⟩
   have h:zeA s1 at1 j1 ag1=some r:=by rw [hag1]; exact h
   unfold zeA at h
   refine zyG ?_
   refine zfH (b:=decide (0<(pcs (zbS s1 at1 (s1.size:Int)).data.toList).length)) (fun hb1 => ?_) (fun hb1 => ?_)
   ·
    have h:=zhm hb1 h
    obtain ⟨p1,hq1,h⟩:=zbj h
    refine zgf (k:=1) (m:=0) (p:=p1) rfl dc rfl rfl hq1 (zaR rfl dc rfl rfl (zyN (zaK (za9 rfl (zat (zaL (zaD ?_)))))))
    obtain ⟨j2,hj2,h⟩:=zbC h
    refine zaX (β:=Int) 2 rfl (fun b=>j2 b=some r) (fun b=>[]) (fun b=>[(1,zI at1),(4,zP b2),(6,.int .i32 (p1.r:Int)),(7,zI b)]) (fun b=>[cells b2 [zI 0,zI 0,.int .i32 0,.bool false] 85]) (fun cut => ?_) ?_
    ·
     refine zyG (zaR rfl dc rfl rfl (zyR 1 rfl (zyH (zyR 1 rfl ?_))))
     obtain ⟨r1,hq2,h⟩:=zbj h
     refine zbh (v:=zI r1) (vs:=[.int .i32 (p1.r:Int)]) rfl dc rfl rfl rfl zwP (zlG hq2) (zyR 1 rfl (zyN (cut (zyG (zyR 1 rfl (zaU rfl zaV (zyR 1 rfl ?_)))))))
     refine zyS (s:=19) rfl h (fun h => ?_) (fun h => ?_)
     ·
      refine zyR 1 rfl (zbQ rfl dc rfl Tryz.underlying9 (zyR 1 rfl ?_))
      obtain ⟨hg2,h⟩:=zbl h
      refine zaU rfl (zbi (r:=(s1.size:Int) - at1) (IntWalk.i64_in _ hg2)) (zaU rfl zbf (zyR 1 rfl ?_))
      refine zyS (s:=25) rfl h (fun h => ?_) (fun h => ?_)
      ·
       refine zyR 8 rfl (zyN (za9 rfl (zyG (zyR 1 rfl ?_))))
       refine za5 (v:=.agg #[zI at1,zI 1,.int .i32 65533,.bool true]) (ps:=[(0,.tmp 34),(1,.const (zI 1)),(2,.const (.int .i32 65533)),(3,.const (.bool true))]) rfl dc rfl (fun _=>by kernel_rfl) ?_
       refine zaZ (k:=0) (vs:=[zI at1,zI 1,.int .i32 65533,.bool true]) (l':=[zI at1,zI 1,.int .i32 65533,.bool true]) zmH rfl rfl rfl rfl rfl (show _≤_ by simp) rfl rfl ?_
       refine zyN (zaH (zav (zaE (zav (zaE (zav ?_))))))
       cases h
       exact zaN (rs:=[.cell 4 85]) () (.inl rfl) Tryz.results70 (.cons (.cells zhj (k:=0) rfl rfl rfl) .nil) rfl Splits.nil
      refine zyR 3 rfl ?_
      obtain ⟨hg3,h⟩:=zbl h
      refine zaU rfl (zaP (r:=at1+3) (IntWalk.i64_in _ hg3)) ?_
      obtain ⟨hg4,h⟩:=zbl h
      refine zdn rfl dc rfl rfl rfl (zbN (i:=at1) (j:=at1+3) Tryz.underlying9 (.inr rfl) (.inr rfl) hg4) (zaU rfl zts (zyR 2 rfl (zyN ?_)))
      refine zyB rfl h (fun h => ?_) (fun h => ?_)
      ·
       refine zyG (zyR 1 rfl ?_)
       refine za5 (v:=.agg #[zI at1,zI 1,.int .i32 65533,.bool true]) (ps:=[(0,.tmp 34),(1,.const (zI 1)),(2,.const (.int .i32 65533)),(3,.const (.bool true))]) rfl dc rfl (fun _=>by kernel_rfl) ?_
       refine zaZ (k:=0) (vs:=[zI at1,zI 1,.int .i32 65533,.bool true]) (l':=[zI at1,zI 1,.int .i32 65533,.bool true]) zmH rfl rfl rfl rfl rfl (show _≤_ by simp) rfl rfl ?_
       refine zyN (zaH (zav (zaE (zav (zaE (zav ?_))))))
       cases h
       exact zaN (rs:=[.cell 4 85]) () (.inl rfl) Tryz.results70 (.cons (.cells zhj (k:=0) rfl rfl rfl) .nil) rfl Splits.nil
      refine zat ?_
      exact zam r1 h rfl (za1 rfl) (zad [0] kr rfl)
     refine zyR 14 rfl ?_
     refine zyN (zaQ rfl (zat ?_))
     exact zam r1 h rfl (za1 rfl) (zad [0] kr rfl)
    rintro n2 h
    rw [hj2] at h
    refine zyG (zyR 3 rfl ?_)
    refine za5 (v:=.agg #[zI at1,zI n2,.int .i32 (p1.r:Int),.bool false]) (ps:=[(0,.tmp 36),(1,.tmp 37),(2,.tmp 38)]) rfl dc rfl (fun _=>by kernel_rfl) ?_
    refine zaZ (k:=0) (vs:=[zI at1,zI n2,.int .i32 (p1.r:Int),.bool false]) (l':=[zI at1,zI n2,.int .i32 (p1.r:Int),.bool false]) zmH rfl rfl rfl rfl rfl (show _≤_ by simp) rfl rfl (zyN (zaH (zaE (zav (zaE (zav ?_))))))
    cases h
    exact zaN (rs:=[.cell 4 85]) () (.inl rfl) Tryz.results70 (.cons (.cells zhj (k:=0) rfl rfl rfl) .nil) rfl Splits.nil
   have h:=zhn hb1 h
   refine zgg (k:=1) (m:=0) rfl dc rfl rfl (Nat.le_of_not_lt (of_decide_eq_false hb1)) (zaR rfl dc rfl rfl (zyN (zaK (zaQ rfl (za2 (zal (zal (zau ?_))))))))
   exact zam b2 h rfl (za1 rfl) (zad [0] kr rfl)
 rintro b1 h
 rw [hj1] at h
 refine zyG ?_
 refine za5 (v:=.agg #[zI 0,zI 0,.int .i32 0,.bool false]) (ps:=[]) rfl dc rfl (fun _=>by kernel_rfl) ?_
 refine zaZ (k:=0) (vs:=[zI 0,zI 0,.int .i32 0,.bool false]) (l':=[zI 0,zI 0,.int .i32 0,.bool false]) zmH rfl rfl rfl rfl rfl (show _≤_ by simp) rfl rfl (zyN (zaH ?_))
 cases h
 exact zaN (rs:=[.cell 4 85]) () (.inl rfl) Tryz.results70 (.cons (.cells zhj (k:=0) rfl rfl rfl) .nil) rfl Splits.nil
def zcw (c0:ByteArray) (ag1:Nat→Option (List Gapi_Piece)) (m3:Nat):Option (List Gapi_Piece) :=
zax (decide (m3<(pcs c0.data.toList).length)) (
zak ((pcs c0.data.toList)[m3]?) fun (p1:Pc) =>
zak (ze7 c0 (p1.i:Int)) fun (r1:Gapi_Piece) =>
zhl r1 <|
ag1 (m3+1)
) (
some []
)
def zed (c0:ByteArray):Option (List Gapi_Piece) :=
zaF (fun _=>none) (zcw c0) zbV 0
theorem ziC {b_c0:Nat} {c0:ByteArray} {xs:(List Gapi_Piece)} (h:zed c0=some xs):Itr Tryz.prog 69 [zP b_c0] (fun q:Gapi_Piece=>[.agg (zr2 q).toArray]) xs [(b_c0,.cells #[.string c0] 9 (0,0))]:=by
 unfold zed at h
 refine Itr.intro Tryz.func69 rfl Tryz.ntmps69 (by simp) ?_
 intro l w0 K I X hRo hy
 obtain ⟨r0,hx0⟩:∃ r,xs=[]++r:=⟨xs,rfl⟩
 have hr0:xs=r0:=hx0
 rw [hr0] at h
 refine zyG (zlm (i:=0) hRo zoQ rfl dc rfl rfl rfl ?_)
 refine zfG Tryz.underlying9 rfl dc rfl (fun b1 => ?_)
 refine zyN (zaD ?_)
 refine zbn (β:=Nat×Nat×(List Gapi_Piece)×(List Gapi_Piece)) (fun b=>zaF (fun _=>none) (zcw c0) b.1 b.2.1=some b.2.2.2∧xs=b.2.2.1++b.2.2.2) (fun b=>[]) (fun b=>[(0,.func (.yield l) #[] #[]),(1,zP b_c0),(5,zP b1)]) (fun b=>[I b.2.2.1,obj b1 (.stringIter c0 (zf5 c0 b.2.1))]) (fun b=>b.1) (zbV,0,([]:List Gapi_Piece),r0) ⟨h,hx0⟩ rfl (za1 rfl) (zad [0,1] kr rfl) ?_
 rintro ⟨n1,m3,acc3,rr3⟩ ⟨h,hx3⟩
 cases n1 with
 | zero=>exact zdD h
 | succ n1 =>
  obtain ⟨ag1,hag1⟩:∃ ag,ag=zaF (fun _=>none) (zcw c0) n1:=⟨_,rfl⟩
  have h:zcw c0 ag1 m3=some rr3:=by rw [hag1]; exact h
  unfold zcw at h
  refine zyG ?_
  refine zfH (b:=decide (m3<(pcs c0.data.toList).length)) (fun hb1 => ?_) (fun hb1 => ?_)
  ·
   have h:=zhm hb1 h
   obtain ⟨p1,hq1,h⟩:=zbj h
   refine zgf (k:=1) (m:=m3) (p:=p1) rfl dc rfl rfl hq1 (zaR rfl dc rfl rfl (zyN (zaK (za9 rfl (zat (zaL (zaD (zyG (zaR rfl dc rfl rfl (zyR 1 rfl (zaO ?_)))))))))))
   refine zaL (zyG (zyR 1 rfl (zlm (i:=0) hRo zoQ rfl dc rfl rfl rfl (zyR 1 rfl ?_))))
   obtain ⟨r1,hq2,h⟩:=zbj h
   refine zbh (v:=.agg (zr2 r1).toArray) (vs:=[.string c0,zI (p1.i:Int)]) rfl dc rfl rfl rfl zxT (zmS hq2) ?_
   obtain ⟨rr4,hr1,h⟩:=zke h
   have hx4:xs=acc3++r1::rr4:=by rw [hx3,hr1]
   refine zeZ hy rfl dc rfl hx4 rfl (k:=0) rfl ?_ ?_
   ·
    have hx5:xs=(acc3++[r1])++rr4:=by rw [hx4]; simp
    refine zd6 rfl dc rfl zcv (zyN (zaQ rfl (zat (zag ?_))))
    subst hag1
    exact za3 (n1,m3+1,acc3++[r1],rr4) ⟨h,hx5⟩ (Nat.lt_succ_self _) rfl (za1 rfl) (zad [0,1] kr rfl)
   refine zd6 rfl dc rfl zcv (zyN (za9 rfl (zaH (zaE (zav (zaE ?_))))))
   exact zlj (ds:=[]) acc3 r1 rr4 hx4 (.inl rfl) Splits.nil Tryz.results69 (zad [0] kr rfl)
  have h:=zhn hb1 h
  refine zgg (k:=1) (m:=m3) rfl dc rfl rfl (Nat.le_of_not_lt (of_decide_eq_false hb1)) (zaR rfl dc rfl rfl (zyN (zaK (zaQ rfl (za2 (zal (zal (zau ?_))))))))
  cases h
  exact zli (ds:=[]) (.inr rfl) Splits.nil Tryz.results69 (congrArg I (hx3.trans (List.append_nil _))) (zad [0] kr rfl)
def zgJ (s1:ByteArray):Option ByteArray :=
some s1
theorem zkF {s1:ByteArray} {r:ByteArray} (h:zgJ s1=some r):Fn Tryz.prog 34 [.string s1] [] (fun v0:Nat=>.func (.func 69) #[] #[zP v0]) (fun v0=>[cells v0 [.string r] 9]):=by
 unfold zgJ at h
 refine Fn.intro Tryz.func34 rfl Tryz.ntmps34 (by simp) ?_
 intro w0 K
 refine zyG ?_
 refine zdW rfl dc rfl (fun b1 => ?_)
 refine zyR 1 rfl (zyH (zhe (x1:=[]) (x2:=[.tmp 1]) rfl dc rfl rfl (zyR 1 rfl (zyN (zaH ?_)))))
 cases h
 exact zaN (rs:=[.tmp 2]) b1 (.inl rfl) Tryz.results34 (.cons (.tmp rfl) .nil) rfl (zad [0] kr rfl)
end Go.Proofs.YtbempdelckaccaaGreatDoor


namespace Go.Proofs.YtbempdelckaccaaGreatDoor
open Go.RowKit Go.Lib
set_option linter.unusedVariables false
set_option linter.unusedSimpArgs false
theorem zrY (r:Int) (hv:0≤r∧(r<55296∨(57343<r∧r≤1114111))) (hr:¬ r=65533):¬ Utf8.encode r=⟨#[239,191,189]⟩:=by
 intro h
 obtain ⟨n,rfl⟩:=Int.eq_ofNat_of_zero_le hv.1
 have h1:encodeRune ((n:Nat):Int)=[239,191,189]:=by rw [← zlb,h]
 have h2:=zjJ n (by omega) []
 have h3:=zjJ 65533 (by omega) []
 rw [h1] at h2
 rw [znp] at h3
 rw [h2] at h3
 have:=(Prod.mk.inj h3).1
 omega
theorem zuv (r:Int) (hv:vr r):zfg r=some ((Utf8.encode r).size:Int):=by
 unfold zfg
 refine zbs ?_
 by_cases h:r=65533
 ·exact zay (bne_eq_false_iff_eq.2 h) rfl
 ·exact zaz (bne_iff_ne.2 h) (zay (decide_eq_false (zrY r (by unfold vr at hv; omega) h)) rfl)
theorem zxv (s:ByteArray) (a:Nat) (ha:a<s.size) (hsz:s.size≤9223372036854775000):ze7 s (a:Int)=some (pcG ⟨a,(decodeL (s.data.toList.drop a)).2,(decodeL (s.data.toList.drop a)).1⟩):=by
 unfold ze7
 obtain ⟨F,hF,_⟩:=zpf 1 (by omega)
 rw [hF]
 refine zbs (zbo ⟨by omega,by omega,by omega⟩ ?_)
 rw [zct]
 generalize zaF _ _ F=ag
 unfold zeA
 have hne:s.data.toList.drop a≠[]:=by
  intro h; have:=congrArg List.length h; simp at this; omega
 have hok:=ztk _ hne
 have hlen:(s.data.toList.drop a).length=s.size - a:=by simp
 have hle:=hok.le
 have e:(zbS s (a:Int) (s.size:Int)).data.toList=s.data.toList.drop a:=by unfold zbS; exact zu1 s a
 have hp:pcs (zbS s (a:Int) (s.size:Int)).data.toList=⟨0,(decodeL (s.data.toList.drop a)).2,(decodeL (s.data.toList.drop a)).1⟩::zdC (0+(decodeL (s.data.toList.drop a)).2) ((s.data.toList.drop a).drop (decodeL (s.data.toList.drop a)).2):=by
  rw [e]; unfold pcs; rw [zcx _ _ hne]
 have hvr:vr ((decodeL (s.data.toList.drop a)).1:Int):=by have:=hok.valid; unfold vr; omega
 refine zaz (decide_eq_true (by rw [hp]; simp)) (zaJ (by rw [hp]; rfl) (zbs (zaJ (zuv _ hvr) ?_)))
 simp only
 unfold pcG Pc.broken
 have hw:=hok.width
 have hl3:=hok.lost_ok
 have hl1:=hok.lost_bad
 generalize decodeL (s.data.toList.drop a)=d at *
 rcases d with ⟨r,w⟩
 simp only at *
 by_cases hr:r=65533
 ·subst hr
  refine zaz (by decide) (zbo ⟨by omega,by omega⟩ ?_)
  by_cases h3:(s.size:Int) - a<3
  ·refine zaz (decide_eq_true h3) ?_
   have hw1:w=1:=by
    by_cases hw1:w=1
    ·exact hw1
    ·have:=(hl3 rfl hw1).2; omega
   subst hw1; rfl
  ·have e3:=zgs s a 3
   refine zay (decide_eq_false h3) (zbo ⟨by omega,by omega⟩ (zbo ⟨by omega,by omega,by omega⟩ ?_))
   by_cases hw1:w=1
   ·refine zaz ?_ (by subst hw1; rfl)
    rw [decide_eq_false]
    ·rfl
    ·intro h
     exact hl1 rfl hw1 (by rw [← e3]; exact congrArg (fun b:ByteArray=>b.data.toList) h)
   ·obtain ⟨h4,h5⟩:=hl3 rfl hw1
    refine zay ?_ ?_
    ·rw [decide_eq_true]
     ·rfl
     ·apply ByteArray.ext; apply Array.toList_inj.1; rw [show ((a:Int)+3)=(a:Int)+(3:Nat) from rfl,e3,h4]
    ·rw [zla,hw (by omega)]
     subst h5; rfl
 ·refine zay (by rw [beq_eq_false_iff_ne]; omega) ?_
  rw [zla,hw (by omega)]
  have:(r==65533&&w==1)=false:=by simp [hr]
  rw [this]
theorem zuM (s:ByteArray) (hs:s.size≤2147483648):zed s=some ((pcs s.data.toList).map pcG):=by
 unfold zed
 have hc:(pcs s.data.toList).length≤s.size:=by have:=zoX s; unfold zmT at this; simpa using this
 have key:∀ (n k:Nat),k≤(pcs s.data.toList).length→(pcs s.data.toList).length - k<n→zaF (fun _=>none) (zcw s) n k=some (((pcs s.data.toList).drop k).map pcG):=by
  intro n
  induction n with
  | zero=>intro k _ h; omega
  | succ n ih =>
   intro k hk hn
   rw [zct]
   generalize zaF (fun _=>none) (zcw s) n=ag at ih ⊢
   unfold zcw
   by_cases h:k<(pcs s.data.toList).length
   ·have hx:(pcs s.data.toList)[k]?=some (pcs s.data.toList)[k]:=List.getElem?_eq_getElem h
    have hm:=List.mem_of_getElem? hx
    generalize (pcs s.data.toList)[k]=p at hx hm
    obtain ⟨g1,g2,hok⟩:=zfX s.data.toList p hm
    have hlen:s.data.toList.length=s.size:=by rw [Array.length_toList]; rfl
    have hw:=hok.pos
    have hr:ze7 s (p.i:Int)=some (pcG p):=by
     have:=zxv s p.i (by omega) (by omega)
     rw [this]
     have he:=hok.eq
     rw [he]
    refine zaz (decide_eq_true h) (zaJ hx (zaJ hr ?_))
    rw [ih (k+1) (by omega) (by omega)]
    have hd:(pcs s.data.toList).drop k=p::(pcs s.data.toList).drop (k+1):=by
     obtain ⟨hlt,he⟩:=List.getElem?_eq_some_iff.1 hx
     rw [← he]; exact List.drop_eq_getElem_cons hlt
    rw [hd]; rfl
   ·have:k=(pcs s.data.toList).length:=by omega
    subst this
    exact zay (decide_eq_false (by omega)) (by rw [List.drop_length]; rfl)
 have:=key zbV 0 (Nat.zero_le _) (by unfold zbV; omega)
 simpa using this
end Go.Proofs.YtbempdelckaccaaGreatDoor

namespace Go.Proofs.YtbempdelckaccaaGreatDoor
open Go.RowKit Go.Lib
set_option linter.unusedVariables false
set_option linter.unusedSimpArgs false
def zc9 (r1:Int) (j1:Option Bool) (ag1:Bool→Nat→Option Bool) (within3:Bool) (m3:Nat):Option Bool :=
zax (decide (m3<(pcs (⟨#[225,132,128,225,133,159,226,186,128,227,128,190,227,129,129,228,182,191,228,184,128,234,147,143,234,176,128,237,158,163,239,164,128,239,171,191,239,184,176,239,185,175,239,188,128,239,189,160,239,191,160,239,191,166,240,159,140,128,240,159,153,143,240,159,164,128,240,159,167,191,240,160,128,128,240,191,191,189]⟩:ByteArray).data.toList).length)) (
zak ((pcs (⟨#[225,132,128,225,133,159,226,186,128,227,128,190,227,129,129,228,182,191,228,184,128,234,147,143,234,176,128,237,158,163,239,164,128,239,171,191,239,184,176,239,185,175,239,188,128,239,189,160,239,191,160,239,191,166,240,159,140,128,240,159,153,143,240,159,164,128,240,159,167,191,240,160,128,128,240,191,191,189]⟩:ByteArray).data.toList)[m3]?) fun (p1:Pc) =>
zbd (fun (j2:Bool→Bool→Option Bool) =>
zax (!within3) (
zax (decide ((r1:Int)<(p1.r:Int))) (
some within3
) (
zax (within3) (
zax (decide ((r1:Int)≤(p1.r:Int))) (
some within3
) (
j2 true (decide ((r1:Int)≤(p1.r:Int)))
)
) (
j2 false false
)
)
) (
zax (within3) (
zax (decide ((r1:Int)≤(p1.r:Int))) (
some within3
) (
j2 true (decide ((r1:Int)≤(p1.r:Int)))
)
) (
j2 false false
)
)
) (fun (x1:Bool) (x2:Bool) =>
ag1 (!within3) (m3+1)
)
) (
j1
)
def zen (r1:Int):Option Bool :=
zbd (fun (j1:Option Bool) =>
zaF (fun _ _=>none) (zc9 r1 j1) zbV false 0
) (
some false
)
theorem zlg {r1:Int} {r:Bool} (h:zen r1=some r):FnP Tryz.prog 72 [.int .i32 r1] (.bool r):=by
 unfold zen at h
 refine FnP.intro Tryz.func72 rfl Tryz.ntmps72 (by simp) ?_
 intro w0 K
 obtain ⟨j1,hj1,h⟩:=zbC h
 refine zaX (β:=Unit) 2 rfl (fun b=>j1=some r) (fun b=>[]) (fun b=>[]) (fun b=>[]) (fun cut => ?_) ?_
 ·
  refine zyG (zyR 1 rfl (zyH (zyR 1 rfl (zyN (cut (zyG ?_))))))
  refine zfG Tryz.underlying9 rfl dc rfl (fun b1 => ?_)
  refine zyN (zaD ?_)
  refine zbn (β:=Nat×Bool×Nat) (fun b=>zaF (fun _ _=>none) (zc9 r1 j1) b.1 b.2.1 b.2.2=some r) (fun b=>[]) (fun b=>[(0,.int .i32 r1),(3,.bool b.2.1),(6,zP b1)]) (fun b=>[obj b1 (.stringIter (⟨#[225,132,128,225,133,159,226,186,128,227,128,190,227,129,129,228,182,191,228,184,128,234,147,143,234,176,128,237,158,163,239,164,128,239,171,191,239,184,176,239,185,175,239,188,128,239,189,160,239,191,160,239,191,166,240,159,140,128,240,159,153,143,240,159,164,128,240,159,167,191,240,160,128,128,240,191,191,189]⟩:ByteArray) (zf5 (⟨#[225,132,128,225,133,159,226,186,128,227,128,190,227,129,129,228,182,191,228,184,128,234,147,143,234,176,128,237,158,163,239,164,128,239,171,191,239,184,176,239,185,175,239,188,128,239,189,160,239,191,160,239,191,166,240,159,140,128,240,159,153,143,240,159,164,128,240,159,167,191,240,160,128,128,240,191,191,189]⟩:ByteArray) b.2.2))]) (fun b=>b.1) (zbV,false,0) (by exact h) rfl (za1 rfl) (zad [0] kr rfl) ?_
  rintro ⟨n1,within3,m3⟩ h
  cases n1 with
  | zero=>exact zdD h
  | succ n1 =>
   obtain ⟨ag1,hag1⟩:∃ ag,ag=zaF (fun _ _=>none) (zc9 r1 j1) n1:=⟨_,rfl⟩
   have h:zc9 r1 j1 ag1 within3 m3=some r:=by rw [hag1]; exact h
   unfold zc9 at h
   refine zyG ?_
   refine zfH (b:=decide (m3<(pcs (⟨#[225,132,128,225,133,159,226,186,128,227,128,190,227,129,129,228,182,191,228,184,128,234,147,143,234,176,128,237,158,163,239,164,128,239,171,191,239,184,176,239,185,175,239,188,128,239,189,160,239,191,160,239,191,166,240,159,140,128,240,159,153,143,240,159,164,128,240,159,167,191,240,160,128,128,240,191,191,189]⟩:ByteArray).data.toList).length)) (fun hb1 => ?_) (fun hb1 => ?_)
   ·
    have h:=zhm hb1 h
    obtain ⟨p1,hq1,h⟩:=zbj h
    refine zgf (k:=0) (m:=m3) (p:=p1) rfl dc rfl rfl hq1 (zaR rfl dc rfl rfl (zyN (zaK (za9 rfl (zat (zaL (zaD ?_)))))))
    obtain ⟨j2,hj2,h⟩:=zbC h
    refine zaX (β:=Bool×Bool) 1 rfl (fun b=>j2 b.1 b.2=some r) (fun b=>[]) (fun b=>[(0,.int .i32 r1),(3,.bool within3),(6,zP b1),(18,.bool within3),(19,.bool b.1),(23,.bool b.2)]) (fun b=>[obj b1 (.stringIter (⟨#[225,132,128,225,133,159,226,186,128,227,128,190,227,129,129,228,182,191,228,184,128,234,147,143,234,176,128,237,158,163,239,164,128,239,171,191,239,184,176,239,185,175,239,188,128,239,189,160,239,191,160,239,191,166,240,159,140,128,240,159,153,143,240,159,164,128,240,159,167,191,240,160,128,128,240,191,191,189]⟩:ByteArray) (zf5 (⟨#[225,132,128,225,133,159,226,186,128,227,128,190,227,129,129,228,182,191,228,184,128,234,147,143,234,176,128,237,158,163,239,164,128,239,171,191,239,184,176,239,185,175,239,188,128,239,189,160,239,191,160,239,191,166,240,159,140,128,240,159,153,143,240,159,164,128,240,159,167,191,240,160,128,128,240,191,191,189]⟩:ByteArray) (m3+1)))]) (fun cut => ?_) ?_
    ·
     refine zyG (zaR rfl dc rfl rfl (zyR 1 rfl (zyN (cut (zyG (zyR 1 rfl (zd6 rfl dc rfl zcv (zyR 1 rfl ?_))))))))
     refine zyS (s:=12) rfl h (fun h => ?_) (fun h => ?_)
     ·
      refine zyR 2 rfl (zaU rfl zbf (zyR 2 rfl ?_))
      refine zyS (s:=17) rfl h (fun h => ?_) (fun h => ?_)
      ·
       refine zyR 7 rfl (zyN (za9 rfl (zyG (zyR 2 rfl ?_))))
       refine zyN (zaH (zav (zaE (zav (zaE (zav ?_))))))
       cases h
       exact zaN (rs:=[.tmp 2]) () (.inl rfl) Tryz.results72 (.cons (.tmp rfl) .nil) rfl Splits.nil
      refine zyR 2 rfl ?_
      refine zyS (s:=19) rfl h (fun h => ?_) (fun h => ?_)
      ·
       refine zyR 2 rfl (zaU rfl zdF (zyR 2 rfl (zyN ?_)))
       refine zyB rfl h (fun h => ?_) (fun h => ?_)
       ·
        refine zyG (zyR 2 rfl (zyN (zaH (zav (zaE (zav (zaE (zav ?_))))))))
        cases h
        exact zaN (rs:=[.tmp 2]) () (.inl rfl) Tryz.results72 (.cons (.tmp rfl) .nil) rfl Splits.nil
       refine zat ?_
       exact zam (true,decide ((r1:Int)≤(p1.r:Int))) h rfl (za1 rfl) (zad [0] kr rfl)
      refine zyR 5 rfl (zyN (zaQ rfl (zat ?_)))
      exact zam (false,false) h rfl (za1 rfl) (zad [0] kr rfl)
     refine zyR 7 rfl ?_
     refine zyS (s:=19) rfl h (fun h => ?_) (fun h => ?_)
     ·
      refine zyR 2 rfl (zaU rfl zdF (zyR 2 rfl (zyN ?_)))
      refine zyB rfl h (fun h => ?_) (fun h => ?_)
      ·
       refine zyG (zyR 2 rfl (zyN (zaH (zav (zaE (zav (zaE (zav ?_))))))))
       cases h
       exact zaN (rs:=[.tmp 2]) () (.inl rfl) Tryz.results72 (.cons (.tmp rfl) .nil) rfl Splits.nil
      refine zat ?_
      exact zam (true,decide ((r1:Int)≤(p1.r:Int))) h rfl (za1 rfl) (zad [0] kr rfl)
     refine zyR 5 rfl (zyN (zaQ rfl (zat ?_)))
     exact zam (false,false) h rfl (za1 rfl) (zad [0] kr rfl)
    rintro ⟨x1,x2⟩ h
    rw [hj2] at h
    refine zaw (zyR 1 rfl (zd6 rfl dc rfl zcv (zyR 1 rfl (zaO (zag ?_)))))
    subst hag1
    exact za3 (n1,!within3,m3+1) h (Nat.lt_succ_self _) rfl (za1 rfl) (zad [0] kr rfl)
   have h:=zhn hb1 h
   refine zgg (k:=0) (m:=m3) rfl dc rfl rfl (Nat.le_of_not_lt (of_decide_eq_false hb1)) (zaR rfl dc rfl rfl (zyN (zaK (zaQ rfl (za2 (zal (zal (zau ?_))))))))
   exact zam () h rfl (zlr) Splits.nil
 rintro _ h
 rw [hj1] at h
 refine zyG (zyR 1 rfl (zyN (zaH ?_)))
 cases h
 exact zaN (rs:=[.tmp 2]) () (.inl rfl) Tryz.results72 (.cons (.tmp rfl) .nil) rfl Splits.nil
def zbD (p1:Gapi_Piece):Option Int :=
grd (I32 p1.Rune) <|
zax (((zde p1.Broken p1.Rune):Int)==11) (
some 1
) (
zbd (fun (j1:Bool→Option Int) =>
zax (((zde p1.Broken p1.Rune):Int)==2) (
j1 (((zde p1.Broken p1.Rune):Int)==2)
) (
zax (((zde p1.Broken p1.Rune):Int)==4) (
j1 (((zde p1.Broken p1.Rune):Int)==4)
) (
j1 (((zde p1.Broken p1.Rune):Int)==9)
)
)
) (fun (x1:Bool) =>
zax (x1) (
some 0
) (
zak (zen p1.Rune) fun (r1:Bool) =>
zax (r1) (
some 2
) (
some 1
)
)
)
)
theorem zfq {p1:Gapi_Piece} {r:Int} (h:zbD p1=some r):FnP Tryz.prog 37 [.agg (zr2 p1).toArray] (zI r):=by
 unfold zbD at h
 refine FnP.intro Tryz.func37 rfl Tryz.ntmps37 (by simp) ?_
 intro w0 K
 refine zyG ?_
 refine zdW rfl dc rfl (fun b1 => ?_)
 refine zyR 1 rfl (zyN (zaK (zyG (za8 (k:=0) (cs:=(zr2 p1)) zhj rfl dc rfl rfl rfl rfl ?_))))
 obtain ⟨hg1,h⟩:=zbl h
 refine zbh (v:=zI (zde p1.Broken p1.Rune)) (vs:=[.agg (zr2 p1).toArray]) rfl dc rfl rfl rfl zu4 (zxz p1.At p1.Width p1.Rune p1.Broken hg1.1 hg1.2) (zyN (zaD (zyG (zaU rfl zaV (zyR 1 rfl (zyN ?_))))))
 refine zyB rfl h (fun h => ?_) (fun h => ?_)
 ·
  refine zyG (zyR 1 rfl (zyN (zaH (zaE (zav ?_)))))
  cases h
  exact zaN (rs:=[.tmp 2]) () (.inl rfl) Tryz.results37 (.cons (.tmp rfl) .nil) rfl Splits.nil
 obtain ⟨j1,hj1,h⟩:=zbC h
 refine zaX (β:=Bool) 0 rfl (fun b=>j1 b=some r) (fun b=>[]) (fun b=>[(1,zP b1),(7,.bool b)]) (fun b=>[cells b1 (zr2 p1) 85]) (fun cut => ?_) ?_
 ·
  refine cut (zyG (zaU rfl zaV (zyR 1 rfl (zyN ?_))))
  refine zyB rfl h (fun h => ?_) (fun h => ?_)
  ·
   refine zat ?_
   exact zam (((zde p1.Broken p1.Rune):Int)==2) h rfl (za1 rfl) (zad [0] kr rfl)
  refine zyG (zaU rfl zaV (zyR 1 rfl (zyN ?_)))
  refine zyB rfl h (fun h => ?_) (fun h => ?_)
  ·
   refine zat ?_
   exact zam (((zde p1.Broken p1.Rune):Int)==4) h rfl (za1 rfl) (zad [0] kr rfl)
  refine zaw (zaU rfl zaV (zyR 1 rfl (zaO ?_)))
  exact zam (((zde p1.Broken p1.Rune):Int)==9) h rfl (za1 rfl) (zad [0] kr rfl)
 rintro x1 h
 rw [hj1] at h
 refine zyB rfl h (fun h => ?_) (fun h => ?_)
 ·
  refine zyG (zyR 1 rfl (zyN (zaH (zaE (zav ?_)))))
  cases h
  exact zaN (rs:=[.tmp 2]) () (.inl rfl) Tryz.results37 (.cons (.tmp rfl) .nil) rfl Splits.nil
 refine zat (zag (zaL (zaK (zyG (zab zk4 rfl dc rfl (show _=2 from rfl) (zaq (k:=0) ziA rfl dc rfl rfl rfl ?_))))))
 obtain ⟨r1,hq1,h⟩:=zbj h
 refine zbh (v:=.bool r1) (vs:=[.int .i32 p1.Rune]) rfl dc rfl rfl rfl zxS (zlg hq1) (zyN ?_)
 refine zyB rfl h (fun h => ?_) (fun h => ?_)
 ·
  refine zyG (zyR 1 rfl (zyN (zaH (zav ?_))))
  cases h
  exact zaN (rs:=[.tmp 2]) () (.inl rfl) Tryz.results37 (.cons (.tmp rfl) .nil) rfl Splits.nil
 refine zat (zaL (zyG (zyR 1 rfl (zyN (zaH ?_)))))
 cases h
 exact zaN (rs:=[.tmp 2]) () (.inl rfl) Tryz.results37 (.cons (.tmp rfl) .nil) rfl Splits.nil
def zdz (head1:Int) (behind1:Gapi_Piece) (p1:Gapi_Piece):Option Bool :=
zax (p1.Broken) (
some false
) (
grd (I32 p1.Rune) <|
zax (((zde p1.Broken p1.Rune):Int)==2) (
some true
) (
zax ((p1.Rune:Int)==8205) (
some true
) (
zax ((head1:Int)==10) (
zax (((zde p1.Broken p1.Rune):Int)==10) (
some ((behind1.Rune:Int)==8205)
) (
some false
)
) (
some false
)
)
)
)
theorem zhh {head1:Int} {behind1:Gapi_Piece} {p1:Gapi_Piece} {r:Bool} (h:zdz head1 behind1 p1=some r):FnP Tryz.prog 36 [zI head1,.agg (zr2 behind1).toArray,.agg (zr2 p1).toArray] (.bool r):=by
 unfold zdz at h
 refine FnP.intro Tryz.func36 rfl Tryz.ntmps36 (by simp) ?_
 intro w0 K
 refine zyG ?_
 refine zdW rfl dc rfl (fun b1 => ?_)
 refine zdW rfl dc rfl (fun b2 => ?_)
 refine zyR 1 rfl (zyN (zaK (zyG (zab zu0 rfl dc rfl (show _=3 from rfl) (zaq (k:=1) zlF rfl dc rfl rfl rfl (zyN ?_))))))
 refine zyB rfl h (fun h => ?_) (fun h => ?_)
 ·
  refine zyG (zyR 1 rfl (zyN (zaH (zav ?_))))
  cases h
  exact zaN (rs:=[.tmp 6]) () (.inl rfl) Tryz.results36 (.cons (.tmp rfl) .nil) rfl Splits.nil
 refine zat (zaL (zyG (za8 (k:=1) (cs:=(zr2 p1)) zhj rfl dc rfl rfl rfl rfl ?_)))
 obtain ⟨hg1,h⟩:=zbl h
 refine zbh (v:=zI (zde p1.Broken p1.Rune)) (vs:=[.agg (zr2 p1).toArray]) rfl dc rfl rfl rfl zu4 (zxz p1.At p1.Width p1.Rune p1.Broken hg1.1 hg1.2) (zyR 1 rfl (zyH (zyR 1 rfl (zaU rfl zaV (zyR 1 rfl ?_)))))
 refine zyS (s:=14) rfl h (fun h => ?_) (fun h => ?_)
 ·
  refine zyR 14 rfl ?_
  refine zyR 4 rfl (zyN (zaH ?_))
  cases h
  exact zaN (rs:=[.tmp 6]) () (.inl rfl) Tryz.results36 (.cons (.tmp rfl) .nil) rfl Splits.nil
 refine zab zk4 rfl dc rfl (show _=2 from rfl) (zaq (k:=1) ziA rfl dc rfl rfl rfl (zaU rfl zaV (zyR 2 rfl ?_)))
 refine zyS (s:=19) rfl h (fun h => ?_) (fun h => ?_)
 ·
  refine zyR 13 rfl (zaO ?_)
  refine zaL (zaH ?_)
  cases h
  exact zaN (rs:=[.tmp 6]) () (.inl rfl) Tryz.results36 (.cons (.tmp rfl) .nil) rfl Splits.nil
 refine zyR 1 rfl (zaU rfl zaV (zyR 1 rfl ?_))
 refine zyS (s:=22) rfl h (fun h => ?_) (fun h => ?_)
 ·
  refine zyR 1 rfl (zaU rfl zaV (zyR 2 rfl ?_))
  refine zyS (s:=26) rfl h (fun h => ?_) (fun h => ?_)
  ·
   refine zab zk4 rfl dc rfl (show _=2 from rfl) (zaq (k:=0) ziA rfl dc rfl rfl rfl (zaU rfl zaV (zyR 3 rfl (zyN (zaH ?_)))))
   cases h
   exact zaN (rs:=[.tmp 6]) () (.inl rfl) Tryz.results36 (.cons (.tmp rfl) .nil) rfl Splits.nil
  refine zyR 6 rfl (zyN (zaH ?_))
  cases h
  exact zaN (rs:=[.tmp 6]) () (.inl rfl) Tryz.results36 (.cons (.tmp rfl) .nil) rfl Splits.nil
 refine zyR 10 rfl (zyN (zaH ?_))
 cases h
 exact zaN (rs:=[.tmp 6]) () (.inl rfl) Tryz.results36 (.cons (.tmp rfl) .nil) rfl Splits.nil
def zcb (x1:Gapi_Piece) (ag1:Int→Int→Int→Int→Int→Int→Int→Bool→Bool→Option (List Gapi_Cell)) (now13:Int) (now14:Int) (now15:Int) (head4:Int) (last13:Int) (last14:Int) (last15:Int) (last16:Bool) (open5:Bool):Option (List Gapi_Cell) :=
zbd (fun (j2:Option (List Gapi_Cell)) =>
grd (I32 x1.Rune) <|
zax (!open5) (
j2
) (
zax ((last15:Int)==13) (
zax ((x1.Rune:Int)==10) (
grd (I64 (x1.At+x1.Width)) <|
ag1 now13 (x1.At+x1.Width) now15 head4 x1.At x1.Width x1.Rune x1.Broken open5
) (
zax ((head4:Int) != 11) (
zax ((head4:Int) != 4) (
zax ((head4:Int) != 9) (
zak (zdz head4 (⟨last13,last14,last15,last16⟩:Gapi_Piece) x1) fun (r2:Bool) =>
zax (r2) (
grd (I64 (x1.At+x1.Width)) <|
zak (zbD x1) fun (r3:Int) =>
ag1 now13 (x1.At+x1.Width) (max now15 r3) head4 x1.At x1.Width x1.Rune x1.Broken open5
) (
zhl (⟨now13,now14,now15⟩:Gapi_Cell) <|
j2
)
) (
zhl (⟨now13,now14,now15⟩:Gapi_Cell) <|
j2
)
) (
zhl (⟨now13,now14,now15⟩:Gapi_Cell) <|
j2
)
) (
zhl (⟨now13,now14,now15⟩:Gapi_Cell) <|
j2
)
)
) (
zax ((head4:Int) != 11) (
zax ((head4:Int) != 4) (
zax ((head4:Int) != 9) (
zak (zdz head4 (⟨last13,last14,last15,last16⟩:Gapi_Piece) x1) fun (r4:Bool) =>
zax (r4) (
grd (I64 (x1.At+x1.Width)) <|
zak (zbD x1) fun (r5:Int) =>
ag1 now13 (x1.At+x1.Width) (max now15 r5) head4 x1.At x1.Width x1.Rune x1.Broken open5
) (
zhl (⟨now13,now14,now15⟩:Gapi_Cell) <|
j2
)
) (
zhl (⟨now13,now14,now15⟩:Gapi_Cell) <|
j2
)
) (
zhl (⟨now13,now14,now15⟩:Gapi_Cell) <|
j2
)
) (
zhl (⟨now13,now14,now15⟩:Gapi_Cell) <|
j2
)
)
)
) (
grd (I64 (x1.At+x1.Width)) <|
zak (zbD x1) fun (r6:Int) =>
ag1 x1.At (x1.At+x1.Width) r6 (zde x1.Broken x1.Rune) x1.At x1.Width x1.Rune x1.Broken true
)
def zdh (c0:ByteArray):Option (List Gapi_Cell) :=
zbd (fun (j1:Int→Int→Int→Bool→Option (List Gapi_Cell)) =>
zak (zgJ c0) fun (r1:ByteArray) =>
zak (zed r1) fun (its1:(List Gapi_Piece)) =>
zbd (fun (dn1:Int→Int→Int→Int→Int→Int→Int→Bool→Bool→Option (List Gapi_Cell)) =>
zcD dn1 (zcb) its1 0 0 0 0 0 0 0 false false
) (fun (now13:Int) (now14:Int) (now15:Int) (head4:Int) (last13:Int) (last14:Int) (last15:Int) (last16:Bool) (open5:Bool) =>
j1 now13 now14 now15 open5
)
) (fun (now1:Int) (now2:Int) (now3:Int) (zdg:Bool) =>
zax (zdg) (
zhl (⟨now1,now2,now3⟩:Gapi_Cell) <|
some []
) (
some []
)
)
theorem zfr {b_c0:Nat} {c0:ByteArray} {xs:(List Gapi_Cell)} (h:zdh c0=some xs):Itr Tryz.prog 33 [zP b_c0] (fun q:Gapi_Cell=>[.agg (zr1 q).toArray]) xs [(b_c0,.cells #[.string c0] 9 (0,0))]:=by
 unfold zdh at h
 refine Itr.intro Tryz.func33 rfl Tryz.ntmps33 (by simp) ?_
 intro l w0 K I X hRo hy
 obtain ⟨r0,hx0⟩:∃ r,xs=[]++r:=⟨xs,rfl⟩
 have hr0:xs=r0:=hx0
 rw [hr0] at h
 refine zjk ?_
 refine zyG ?_
 refine zdW rfl dc rfl (fun b1 => ?_)
 refine zyN ?_
 refine zks (β:=Unit) (l:=0) (fun _=>False) (fun _=>[]) (fun _=>[]) rfl ?_ ?_
 ·
  obtain ⟨j1,hj1,h⟩:=zbC h
  refine zaX (β:=Int×Int×Int×Bool×(List Gapi_Cell)×(List Gapi_Cell)×Nat×Nat×(List Nat)) 5 rfl (fun b=>j1 b.1 b.2.1 b.2.2.1 b.2.2.2.1=some b.2.2.2.2.2.1∧xs=b.2.2.2.2.1++b.2.2.2.2.2.1) (fun b=>zgL b.2.2.2.2.2.2.2.2) (fun b=>[(2,zP b1),(3,zP b.2.2.2.2.2.2.1),(6,zP b.2.2.2.2.2.2.2.1)]) (fun b=>[I b.2.2.2.2.1,cells b1 [.func (.yield l) #[] #[]] 82,cells b.2.2.2.2.2.2.1 [zI b.1,zI b.2.1,zI b.2.2.1] 40,cells b.2.2.2.2.2.2.2.1 [.bool b.2.2.2.1] 4,zj6 ((b.2.2.2.2.2.2.2.2:List Nat).map zoi)]) (fun cut => ?_) ?_
  ·
   refine zyG ?_
   refine zbk zqM rfl dc (fun b4 => ?_)
   refine zyH ?_
   refine zbk zxl rfl dc (fun b5 => ?_)
   refine zyH ?_
   refine zbk zug rfl dc (fun b6 => ?_)
   refine zyH ?_
   refine zbk zyF rfl dc (fun b7 => ?_)
   refine zaS (k:=6) (l':=[.bool false]) zpA rfl rfl rfl rfl rfl (fun _ _=>rfl) rfl ?_
   refine zyN (zaK (zkt (zaL (cut (zyG (zlm (i:=0) hRo zoQ rfl dc rfl rfl rfl ?_))))))
   obtain ⟨r1,hq1,h⟩:=zbj h
   refine zdG (vs:=[.string c0]) rfl dc rfl rfl rfl zx8 (zkF hq1) Splits.nil ?_
   rintro b8
   refine zyN (zaD ?_)
   obtain ⟨its1,hq2,h⟩:=zbj h
   obtain ⟨dn1,hdn1,h⟩:=zbC h
   refine znE (α:=Gapi_Piece) (β:=Int×Int×Int×Int×Int×Int×Int×Bool×Bool×(List Gapi_Cell)×(List Gapi_Cell)) (γ:=(List Gapi_Cell×Gapi_Cell×List Gapi_Cell)) (δ:=Nat) (ps:=[11]) hRo rfl zxU (ziC hq2) (fun pre b=>(∀ post,its1=pre++post→zcD dn1 (zcb) post b.1 b.2.1 b.2.2.1 b.2.2.2.1 b.2.2.2.2.1 b.2.2.2.2.2.1 b.2.2.2.2.2.2.1 b.2.2.2.2.2.2.2.1 b.2.2.2.2.2.2.2.2.1=some b.2.2.2.2.2.2.2.2.2.2)∧xs=b.2.2.2.2.2.2.2.2.2.1++b.2.2.2.2.2.2.2.2.2.2) (fun pre b=>[I b.2.2.2.2.2.2.2.2.2.1,cells b1 [.func (.yield l) #[] #[]] 82,cells b4 [zI b.1,zI b.2.1,zI b.2.2.1] 40,cells b5 [zI b.2.2.2.1] 83,cells b6 [zI b.2.2.2.2.1,zI b.2.2.2.2.2.1,.int .i32 b.2.2.2.2.2.2.1,.bool b.2.2.2.2.2.2.2.1] 85,cells b7 [.bool b.2.2.2.2.2.2.2.2.1] 4]) (fun c pre g=>(fun g=>c=Code.ret∧xs=g.1++g.2.1::g.2.2) g) (fun c pre g=>(fun g=>[X (g.1++[g.2.1])]) g) (fun pre x b j=>[(2,zP b1),(3,zP b4),(4,zP b5),(5,zP b6),(6,zP b7),(10,.func (.func 69) #[] #[zP b8]),(7,zP j)]) (fun pre x b j=>[I b.2.2.2.2.2.2.2.2.2.1,cells b1 [.func (.yield l) #[] #[]] 82,cells b4 [zI b.1,zI b.2.1,zI b.2.2.1] 40,cells b5 [zI b.2.2.2.1] 83,cells b6 [zI b.2.2.2.2.1,zI b.2.2.2.2.2.1,.int .i32 b.2.2.2.2.2.2.1,.bool b.2.2.2.2.2.2.2.1] 85,cells b7 [.bool b.2.2.2.2.2.2.2.2.1] 4,cells j (zr2 x) 85]) (0,0,0,0,0,0,0,false,false,([]:List Gapi_Cell),r0) ⟨fun post e=>(by rw [List.nil_append] at e; subst e; exact h),hx0⟩ (zad [0,2,3,4,5,6] kr rfl) ⟨.inl ⟨7,rfl⟩,trivial⟩ (fun _=>rfl) dc ?_ ?_ ?_ ?_
   ·
    rintro lp rc pre x1 post ⟨now13,now14,now15,head4,last13,last14,last15,last16,open5,acc4,rr4⟩ w1 K1 hxs1 hext hro hinv
    have hy:=hy.later hext
    refine zaw ?_
    refine zbk zug rfl dc (fun b9 => ?_)
    refine zaZ (k:=6) (vs:=(zr2 x1)) (l':=(zr2 x1)) zmH rfl rfl rfl rfl rfl (show _≤_ by simp) rfl rfl ?_
    refine zaO ?_
    exact fun a w ha hw=>⟨b9,(za1 rfl) _ _ _ ha,hw.weaken (zad [0,1,2,3,4,5,6] kr rfl)⟩
   ·
    rintro lp rc pre x1 post1 ⟨now13,now14,now15,head4,last13,last14,last15,last16,open5,acc4,rr4⟩ jb1 w1 K1 hxs1 hext hro hinv
    have hy:=hy.later hext
    obtain ⟨hinv,hx4⟩:=hinv
    have h:=hinv (x1::post1) hxs1
    obtain ⟨ag1,hag1⟩:∃ ag,ag=zcD dn1 (zcb) post1:=⟨_,rfl⟩
    have h:zcb x1 ag1 now13 now14 now15 head4 last13 last14 last15 last16 open5=some rr4:=by rw [hag1]; exact h
    unfold zcb at h
    refine zaD ?_
    obtain ⟨j2,hj2,h⟩:=zbC h
    refine zaX (β:=(List Gapi_Cell)×(List Gapi_Cell)) 1 rfl (fun b=>j2=some b.2∧xs=b.1++b.2) (fun b=>[]) (fun b=>[(2,zP b1),(3,zP b4),(4,zP b5),(5,zP b6),(6,zP b7),(7,zP jb1),(8,zI (zde x1.Broken x1.Rune)),(10,.func (.func 69) #[] #[zP b8])]) (fun b=>[I b.1,cells b1 [.func (.yield l) #[] #[]] 82,cells b4 [zI now13,zI now14,zI now15] 40,cells b5 [zI head4] 83,cells b6 [zI last13,zI last14,.int .i32 last15,.bool last16] 85,cells b7 [.bool open5] 4,cells jb1 (zr2 x1) 85]) (fun cut => ?_) ?_
    ·
     refine zyG (za8 (k:=6) (cs:=(zr2 x1)) zhj rfl dc rfl rfl rfl rfl ?_)
     obtain ⟨hg1,h⟩:=zbl h
     refine zbh (v:=zI (zde x1.Broken x1.Rune)) (vs:=[.agg (zr2 x1).toArray]) rfl dc rfl rfl rfl zu4 (zxz x1.At x1.Width x1.Rune x1.Broken hg1.1 hg1.2) (zyR 1 rfl (zyN (cut (zaD (zyG (zaq (k:=5) zlF rfl dc rfl rfl rfl (zd6 rfl dc rfl zcv (zyR 1 rfl (zyN ?_)))))))))
     refine zyB rfl h (fun h => ?_) (fun h => ?_)
     ·
      refine zat (zag ?_)
      exact zam (acc4,rr4) ⟨h,hx4⟩ rfl (za1 rfl) (zad [0,1,2,3,4,5,6] kr rfl)
     refine zyG (zab zk4 rfl dc rfl (show _=2 from rfl) (zaq (k:=4) ziA rfl dc rfl rfl rfl (zaU rfl zaV (zyR 1 rfl ?_))))
     refine zyS (s:=25) rfl h (fun h => ?_) (fun h => ?_)
     ·
      refine zab zk4 rfl dc rfl (show _=2 from rfl) (zaq (k:=6) ziA rfl dc rfl rfl rfl (zaU rfl zaV (zyR 2 rfl (zyN ?_))))
      refine zyB rfl h (fun h => ?_) (fun h => ?_)
      ·
       refine zyG (zab zk5 rfl dc rfl (show _=0 from rfl) (zaq (k:=6) zbp rfl dc rfl rfl rfl (zab zni rfl dc rfl (show _=1 from rfl) (zaq (k:=6) zbp rfl dc rfl rfl rfl ?_))))
       obtain ⟨hg2,h⟩:=zbl h
       refine zaU rfl (zaP (r:=x1.At+x1.Width) (IntWalk.i64_in _ hg2)) (zab zfD rfl dc rfl (show _=0 from rfl) (zab zdU rfl dc rfl (show _=1 from rfl) ?_))
       refine zaS (k:=2) (l':=[zI now13,zI (x1.At+x1.Width),zI now15]) zdb rfl rfl rfl rfl rfl (fun _ _=>rfl) rfl ?_
       refine zyH (za8 (k:=6) (cs:=(zr2 x1)) zhj rfl dc rfl rfl rfl rfl (zaZ (k:=4) (vs:=(zr2 x1)) (l':=(zr2 x1)) zmH rfl rfl rfl rfl rfl (show _≤_ by simp) rfl rfl ?_))
       refine zyN (za2 (zcA dc (zal (zau ?_))))
       exact zeY (now13,x1.At+x1.Width,now15,head4,x1.At,x1.Width,x1.Rune,x1.Broken,open5,acc4,rr4) ⟨fun post2 e2=>(by have e9:=zec hxs1 e2; subst e9; subst hag1; exact h),hx4⟩ (zad [0,1,2,3,4,5] kr rfl)
      refine zyG (zaq (k:=3) znW rfl dc rfl rfl rfl (zaU rfl zck (zyR 1 rfl ?_)))
      refine zyS (s:=41) rfl h (fun h => ?_) (fun h => ?_)
      ·
       refine zaq (k:=3) znW rfl dc rfl rfl rfl (zaU rfl zck (zyR 2 rfl ?_))
       refine zyS (s:=45) rfl h (fun h => ?_) (fun h => ?_)
       ·
        refine zaq (k:=3) znW rfl dc rfl rfl rfl (zaU rfl zck (zyR 2 rfl ?_))
        refine zyS (s:=49) rfl h (fun h => ?_) (fun h => ?_)
        ·
         refine zaq (k:=3) znW rfl dc rfl rfl rfl (za8 (k:=4) (cs:=[zI last13,zI last14,.int .i32 last15,.bool last16]) zhj rfl dc rfl rfl rfl rfl (za8 (k:=6) (cs:=(zr2 x1)) zhj rfl dc rfl rfl rfl rfl ?_))
         obtain ⟨r2,hq3,h⟩:=zbj h
         refine zbh (v:=.bool r2) (vs:=[zI head4,.agg #[zI last13,zI last14,.int .i32 last15,.bool last16],.agg (zr2 x1).toArray]) rfl dc rfl rfl rfl zwJ (zhh (behind1:=(⟨last13,last14,last15,last16⟩:Gapi_Piece)) (p1:=x1) hq3) (zyR 2 rfl (zyN ?_))
         refine zyB rfl h (fun h => ?_) (fun h => ?_)
         ·
          refine zyG (zab zk5 rfl dc rfl (show _=0 from rfl) (zaq (k:=6) zbp rfl dc rfl rfl rfl (zab zni rfl dc rfl (show _=1 from rfl) (zaq (k:=6) zbp rfl dc rfl rfl rfl ?_))))
          obtain ⟨hg3,h⟩:=zbl h
          refine zaU rfl (zaP (r:=x1.At+x1.Width) (IntWalk.i64_in _ hg3)) (zab zfD rfl dc rfl (show _=0 from rfl) (zab zdU rfl dc rfl (show _=1 from rfl) ?_))
          refine zaS (k:=2) (l':=[zI now13,zI (x1.At+x1.Width),zI now15]) zdb rfl rfl rfl rfl rfl (fun _ _=>rfl) rfl ?_
          refine zyN (zaK ?_)
          obtain ⟨r3,hq4,h⟩:=zbj h
          refine zbG 4 [(0,62,.pointer (some ⟨b4,2,none⟩)),(1,63,zI now15),(2,64,.agg (zr2 x1).toArray),(3,65,zI r3)] mixed kr kr dc (by rfl) kr kr (zae ?_ (zae ?_ (zae ?_ (zae ?_ DrawPre.nil)))) ?_
          · exact fun D n d c u i=>zab zgr rfl dc (zba (by rfl) rfl) (show _=2 from rfl) (zaf 0 u i rfl)
          · exact fun D n d c u i=>zaq (k:=2) zbp rfl dc (zaa (m:=0) u rfl (d 0 dc)) rfl rfl (zaf 1 u i rfl)
          · exact fun D n d c u i=>za8 (k:=6) (cs:=(zr2 x1)) zhj rfl dc (zba (by rfl) rfl) rfl rfl rfl (zaf 2 u i rfl)
          · exact fun D n d c u i=>zbh (v:=zI r3) (vs:=[.agg (zr2 x1).toArray]) rfl dc rfl (evL.cons (zaa (m:=2) u rfl (d 2 dc)) evL.nil) rfl zu3 (zfq (p1:=x1) hq4) (zaf 3 u i rfl)
          refine zll rfl dc rfl rfl (zab zgr rfl dc rfl (show _=2 from rfl) ?_)
          refine zaS (k:=2) (l':=[zI now13,zI (x1.At+x1.Width),zI (max now15 r3)]) zdb rfl rfl rfl rfl rfl (fun _ _=>rfl) rfl ?_
          refine zyH (za8 (k:=6) (cs:=(zr2 x1)) zhj rfl dc rfl rfl rfl rfl (zaZ (k:=4) (vs:=(zr2 x1)) (l':=(zr2 x1)) zmH rfl rfl rfl rfl rfl (show _≤_ by simp) rfl rfl (zyN (za2 (zcA dc (zal (zau ?_)))))))
          exact zeY (now13,x1.At+x1.Width,max now15 r3,head4,x1.At,x1.Width,x1.Rune,x1.Broken,open5,acc4,rr4) ⟨fun post2 e2=>(by have e9:=zec hxs1 e2; subst e9; subst hag1; exact h),hx4⟩ (zad [0,1,2,3,4,5] kr rfl)
         refine zyG (zaq (k:=1) zmQ rfl dc rfl rfl rfl (za8 (k:=2) (cs:=[zI now13,zI now14,zI now15]) zif rfl dc rfl rfl rfl rfl ?_))
         obtain ⟨rr6,hr1,h⟩:=zke h
         have hx6:xs=acc4++(⟨now13,now14,now15⟩:Gapi_Cell)::rr6:=by rw [hx4,hr1]
         refine zeZ hy rfl dc rfl hx6 rfl (k:=0) rfl ?_ ?_
         ·
          have hx7:xs=(acc4++[(⟨now13,now14,now15⟩:Gapi_Cell)])++rr6:=by rw [hx6]; simp
          refine zd6 rfl dc rfl zcv (zyN (zaQ rfl (zat (zag ?_))))
          exact zam (acc4++[(⟨now13,now14,now15⟩:Gapi_Cell)],rr6) ⟨h,hx7⟩ rfl (za1 rfl) (zad [0,1,2,3,4,5,6] kr rfl)
         refine zd6 rfl dc rfl zcv (zyN (za9 rfl (zaH (zaE (zav (zaE ?_))))))
         exact zea (acc4,(⟨now13,now14,now15⟩:Gapi_Cell),rr6) (show _∧_ from ⟨rfl,hx6⟩) (zad [0] kr rfl)
        refine zyR 6 rfl (zyN (zaQ rfl (zyG (zaq (k:=1) zmQ rfl dc rfl rfl rfl (za8 (k:=2) (cs:=[zI now13,zI now14,zI now15]) zif rfl dc rfl rfl rfl rfl ?_)))))
        obtain ⟨rr7,hr2,h⟩:=zke h
        have hx8:xs=acc4++(⟨now13,now14,now15⟩:Gapi_Cell)::rr7:=by rw [hx4,hr2]
        refine zeZ hy rfl dc rfl hx8 rfl (k:=0) rfl ?_ ?_
        ·
         have hx9:xs=(acc4++[(⟨now13,now14,now15⟩:Gapi_Cell)])++rr7:=by rw [hx8]; simp
         refine zd6 rfl dc rfl zcv (zyN (zaQ rfl (zat (zag ?_))))
         exact zam (acc4++[(⟨now13,now14,now15⟩:Gapi_Cell)],rr7) ⟨h,hx9⟩ rfl (za1 rfl) (zad [0,1,2,3,4,5,6] kr rfl)
        refine zd6 rfl dc rfl zcv (zyN (za9 rfl (zaH (zaE (zav (zaE ?_))))))
        exact zea (acc4,(⟨now13,now14,now15⟩:Gapi_Cell),rr7) (show _∧_ from ⟨rfl,hx8⟩) (zad [0] kr rfl)
       refine zyR 10 rfl (zyN (zaQ rfl (zaK ?_)))
       refine zaw (zaq (k:=1) zmQ rfl dc rfl rfl rfl (za8 (k:=2) (cs:=[zI now13,zI now14,zI now15]) zif rfl dc rfl rfl rfl rfl ?_))
       obtain ⟨rr8,hr3,h⟩:=zke h
       have hx10:xs=acc4++(⟨now13,now14,now15⟩:Gapi_Cell)::rr8:=by rw [hx4,hr3]
       refine zeZ hy rfl dc rfl hx10 rfl (k:=0) rfl ?_ ?_
       ·
        have hx11:xs=(acc4++[(⟨now13,now14,now15⟩:Gapi_Cell)])++rr8:=by rw [hx10]; simp
        refine zd6 rfl dc rfl zcv (zyN (zaQ rfl (zat (zag ?_))))
        exact zam (acc4++[(⟨now13,now14,now15⟩:Gapi_Cell)],rr8) ⟨h,hx11⟩ rfl (za1 rfl) (zad [0,1,2,3,4,5,6] kr rfl)
       refine zd6 rfl dc rfl zcv (zyN (za9 rfl (zaH (zaE (zav (zaE ?_))))))
       exact zea (acc4,(⟨now13,now14,now15⟩:Gapi_Cell),rr8) (show _∧_ from ⟨rfl,hx10⟩) (zad [0] kr rfl)
      refine zyR 14 rfl ?_
      refine zyN (zaQ rfl (zyG (zaq (k:=1) zmQ rfl dc rfl rfl rfl (za8 (k:=2) (cs:=[zI now13,zI now14,zI now15]) zif rfl dc rfl rfl rfl rfl ?_))))
      obtain ⟨rr9,hr4,h⟩:=zke h
      have hx12:xs=acc4++(⟨now13,now14,now15⟩:Gapi_Cell)::rr9:=by rw [hx4,hr4]
      refine zeZ hy rfl dc rfl hx12 rfl (k:=0) rfl ?_ ?_
      ·
       have hx13:xs=(acc4++[(⟨now13,now14,now15⟩:Gapi_Cell)])++rr9:=by rw [hx12]; simp
       refine zd6 rfl dc rfl zcv (zyN (zaQ rfl (zat (zag ?_))))
       exact zam (acc4++[(⟨now13,now14,now15⟩:Gapi_Cell)],rr9) ⟨h,hx13⟩ rfl (za1 rfl) (zad [0,1,2,3,4,5,6] kr rfl)
      refine zd6 rfl dc rfl zcv (zyN (za9 rfl (zaH (zaE (zav (zaE ?_))))))
      exact zea (acc4,(⟨now13,now14,now15⟩:Gapi_Cell),rr9) (show _∧_ from ⟨rfl,hx12⟩) (zad [0] kr rfl)
     refine zyR 5 rfl (zyN (zaQ rfl (zyG (zaq (k:=3) znW rfl dc rfl rfl rfl (zaU rfl zck (zyR 1 rfl ?_))))))
     refine zyS (s:=41) rfl h (fun h => ?_) (fun h => ?_)
     ·
      refine zaq (k:=3) znW rfl dc rfl rfl rfl (zaU rfl zck (zyR 2 rfl ?_))
      refine zyS (s:=45) rfl h (fun h => ?_) (fun h => ?_)
      ·
       refine zaq (k:=3) znW rfl dc rfl rfl rfl (zaU rfl zck (zyR 2 rfl ?_))
       refine zyS (s:=49) rfl h (fun h => ?_) (fun h => ?_)
       ·
        refine zaq (k:=3) znW rfl dc rfl rfl rfl (za8 (k:=4) (cs:=[zI last13,zI last14,.int .i32 last15,.bool last16]) zhj rfl dc rfl rfl rfl rfl (za8 (k:=6) (cs:=(zr2 x1)) zhj rfl dc rfl rfl rfl rfl ?_))
        obtain ⟨r4,hq5,h⟩:=zbj h
        refine zbh (v:=.bool r4) (vs:=[zI head4,.agg #[zI last13,zI last14,.int .i32 last15,.bool last16],.agg (zr2 x1).toArray]) rfl dc rfl rfl rfl zwJ (zhh (behind1:=(⟨last13,last14,last15,last16⟩:Gapi_Piece)) (p1:=x1) hq5) (zyR 2 rfl (zyN ?_))
        refine zyB rfl h (fun h => ?_) (fun h => ?_)
        ·
         refine zyG (zab zk5 rfl dc rfl (show _=0 from rfl) (zaq (k:=6) zbp rfl dc rfl rfl rfl (zab zni rfl dc rfl (show _=1 from rfl) (zaq (k:=6) zbp rfl dc rfl rfl rfl ?_))))
         obtain ⟨hg4,h⟩:=zbl h
         refine zaU rfl (zaP (r:=x1.At+x1.Width) (IntWalk.i64_in _ hg4)) (zab zfD rfl dc rfl (show _=0 from rfl) (zab zdU rfl dc rfl (show _=1 from rfl) ?_))
         refine zaS (k:=2) (l':=[zI now13,zI (x1.At+x1.Width),zI now15]) zdb rfl rfl rfl rfl rfl (fun _ _=>rfl) rfl ?_
         refine zyN (zaK ?_)
         obtain ⟨r5,hq6,h⟩:=zbj h
         refine zbG 4 [(0,62,.pointer (some ⟨b4,2,none⟩)),(1,63,zI now15),(2,64,.agg (zr2 x1).toArray),(3,65,zI r5)] mixed kr kr dc (by rfl) kr kr (zae ?_ (zae ?_ (zae ?_ (zae ?_ DrawPre.nil)))) ?_
         · exact fun D n d c u i=>zab zgr rfl dc (zba (by rfl) rfl) (show _=2 from rfl) (zaf 0 u i rfl)
         · exact fun D n d c u i=>zaq (k:=2) zbp rfl dc (zaa (m:=0) u rfl (d 0 dc)) rfl rfl (zaf 1 u i rfl)
         · exact fun D n d c u i=>za8 (k:=6) (cs:=(zr2 x1)) zhj rfl dc (zba (by rfl) rfl) rfl rfl rfl (zaf 2 u i rfl)
         · exact fun D n d c u i=>zbh (v:=zI r5) (vs:=[.agg (zr2 x1).toArray]) rfl dc rfl (evL.cons (zaa (m:=2) u rfl (d 2 dc)) evL.nil) rfl zu3 (zfq (p1:=x1) hq6) (zaf 3 u i rfl)
         refine zll rfl dc rfl rfl (zab zgr rfl dc rfl (show _=2 from rfl) ?_)
         refine zaS (k:=2) (l':=[zI now13,zI (x1.At+x1.Width),zI (max now15 r5)]) zdb rfl rfl rfl rfl rfl (fun _ _=>rfl) rfl ?_
         refine zyH (za8 (k:=6) (cs:=(zr2 x1)) zhj rfl dc rfl rfl rfl rfl (zaZ (k:=4) (vs:=(zr2 x1)) (l':=(zr2 x1)) zmH rfl rfl rfl rfl rfl (show _≤_ by simp) rfl rfl (zyN (za2 (zcA dc (zal (zau ?_)))))))
         exact zeY (now13,x1.At+x1.Width,max now15 r5,head4,x1.At,x1.Width,x1.Rune,x1.Broken,open5,acc4,rr4) ⟨fun post2 e2=>(by have e9:=zec hxs1 e2; subst e9; subst hag1; exact h),hx4⟩ (zad [0,1,2,3,4,5] kr rfl)
        refine zyG (zaq (k:=1) zmQ rfl dc rfl rfl rfl (za8 (k:=2) (cs:=[zI now13,zI now14,zI now15]) zif rfl dc rfl rfl rfl rfl ?_))
        obtain ⟨rr10,hr5,h⟩:=zke h
        have hx14:xs=acc4++(⟨now13,now14,now15⟩:Gapi_Cell)::rr10:=by rw [hx4,hr5]
        refine zeZ hy rfl dc rfl hx14 rfl (k:=0) rfl ?_ ?_
        ·
         have hx15:xs=(acc4++[(⟨now13,now14,now15⟩:Gapi_Cell)])++rr10:=by rw [hx14]; simp
         refine zd6 rfl dc rfl zcv (zyN (zaQ rfl (zat (zag ?_))))
         exact zam (acc4++[(⟨now13,now14,now15⟩:Gapi_Cell)],rr10) ⟨h,hx15⟩ rfl (za1 rfl) (zad [0,1,2,3,4,5,6] kr rfl)
        refine zd6 rfl dc rfl zcv (zyN (za9 rfl (zaH (zaE (zav (zaE ?_))))))
        exact zea (acc4,(⟨now13,now14,now15⟩:Gapi_Cell),rr10) (show _∧_ from ⟨rfl,hx14⟩) (zad [0] kr rfl)
       refine zyR 6 rfl (zyN (zaQ rfl (zyG (zaq (k:=1) zmQ rfl dc rfl rfl rfl (za8 (k:=2) (cs:=[zI now13,zI now14,zI now15]) zif rfl dc rfl rfl rfl rfl ?_)))))
       obtain ⟨rr11,hr6,h⟩:=zke h
       have hx16:xs=acc4++(⟨now13,now14,now15⟩:Gapi_Cell)::rr11:=by rw [hx4,hr6]
       refine zeZ hy rfl dc rfl hx16 rfl (k:=0) rfl ?_ ?_
       ·
        have hx17:xs=(acc4++[(⟨now13,now14,now15⟩:Gapi_Cell)])++rr11:=by rw [hx16]; simp
        refine zd6 rfl dc rfl zcv (zyN (zaQ rfl (zat (zag ?_))))
        exact zam (acc4++[(⟨now13,now14,now15⟩:Gapi_Cell)],rr11) ⟨h,hx17⟩ rfl (za1 rfl) (zad [0,1,2,3,4,5,6] kr rfl)
       refine zd6 rfl dc rfl zcv (zyN (za9 rfl (zaH (zaE (zav (zaE ?_))))))
       exact zea (acc4,(⟨now13,now14,now15⟩:Gapi_Cell),rr11) (show _∧_ from ⟨rfl,hx16⟩) (zad [0] kr rfl)
      refine zyR 10 rfl (zyN (zaQ rfl (zaK ?_)))
      refine zaw (zaq (k:=1) zmQ rfl dc rfl rfl rfl (za8 (k:=2) (cs:=[zI now13,zI now14,zI now15]) zif rfl dc rfl rfl rfl rfl ?_))
      obtain ⟨rr12,hr7,h⟩:=zke h
      have hx18:xs=acc4++(⟨now13,now14,now15⟩:Gapi_Cell)::rr12:=by rw [hx4,hr7]
      refine zeZ hy rfl dc rfl hx18 rfl (k:=0) rfl ?_ ?_
      ·
       have hx19:xs=(acc4++[(⟨now13,now14,now15⟩:Gapi_Cell)])++rr12:=by rw [hx18]; simp
       refine zd6 rfl dc rfl zcv (zyN (zaQ rfl (zat (zag ?_))))
       exact zam (acc4++[(⟨now13,now14,now15⟩:Gapi_Cell)],rr12) ⟨h,hx19⟩ rfl (za1 rfl) (zad [0,1,2,3,4,5,6] kr rfl)
      refine zd6 rfl dc rfl zcv (zyN (za9 rfl (zaH (zaE (zav (zaE ?_))))))
      exact zea (acc4,(⟨now13,now14,now15⟩:Gapi_Cell),rr12) (show _∧_ from ⟨rfl,hx18⟩) (zad [0] kr rfl)
     refine zyR 14 rfl ?_
     refine zyN (zaQ rfl (zyG (zaq (k:=1) zmQ rfl dc rfl rfl rfl (za8 (k:=2) (cs:=[zI now13,zI now14,zI now15]) zif rfl dc rfl rfl rfl rfl ?_))))
     obtain ⟨rr13,hr8,h⟩:=zke h
     have hx20:xs=acc4++(⟨now13,now14,now15⟩:Gapi_Cell)::rr13:=by rw [hx4,hr8]
     refine zeZ hy rfl dc rfl hx20 rfl (k:=0) rfl ?_ ?_
     ·
      have hx21:xs=(acc4++[(⟨now13,now14,now15⟩:Gapi_Cell)])++rr13:=by rw [hx20]; simp
      refine zd6 rfl dc rfl zcv (zyN (zaQ rfl (zat (zag ?_))))
      exact zam (acc4++[(⟨now13,now14,now15⟩:Gapi_Cell)],rr13) ⟨h,hx21⟩ rfl (za1 rfl) (zad [0,1,2,3,4,5,6] kr rfl)
     refine zd6 rfl dc rfl zcv (zyN (za9 rfl (zaH (zaE (zav (zaE ?_))))))
     exact zea (acc4,(⟨now13,now14,now15⟩:Gapi_Cell),rr13) (show _∧_ from ⟨rfl,hx20⟩) (zad [0] kr rfl)
    rintro ⟨acc5,rr5⟩ ⟨h,hx5⟩
    rw [hj2] at h
    refine zaK ?_
    refine let vals1:(Unit)→List (Nat×Nat×Value):=fun b=>[(0,69,zI (zde x1.Broken x1.Rune)),(1,70,.agg (zr2 x1).toArray)]; let LL1:(Nat→Prop)→(Unit)→List Asn:=fun D b=>[I acc5,cells b1 [.func (.yield l) #[] #[]] 82,cells b4 [zI now13,zI now14,zI now15] 40,eD D (cells b5 [zI head4] 83) [(3,cells b5 [zI (zde x1.Broken x1.Rune)] 83)],cells b6 [zI last13,zI last14,.int .i32 last15,.bool last16] 85,eD D (cells b7 [.bool open5] 4) [(2,cells b7 [.bool true] 4)],cells jb1 (zr2 x1) 85]; ?_
    have zhq:zyQ [2,3] LL1:=fun i h D b=>zac rfl (zac rfl (zac rfl (zac (zlx rfl h) (zac rfl (zac (zlx rfl h) rfl)))))
    refine zdY (β:=Unit) 4 () vals1 LL1 mixed kr kr dc (fun _=>rfl) (zcC (zac zbY (zac rfl (zac zbY rfl)))) (znJ zhq (fun _=>rfl) (fun _=>rfl) 1 0 (fun _=>rfl) rfl (zjl zhq rfl (fun _=>rfl) (fun _=>rfl) ?_ (zas ?_ (zas ?_ DrawG.nil)))) ?_
    · exact fun D b n d c u i=>⟨_,(zw5 rfl),za8 (k:=6) (cs:=(zr2 x1)) zhj rfl dc (zba (by rfl) rfl) rfl rfl rfl (zaf 1 u i rfl)⟩
    ·
     intro D b hn hd hcl
     refine zaG (zcC (zac (zaj (fun hD=>hn (hcl 3 _ rfl hD 2 dc)) zap) (zac rfl (zac (zaj hn zap) rfl)))) ?_
     refine zaS (k:=5) (l':=[.bool true]) zpA rfl (zba (by rfl) rfl) rfl rfl rfl (fun _ _=>rfl) rfl ?_
     exact zjh (b:=b) () (by rfl) (zvC rfl) (zcC (zac ((zao (by rfl)).trans (zaj (fun hD=>hn (hcl 3 _ rfl hD 2 dc)) zap)) (zac rfl (zac (zaI (Or.inr rfl) rfl) rfl))))
    ·
     intro D b hn hd hcl
     refine zaG (zcC (zac (zaj hn zap) (zac rfl (zac (zaI (hd 2 dc) rfl) rfl)))) ?_
     refine zaS (k:=3) (l':=[zI (zde x1.Broken x1.Rune)]) zxq rfl (zba (by rfl) rfl) (zaa (m:=0) rfl rfl (hd 0 dc)) rfl rfl (fun _ _=>rfl) rfl ?_
     exact zjh (b:=b) () (by rfl) (zvC rfl) (zcC (zac (zaI (Or.inr rfl) rfl) (zac rfl (zac ((zao (by rfl)).trans (zaI (hd 2 dc) rfl)) rfl))))
    intro D b hall
    refine zaG (zcC (zac (zaI (hall 3 dc) rfl) (zac rfl (zac (zaI (hall 2 dc) rfl) rfl)))) (zaZ (k:=4) (vs:=(zr2 x1)) (l':=(zr2 x1)) zmH rfl rfl rfl rfl rfl (show _≤_ by simp) rfl rfl (zyN ?_))
    obtain ⟨hg5,h⟩:=zbl h
    obtain ⟨r6,hq7,h⟩:=zbj h
    refine zbG 10 [(0,71,zP jb1),(1,72,zI x1.At),(2,73,zP jb1),(3,74,zI x1.At),(4,75,.pointer (some ⟨jb1,1,none⟩)),(5,76,zI x1.Width),(6,77,zI (x1.At+x1.Width)),(7,78,.agg #[zI x1.At,zI (x1.At+x1.Width)]),(8,79,.agg (zr2 x1).toArray),(9,80,zI r6)] mixed kr kr dc (by rfl) kr kr (zae ?_ (zae ?_ (zae ?_ (zae ?_ (zae ?_ (zae ?_ (zae ?_ (zae ?_ (zae ?_ (zae ?_ DrawPre.nil)))))))))) ?_
    · exact fun D n d c u i=>zab zk5 rfl dc (zba (by rfl) rfl) (show _=0 from rfl) (zaf 0 u i rfl)
    · exact fun D n d c u i=>zaq (k:=6) zbp rfl dc (zaa (m:=0) u rfl (d 0 dc)) rfl rfl (zaf 1 u i rfl)
    · exact fun D n d c u i=>zab zk5 rfl dc (zba (by rfl) rfl) (show _=0 from rfl) (zaf 2 u i rfl)
    · exact fun D n d c u i=>zaq (k:=6) zbp rfl dc (zaa (m:=2) u rfl (d 2 dc)) rfl rfl (zaf 3 u i rfl)
    · exact fun D n d c u i=>zab zni rfl dc (zba (by rfl) rfl) (show _=1 from rfl) (zaf 4 u i rfl)
    · exact fun D n d c u i=>zaq (k:=6) zbp rfl dc (zaa (m:=4) u rfl (d 4 dc)) rfl rfl (zaf 5 u i rfl)
    · exact fun D n d c u i=>zbR rfl dc (zaa (m:=3) u rfl (d 3 dc)) (zaa (m:=5) u rfl (d 5 dc)) (zaP (r:=x1.At+x1.Width) (IntWalk.i64_in _ hg5)) (zaf 6 u i rfl)
    · exact fun D n d c u i=>za5 (v:=.agg #[zI x1.At,zI (x1.At+x1.Width)]) (ps:=[(0,.tmp 72),(1,.tmp 77)]) rfl dc (evP.cons (zaa (m:=1) u rfl (d 1 dc)) (evP.cons (zaa (m:=6) u rfl (d 6 dc)) evP.nil)) (fun _=>by kernel_rfl) (zaf 7 u i rfl)
    · exact fun D n d c u i=>za8 (k:=6) (cs:=(zr2 x1)) zhj rfl dc (zba (by rfl) rfl) rfl rfl rfl (zaf 8 u i rfl)
    · exact fun D n d c u i=>zbh (v:=zI r6) (vs:=[.agg (zr2 x1).toArray]) rfl dc rfl (evL.cons (zaa (m:=8) u rfl (d 8 dc)) evL.nil) rfl zu3 (zfq (p1:=x1) hq7) (zaf 9 u i rfl)
    refine za5 (v:=.agg #[zI x1.At,zI (x1.At+x1.Width),zI r6]) (ps:=[(0,.tmp 78),(1,.tmp 80)]) rfl dc rfl (fun _=>by kernel_rfl) ?_
    refine zaZ (k:=2) (vs:=[zI x1.At,zI (x1.At+x1.Width),zI r6]) (l':=[zI x1.At,zI (x1.At+x1.Width),zI r6]) zgV rfl rfl rfl rfl rfl (show _≤_ by simp) rfl rfl ?_
    refine zaO (zag ?_)
    exact zeY (x1.At,x1.At+x1.Width,r6,zde x1.Broken x1.Rune,x1.At,x1.Width,x1.Rune,x1.Broken,true,acc5,rr5) ⟨fun post2 e2=>(by have e9:=zec hxs1 e2; subst e9; subst hag1; exact h),hx5⟩ (zad [0,1,2,3,4,5] kr rfl)
   ·
    rintro dm1 ⟨now13,now14,now15,head4,last13,last14,last15,last16,open5,acc4,rr4⟩ hinv
    obtain ⟨hinv,hx4⟩:=hinv
    have h:dn1 now13 now14 now15 head4 last13 last14 last15 last16 open5=some rr4:=hinv [] (List.append_nil _).symm
    rw [hdn1] at h
    refine zgw (k:=14) (j:=1) rfl rfl dc ?_
    refine zag ?_
    exact zam (now13,now14,now15,open5,acc4,rr4,b4,b7,dm1::([]:List Nat)) ⟨h,hx4⟩ rfl (za1 rfl) (zad [8,9,10,13,1] kr rfl)
   rintro dm1 c pre x1 post g hxs hX
   obtain ⟨ta1,tq1,tr1⟩:=g
   obtain ⟨rfl,hx22⟩:=(show _∧_ from hX)
   refine zlq (k:=9) (j:=1) rfl rfl dc ?_
   refine zaH (zaE (zav (zd5 (by simp) ?_)))
   exact zlj (ds:=(dm1::([]:List Nat))) ta1 tq1 tr1 hx22 (.inl rfl) (zb4 (k:=1) rfl) Tryz.results33 (zad [8] kr rfl)
  rintro ⟨now1,now2,now3,zdg,acc1,rr1,b2,b3,ds1⟩ ⟨h,hx1⟩
  rw [hj1] at h
  refine zyG (zaq (k:=3) zlF rfl dc rfl rfl rfl (zyN ?_))
  refine zyB rfl h (fun h => ?_) (fun h => ?_)
  ·
   refine zaw (zaq (k:=1) zmQ rfl dc rfl rfl rfl (za8 (k:=2) (cs:=[zI now1,zI now2,zI now3]) zif rfl dc rfl rfl rfl rfl ?_))
   obtain ⟨rr14,hr9,h⟩:=zke h
   have hx23:xs=acc1++(⟨now1,now2,now3⟩:Gapi_Cell)::rr14:=by rw [hx1,hr9]
   refine zeZ hy rfl dc rfl hx23 rfl (k:=0) rfl ?_ ?_
   ·
    have hx24:xs=(acc1++[(⟨now1,now2,now3⟩:Gapi_Cell)])++rr14:=by rw [hx23]; simp
    refine zaO (zd5 (by simp) ?_)
    cases h
    exact zli (ds:=ds1) (.inr rfl) (zb4 (k:=4) rfl) Tryz.results33 (congrArg I (hx24.trans (List.append_nil _))) (zad [0] kr rfl)
   refine zaO (zd5 (by simp) ?_)
   exact zlj (ds:=ds1) acc1 (⟨now1,now2,now3⟩:Gapi_Cell) rr14 hx23 (.inr rfl) (zb4 (k:=4) rfl) Tryz.results33 (zad [0] kr rfl)
  refine zat (zd5 (by simp) ?_)
  cases h
  exact zli (ds:=ds1) (.inr rfl) (zb4 (k:=4) rfl) Tryz.results33 (congrArg I (hx1.trans (List.append_nil _))) (zad [0] kr rfl)
 exact fun b hb=>hb.elim
def zeT (s1:ByteArray):Option ByteArray :=
some s1
theorem zgt {s1:ByteArray} {r:ByteArray} (h:zeT s1=some r):Fn Tryz.prog 11 [.string s1] [] (fun v0:Nat=>.func (.func 33) #[] #[zP v0]) (fun v0=>[cells v0 [.string r] 9]):=by
 unfold zeT at h
 refine Fn.intro Tryz.func11 rfl Tryz.ntmps11 (by simp) ?_
 intro w0 K
 refine zyG ?_
 refine zdW rfl dc rfl (fun b1 => ?_)
 refine zyR 1 rfl (zyH (zhe (x1:=[]) (x2:=[.tmp 1]) rfl dc rfl rfl (zyR 1 rfl (zyN (zaH ?_)))))
 cases h
 exact zaN (rs:=[.tmp 2]) b1 (.inl rfl) Tryz.results11 (.cons (.tmp rfl) .nil) rfl (zad [0] kr rfl)
end Go.Proofs.YtbempdelckaccaaGreatDoor

namespace Go.Proofs.YtbempdelckaccaaGreatDoor
open Go.RowKit Go.Lib
set_option linter.unusedVariables false
set_option linter.unusedSimpArgs false
theorem ze5 (s:ByteArray):s.data.toList.length=s.size:=by rw [Array.length_toList]; rfl
def zlB (r:Int):Bool→List Int→Bool
 | _,[]=>false
 | false,e::es=>if r<e then false else zlB r true es
 | true,e::es=>if r≤e then true else zlB r false es
def zqV:List Int:=(pcs (⟨#[225,132,128,225,133,159,226,186,128,227,128,190,227,129,129,228,182,191,228,184,128,234,147,143,234,176,128,237,158,163,239,164,128,239,171,191,239,184,176,239,185,175,239,188,128,239,189,160,239,191,160,239,191,166,240,159,140,128,240,159,153,143,240,159,164,128,240,159,167,191,240,160,128,128,240,191,191,189]⟩:ByteArray).data.toList).map fun p=>(p.r:Int)
def zlC (r:Int):Bool:=zlB r false zqV
theorem zvM (r:Int):zen r=some (zlC r):=by
 unfold zen zlC zqV
 refine zbs ?_
 generalize hP:pcs (⟨#[225,132,128,225,133,159,226,186,128,227,128,190,227,129,129,228,182,191,228,184,128,234,147,143,234,176,128,237,158,163,239,164,128,239,171,191,239,184,176,239,185,175,239,188,128,239,189,160,239,191,160,239,191,166,240,159,140,128,240,159,153,143,240,159,164,128,240,159,167,191,240,160,128,128,240,191,191,189]⟩:ByteArray).data.toList=P
 have hlen:P.length≤1000:=by rw [← hP]; decide +kernel
 have key:∀ (n m:Nat) (w:Bool),m≤P.length→P.length - m<n→zaF (fun _ _=>none) (zc9 r (some false)) n w m=some (zlB r w ((P.drop m).map fun p=>(p.r:Int))):=by
  intro n
  induction n with
  | zero=>intro m w _ h; omega
  | succ n ih =>
   intro m w hm hn
   rw [zct]
   generalize zaF (fun _ _=>none) (zc9 r (some false)) n=ag at ih ⊢
   unfold zc9
   rw [hP]
   by_cases h:m<P.length
   ·have hx:P[m]?=some P[m]:=List.getElem?_eq_getElem h
    have hd:=List.drop_eq_getElem_cons h
    generalize P[m]=p at hx hd
    have hn1:=fun w=>ih (m+1) w (by omega) (by omega)
    refine zaz (decide_eq_true h) (zaJ hx (zbs ?_))
    rw [hd,List.map_cons]
    cases w with
    | false =>
     refine zaz rfl ?_
     unfold zlB
     by_cases h1:r<(p.r:Int)
     ·rw [if_pos h1]; exact zaz (decide_eq_true h1) rfl
     ·rw [if_neg h1]; exact zay (decide_eq_false h1) (zay rfl (hn1 true))
    | true =>
     refine zay rfl (zaz rfl ?_)
     unfold zlB
     by_cases h1:r≤(p.r:Int)
     ·rw [if_pos h1]; exact zaz (decide_eq_true h1) rfl
     ·rw [if_neg h1]; exact zay (decide_eq_false h1) (hn1 false)
   ·have:m=P.length:=by omega
    subst this
    refine zay (decide_eq_false h) ?_
    rw [List.drop_length]
    cases w <;> rfl
 have:=key zbV 0 false (Nat.zero_le _) (by have:=zb8 (n:=P.length) (by omega); omega)
 rw [List.drop_zero] at this
 exact this
def kdP (x:Gapi_Piece):Int:=zde x.Broken x.Rune
def zfV (x:Gapi_Piece):Int:=if kdP x=11 then 1 else if kdP x=2∨kdP x=4∨kdP x=9 then 0 else if zlC x.Rune=true then 2 else 1
theorem zpn (x:Gapi_Piece):0≤zfV x∧zfV x≤2:=by
 unfold zfV; repeat' split
 all_goals omega
theorem zgG {a b:Int} (h:a=b):(a==b)=true:=by rw [h]; exact beq_self_eq_true _
theorem zgN {a b:Int} (h:a≠b):(a==b)=false:=beq_eq_false_iff_ne.2 h
theorem zvw {a b:Int} (h:a≠b):(a != b)=true:=bne_iff_ne.2 h
theorem zxC {a b:Int} (h:a=b):(a != b)=false:=by rw [h]; exact bne_self_eq_false _
theorem zle (x:Gapi_Piece) (hx:I32 x.Rune):zbD x=some (zfV x):=by
 unfold zbD zfV
 refine zbo hx ?_
 change zax (kdP x==11) _ _=_
 by_cases h1:kdP x=11
 ·rw [if_pos h1]; exact zaz (zgG h1) rfl
 rw [if_neg h1]
 refine zay (zgN h1) (zbs ?_)
 change zax (kdP x==2) (zax (kdP x==2) _ _) (zax (kdP x==4) (zax (kdP x==4) _ _) (zax (kdP x==9) _ _))=_
 have wd:(zak (zen x.Rune) fun (r1:Bool)=>zax (r1) (some (2:Int)) (some 1))=some (if zlC x.Rune=true then 2 else 1):=by
  refine zaJ (zvM x.Rune) ?_
  cases zlC x.Rune <;> rfl
 by_cases h2:kdP x=2
 ·rw [if_pos (.inl h2)]; exact zaz (zgG h2) (zaz (zgG h2) rfl)
 refine zay (zgN h2) ?_
 by_cases h4:kdP x=4
 ·rw [if_pos (.inr (.inl h4))]; exact zaz (zgG h4) (zaz (zgG h4) rfl)
 refine zay (zgN h4) ?_
 by_cases h9:kdP x=9
 ·rw [if_pos (.inr (.inr h9))]; exact zaz (zgG h9) rfl
 rw [if_neg (by omega)]
 exact zay (zgN h9) wd
def zfZ (head behind:Int) (x:Gapi_Piece):Bool:=if x.Broken then false else if kdP x=2 then true else if x.Rune=8205 then true else if head=10 then (if kdP x=10 then decide (behind=8205) else false) else false
theorem zuV (head:Int) (b x:Gapi_Piece) (hx:I32 x.Rune):zdz head b x=some (zfZ head b.Rune x):=by
 unfold zdz zfZ
 cases hb:x.Broken with
 | true=>exact zaz rfl rfl
 | false =>
  refine zay rfl (zbo hx ?_)
  have hk:kdP x=zde false x.Rune:=by unfold kdP; rw [hb]
  rw [← hk]
  simp only [Bool.false_eq_true,if_false]
  by_cases h2:kdP x=2
  ·rw [if_pos h2]; exact zaz (zgG h2) rfl
  rw [if_neg h2]
  refine zay (zgN h2) ?_
  by_cases hj:x.Rune=8205
  ·rw [if_pos hj]; exact zaz (zgG hj) rfl
  rw [if_neg hj]
  refine zay (zgN hj) ?_
  by_cases hh:head=10
  ·rw [if_pos hh]
   refine zaz (zgG hh) ?_
   by_cases h10:kdP x=10
   ·rw [if_pos h10]
    refine zaz (zgG h10) ?_
    by_cases e:b.Rune=8205
    ·rw [decide_eq_true e,zgG e]
    ·rw [decide_eq_false e,zgN e]
   ·rw [if_neg h10]; exact zay (zgN h10) rfl
  ·rw [if_neg hh]; exact zay (zgN hh) rfl
def zkz (head last:Int) (x:Gapi_Piece):Bool:=head != 11&&(head != 4&&(head != 9&&zfZ head last x))
def zgv:Gapi_Cell→Int→Int→List Gapi_Piece→List Gapi_Cell
 | c,_,_,[]=>[c]
 | c,head,last,x::xs =>
  if last=13∧x.Rune=10 then zgv ⟨c.Span_From,x.At+x.Width,c.Columns⟩ head x.Rune xs
  else if zkz head last x=true then zgv ⟨c.Span_From,x.At+x.Width,max c.Columns (zfV x)⟩ head x.Rune xs
  else c::zgv ⟨x.At,x.At+x.Width,zfV x⟩ (kdP x) x.Rune xs
theorem zfE (c:Gapi_Cell) (head last:Int) (x:Gapi_Piece) (xs:List Gapi_Piece):zgv c head last (x::xs)=if last=13∧x.Rune=10 then zgv ⟨c.Span_From,x.At+x.Width,c.Columns⟩ head x.Rune xs
  else if zkz head last x=true then zgv ⟨c.Span_From,x.At+x.Width,max c.Columns (zfV x)⟩ head x.Rune xs
  else c::zgv ⟨x.At,x.At+x.Width,zfV x⟩ (kdP x) x.Rune xs:=rfl
def zdk:List Gapi_Piece→List Gapi_Cell
 | []=>[]
 | x::xs=>zgv ⟨x.At,x.At+x.Width,zfV x⟩ (kdP x) x.Rune xs
def zah (s:ByteArray):List Gapi_Cell:=zdk ((pcs s.data.toList).map pcG)
def okP (x:Gapi_Piece):Prop:=I32 x.Rune∧0≤x.At∧x.At≤4000000000∧0<x.Width∧x.Width≤4
theorem zsc (d:Int→Int→Int→Int→Int→Int→Int→Bool→Bool→Option (List Gapi_Cell)) (hd:∀ a b c h l1 l2 l3 l4,d a b c h l1 l2 l3 l4 true=some [⟨a,b,c⟩]) :
  ∀ (xs:List Gapi_Piece) (a b c h l1 l2 l3:Int) (l4:Bool),(∀ x∈xs,okP x)→zcD d zcb xs a b c h l1 l2 l3 l4 true=some (zgv ⟨a,b,c⟩ h l3 xs)
 | [],a,b,c,h,l1,l2,l3,l4,_=>hd a b c h l1 l2 l3 l4
 | x::xs,a,b,c,h,l1,l2,l3,l4,ho=>by
  obtain ⟨o1,o2,o3,o4,o5⟩:=ho x (List.mem_cons_self ..)
  have ih:=fun a b c h l1 l2 l3 l4=>zsc d hd xs a b c h l1 l2 l3 l4 (fun y hy=>ho y (List.mem_cons_of_mem _ hy))
  rw [zgX]
  generalize zcD d zcb xs=ag at ih ⊢
  unfold zcb
  refine zbs (zbo o1 (zay rfl ?_))
  have hI:I64 (x.At+x.Width):=⟨by omega,by omega⟩
  have new:(grd (I64 (x.At+x.Width))<|zak (zbD x) fun (r6:Int)=>ag x.At (x.At+x.Width) r6 (zde x.Broken x.Rune) x.At x.Width x.Rune x.Broken true)=some (zgv ⟨x.At,x.At+x.Width,zfV x⟩ (kdP x) x.Rune xs) :=
   zbo hI (zaJ (zle x o1) (ih ..))
  have rest:¬ (l3=13∧x.Rune=10)→zax ((h:Int) != 11) (zax ((h:Int) != 4) (zax ((h:Int) != 9) (zak (zdz h (⟨l1,l2,l3,l4⟩:Gapi_Piece) x) fun (r2:Bool)=>zax (r2) (grd (I64 (x.At+x.Width))<|zak (zbD x) fun (r3:Int)=>ag a (x.At+x.Width) (max c r3) h x.At x.Width x.Rune x.Broken true)
    (zhl (⟨a,b,c⟩:Gapi_Cell)<|(grd (I64 (x.At+x.Width))<|zak (zbD x) fun (r6:Int)=>ag x.At (x.At+x.Width) r6 (zde x.Broken x.Rune) x.At x.Width x.Rune x.Broken true)))
    (zhl (⟨a,b,c⟩:Gapi_Cell)<|(grd (I64 (x.At+x.Width))<|zak (zbD x) fun (r6:Int)=>ag x.At (x.At+x.Width) r6 (zde x.Broken x.Rune) x.At x.Width x.Rune x.Broken true)))
    (zhl (⟨a,b,c⟩:Gapi_Cell)<|(grd (I64 (x.At+x.Width))<|zak (zbD x) fun (r6:Int)=>ag x.At (x.At+x.Width) r6 (zde x.Broken x.Rune) x.At x.Width x.Rune x.Broken true)))
    (zhl (⟨a,b,c⟩:Gapi_Cell)<|(grd (I64 (x.At+x.Width))<|zak (zbD x) fun (r6:Int)=>ag x.At (x.At+x.Width) r6 (zde x.Broken x.Rune) x.At x.Width x.Rune x.Broken true))=some (zgv ⟨a,b,c⟩ h l3 (x::xs)):=by
   intro hn
   rw [new,zfE,if_neg hn]
   unfold zkz
   cases h1:(h != 11) with
   | false=>exact zay rfl rfl
   | true =>
    refine zaz rfl ?_
    cases h2:(h != 4) with
    | false=>exact zay rfl rfl
    | true =>
     refine zaz rfl ?_
     cases h3:(h != 9) with
     | false=>exact zay rfl rfl
     | true =>
      refine zaz rfl (zaJ (zuV h _ x o1) ?_)
      show zax (zfZ h l3 x) _ _=some (if (true&&(true&&(true&&zfZ h l3 x)))=true then _ else _)
      cases h4:zfZ h l3 x with
      | false=>exact zay rfl rfl
      | true=>exact zaz rfl (zbo hI (zaJ (zle x o1) (ih ..)))
  by_cases hr:l3=13
  ·refine zaz (zgG hr) ?_
   by_cases hx:x.Rune=10
   ·refine zaz (zgG hx) (zbo hI ?_)
    rw [ih,zfE,if_pos ⟨hr,hx⟩]
   ·exact zay (zgN hx) (rest (fun e=>hx e.2))
  ·exact zay (zgN hr) (rest (fun e=>hr e.1))
theorem zuN (s:ByteArray) (hs:s.size≤2147483648):∀ x∈(pcs s.data.toList).map pcG,okP x:=by
 intro x hx
 obtain ⟨p,hp,rfl⟩:=List.mem_map.1 hx
 obtain ⟨g1,g2,hok⟩:=zfX s.data.toList p hp
 have hl:=ze5 s
 have h1:=hok.pos
 have hv:=hok.valid
 have hw:p.w≤4:=by
  by_cases h:p.r=65533∧p.w=1
  ·omega
  ·rw [← hok.width h]; exact (zia _).2
 refine ⟨⟨?_,?_⟩,?_,?_,?_,?_⟩
 ·show -2147483648≤(p.r:Int); omega
 ·show (p.r:Int)≤2147483647; omega
 ·show 0≤(p.i:Int); omega
 ·show (p.i:Int)≤4000000000; omega
 ·show 0<(p.w:Int); omega
 ·show (p.w:Int)≤4; omega
theorem zsb (s:ByteArray) (hs:s.size≤2147483648):zdh s=some (zah s):=by
 unfold zdh
 refine zbs (zaJ rfl (zaJ (zuM s hs) (zbs ?_)))
 have ho:=zuN s hs
 unfold zah
 generalize (pcs s.data.toList).map pcG=P at ho
 cases P with
 | nil=>rfl
 | cons x xs =>
  obtain ⟨o1,o2,o3,o4,o5⟩:=ho x (List.mem_cons_self ..)
  rw [zgX]
  have ih:=zsc (fun (now13:Int) (now14:Int) (now15:Int) (head4:Int) (last13:Int) (last14:Int) (last15:Int) (last16:Bool) (open5:Bool)=>zax (open5) (zhl (⟨now13,now14,now15⟩:Gapi_Cell)<|some []) (some [])) (fun a b c h l1 l2 l3 l4=>rfl) xs x.At (x.At+x.Width) (zfV x) (kdP x) x.At x.Width x.Rune x.Broken (fun y hy=>ho y (List.mem_cons_of_mem _ hy))
  generalize zcD _ zcb xs=ag at ih ⊢
  unfold zcb
  exact zbs (zbo o1 (zaz rfl (zbo ⟨by omega,by omega⟩ (zaJ (zle x o1) ih))))
def Cov:Int→List Gapi_Cell→Int→Prop
 | a,[],b=>a=b
 | a,c::cs,b=>c.Span_From=a∧a<c.Span_To∧(0≤c.Columns∧c.Columns≤2)∧Cov c.Span_To cs b
def zw2:Int→List Gapi_Piece→Int→Prop
 | a,[],b=>a=b
 | a,x::xs,b=>x.At=a∧0<x.Width∧zw2 (a+x.Width) xs b
theorem zje:∀ (xs:List Gapi_Piece) (c:Gapi_Cell) (h l:Int) (b:Int),c.Span_From<c.Span_To→0≤c.Columns∧c.Columns≤2→zw2 c.Span_To xs b→Cov c.Span_From (zgv c h l xs) b
 | [],c,h,l,b,h1,h2,h3=>⟨rfl,h1,h2,h3⟩
 | x::xs,c,h,l,b,h1,h2,h3=>by
  obtain ⟨g1,g2,g3⟩:=h3
  rw [← g1] at g3
  have hc:=zpn x
  rw [zfE]
  split
  ·exact zje xs ⟨c.Span_From,x.At+x.Width,c.Columns⟩ h x.Rune b (by show c.Span_From<x.At+x.Width; omega) h2 g3
  split
  ·exact zje xs ⟨c.Span_From,x.At+x.Width,max c.Columns (zfV x)⟩ h x.Rune b (by show c.Span_From<x.At+x.Width; omega) ⟨by show 0≤max c.Columns (zfV x); omega,by show max c.Columns (zfV x)≤2; omega⟩ g3
  ·refine ⟨rfl,h1,h2,?_⟩
   have:=zje xs ⟨x.At,x.At+x.Width,zfV x⟩ (kdP x) x.Rune b (by show x.At<x.At+x.Width; omega) hc g3
   rw [← g1]; exact this
theorem zqC {xs:List Gapi_Piece} {a b:Int} (h:zw2 a xs b):Cov a (zdk xs) b:=by
 cases xs with
 | nil=>exact h
 | cons x xs =>
  obtain ⟨g1,g2,g3⟩:=h
  rw [← g1] at g3 ⊢
  exact zje xs ⟨x.At,x.At+x.Width,zfV x⟩ (kdP x) x.Rune b (by show x.At<x.At+x.Width; omega) (zpn x) g3
theorem zob:∀ (ts:List Tok) (i:Nat),(∀ t∈ts,t.valid∨t.broken=true)→zw2 (i:Int) ((place i ts).map pcG) ((i+(zcG ts).length:Nat):Int)
 | [],i,_=>rfl
 | t::ts,i,h=>by
  have hb:=List.length_pos_iff.2 (zto (h t (List.mem_cons_self ..)))
  have ih:=zob ts (i+t.bs.length) fun u hu=>h u (List.mem_cons_of_mem _ hu)
  refine ⟨rfl,?_,?_⟩
  ·show 0<(t.bs.length:Int); omega
  ·show zw2 ((i:Int)+(t.bs.length:Int)) _ _
   rw [show (i:Int)+(t.bs.length:Int)=((i+t.bs.length:Nat):Int) by omega,zfk,List.length_append,← Nat.add_assoc]
   exact ih
theorem zeJ (s:ByteArray):Cov 0 (zah s) (s.size:Int):=by
 unfold zah
 refine zqC ?_
 have h:=zob (zht s.data.toList) 0 (zqY _)
 rw [zhB,Nat.zero_add,ze5] at h
 rw [show pcs s.data.toList=place 0 (zht s.data.toList) from zkO _ 0]
 exact h
theorem zge (s:ByteArray):(zah s).length≤s.size:=by
 have hc:=zeJ s
 have key:∀ (cs:List Gapi_Cell) (a b:Int),Cov a cs b→a+cs.length≤b:=by
  intro cs
  induction cs with
  | nil=>intro a b h; have:a=b:=h; simp; omega
  | cons c cs ih =>
   intro a b h
   obtain ⟨h1,h2,_,h3⟩:=h
   have:=ih _ _ h3
   rw [List.length_cons]; push_cast; omega
 have:=key _ _ _ hc
 omega
end Go.Proofs.YtbempdelckaccaaGreatDoor

namespace Go.Proofs.YtbempdelckaccaaGreatDoor
open Go.RowKit Go.Lib
set_option linter.unusedVariables false
set_option linter.unusedSimpArgs false
def zga (l1:Gapi_Layout):Option Bool :=
zax (decide ((8:Int)≤l1.Width)) (
zax (decide ((l1.Width:Int)≤256)) (
zax (decide ((4:Int)≤l1.Height)) (
zax (decide ((l1.Height:Int)≤200)) (
zax (decide ((0:Int)≤l1.Turn)) (
zax (decide ((l1.Turn:Int)≤7)) (
zax (decide ((0:Int)≤l1.Every)) (
some (decide ((l1.Every:Int)≤512))
) (
some false
)
) (
some false
)
) (
some false
)
) (
some false
)
) (
some false
)
) (
some false
)
) (
some false
)
theorem zkP {l1:Gapi_Layout} {r:Bool} (h:zga l1=some r):FnP Tryz.prog 64 [.agg (zr0 l1).toArray] (.bool r):=by
 unfold zga at h
 refine FnP.intro Tryz.func64 rfl Tryz.ntmps64 (by simp) ?_
 intro w0 K
 refine zyG ?_
 refine zdW rfl dc rfl (fun b1 => ?_)
 refine zyR 1 rfl (zyH (zab zfl rfl dc rfl (show _=0 from rfl) (zaq (k:=0) zbp rfl dc rfl rfl rfl (zaU rfl ze3 (zyR 1 rfl ?_)))))
 refine zyS (s:=6) rfl h (fun h => ?_) (fun h => ?_)
 ·
  refine zab zfl rfl dc rfl (show _=0 from rfl) (zaq (k:=0) zbp rfl dc rfl rfl rfl (zaU rfl zdF (zyR 2 rfl ?_)))
  refine zyS (s:=11) rfl h (fun h => ?_) (fun h => ?_)
  ·
   refine zab zjz rfl dc rfl (show _=1 from rfl) (zaq (k:=0) zbp rfl dc rfl rfl rfl (zaU rfl ze3 (zyR 2 rfl ?_)))
   refine zyS (s:=16) rfl h (fun h => ?_) (fun h => ?_)
   ·
    refine zab zjz rfl dc rfl (show _=1 from rfl) (zaq (k:=0) zbp rfl dc rfl rfl rfl (zaU rfl zdF (zyR 2 rfl ?_)))
    refine zyS (s:=21) rfl h (fun h => ?_) (fun h => ?_)
    ·
     refine zab zg3 rfl dc rfl (show _=2 from rfl) (zaq (k:=0) zbp rfl dc rfl rfl rfl (zaU rfl ze3 (zyR 2 rfl ?_)))
     refine zyS (s:=26) rfl h (fun h => ?_) (fun h => ?_)
     ·
      refine zab zg3 rfl dc rfl (show _=2 from rfl) (zaq (k:=0) zbp rfl dc rfl rfl rfl (zaU rfl zdF (zyR 2 rfl ?_)))
      refine zyS (s:=31) rfl h (fun h => ?_) (fun h => ?_)
      ·
       refine zab zg2 rfl dc rfl (show _=3 from rfl) (zaq (k:=0) zbp rfl dc rfl rfl rfl (zaU rfl ze3 (zyR 2 rfl ?_)))
       refine zyS (s:=36) rfl h (fun h => ?_) (fun h => ?_)
       ·
        refine zab zg2 rfl dc rfl (show _=3 from rfl) (zaq (k:=0) zbp rfl dc rfl rfl rfl (zaU rfl zdF (zyR 2 rfl (zyN (zaH ?_)))))
        cases h
        exact zaN (rs:=[.tmp 2]) () (.inl rfl) Tryz.results64 (.cons (.tmp rfl) .nil) rfl Splits.nil
       refine zyR 5 rfl (zyN (zaH ?_))
       cases h
       exact zaN (rs:=[.tmp 2]) () (.inl rfl) Tryz.results64 (.cons (.tmp rfl) .nil) rfl Splits.nil
      refine zyR 10 rfl (zyN (zaH ?_))
      cases h
      exact zaN (rs:=[.tmp 2]) () (.inl rfl) Tryz.results64 (.cons (.tmp rfl) .nil) rfl Splits.nil
     refine zyR 14 rfl ?_
     refine zyR 1 rfl (zyN (zaH ?_))
     cases h
     exact zaN (rs:=[.tmp 2]) () (.inl rfl) Tryz.results64 (.cons (.tmp rfl) .nil) rfl Splits.nil
    refine zyR 14 rfl ?_
    refine zyR 6 rfl (zyN (zaH ?_))
    cases h
    exact zaN (rs:=[.tmp 2]) () (.inl rfl) Tryz.results64 (.cons (.tmp rfl) .nil) rfl Splits.nil
   refine zyR 14 rfl ?_
   refine zyR 11 rfl (zyN (zaH ?_))
   cases h
   exact zaN (rs:=[.tmp 2]) () (.inl rfl) Tryz.results64 (.cons (.tmp rfl) .nil) rfl Splits.nil
  refine zyR 14 rfl ?_
  refine zyR 14 rfl ?_
  refine zyR 2 rfl (zyN (zaH ?_))
  cases h
  exact zaN (rs:=[.tmp 2]) () (.inl rfl) Tryz.results64 (.cons (.tmp rfl) .nil) rfl Splits.nil
 refine zyR 14 rfl ?_
 refine zyR 14 rfl ?_
 refine zyR 7 rfl (zyN (zaH ?_))
 cases h
 exact zaN (rs:=[.tmp 2]) () (.inl rfl) Tryz.results64 (.cons (.tmp rfl) .nil) rfl Splits.nil
def zb5 (t1:Gpage_turner) (k1:Int):Option Bool :=
zak (zbF t1.cells k1) fun (q1:Gapi_Cell) =>
grd (I64 (q1.Span_From+1)) <|
zax ((q1.Span_To:Int)==(q1.Span_From+1)) (
zak (ziT t1.s q1.Span_From) fun (c1:Int) =>
some ((c1:Int)==32)
) (
some false
)
theorem zeM {bt1:Nat} {t1:Gpage_turner} {t1_h0 t1_h1 t1_h2:Hd} {k1:Int} {r:Bool} (h:zb5 t1 k1=some r):FnR Tryz.prog 121 [zP bt1,zI k1] [cells bt1 [.string t1.s,t1_h0.v,t1_h1.v,t1_h2.v,zI t1.first,zI t1.rest] 203,zv1 t1_h0.v t1.cells,zv0 t1_h1.v t1.wide,zv0 t1_h2.v t1.ends] [] (fun _:Unit=>(.bool r)) (fun _=>[]):=by
 unfold zb5 at h
 refine FnR.intro Tryz.func121 rfl Tryz.ntmps121 (by simp) ?_
 intro w0 K hrd
 refine zyG (zyR 1 rfl (zyH (zyR 1 rfl (zaA rfl dc rfl (zab zg4 rfl dc rfl (show _=1 from rfl) (zbr (i:=0) hrd rfl zqi rfl dc rfl rfl (zyR 1 rfl ?_)))))))
 obtain ⟨q1,hq1,h⟩:=zbj h
 refine zbe (hrd.vw (i:=1) rfl) hq1 Tryz.underlying94 zgV rfl dc rfl rfl rfl (zab zfD rfl dc rfl (show _=(0+(k1:Int).toNat)*3 from rfl) (zeK (m:=0+(k1:Int).toNat) (j:=0) (i:=1) (q:=q1) (cs:=[zI q1.Span_From,zI q1.Span_To]) hrd rfl znY zbu rfl dc rfl (Vw.get (hrd.vw (i:=1) rfl) hq1) rfl rfl rfl ?_))
 refine zbk zqN rfl dc (fun b1 => ?_)
 refine zaZ (k:=0) (vs:=[zI q1.Span_From,zI q1.Span_To]) (l':=[zI q1.Span_From,zI q1.Span_To]) zkB rfl rfl rfl rfl rfl (show _≤_ by simp) rfl rfl ?_
 refine zyN (zaK ?_)
 obtain ⟨hg1,h⟩:=zbl h
 refine zeL (b:=(q1.Span_To:Int)==(q1.Span_From+1)) (fun hb1 => ?_) (fun hb1 => ?_)
 ·
  have h:=zhm hb1 h
  obtain ⟨c1,hq2,h⟩:=zbj h
  refine zbG 13 [(0,14,.pointer (some ⟨b1,1,none⟩)),(1,15,zI q1.Span_To),(2,16,zP b1),(3,17,zI q1.Span_From),(4,18,zI (q1.Span_From+1)),(5,19,.bool true),(6,20,.bool true),(7,21,zP bt1),(8,22,zP bt1),(9,23,zP bt1),(10,24,.string t1.s),(11,25,zP b1),(12,26,zI q1.Span_From)] mixed kr kr dc (by rfl) kr kr (zae ?_ (zae ?_ (zae ?_ (zae ?_ (zae ?_ (zae ?_ (zyP 2 6 rfl (zae ?_ (zae ?_ (zae ?_ (zae ?_ (zae ?_ DrawPre.nil)))))))))))) ?_
  · exact fun D n d c u i=>zab zdU rfl dc (zba (by rfl) rfl) (show _=1 from rfl) (zaf 0 u i rfl)
  · exact fun D n d c u i=>zaq (k:=0) zbp rfl dc (zaa (m:=0) u rfl (d 0 dc)) rfl rfl (zaf 1 u i rfl)
  · exact fun D n d c u i=>zab zdm rfl dc (zba (by rfl) rfl) (show _=0 from rfl) (zaf 2 u i rfl)
  · exact fun D n d c u i=>zaq (k:=0) zbp rfl dc (zaa (m:=2) u rfl (d 2 dc)) rfl rfl (zaf 3 u i rfl)
  · exact fun D n d c u i=>zbR rfl dc (zaa (m:=3) u rfl (d 3 dc)) rfl (zaP (r:=q1.Span_From+1) (IntWalk.i64_in _ hg1)) (zaf 4 u i rfl)
  · exact fun D n d c u i=>zbR rfl dc (zaa (m:=1) u rfl (d 1 dc)) (zaa (m:=4) u rfl (d 4 dc)) zaV (zeb (show Value.bool ((q1.Span_To:Int)==(q1.Span_From+1))=Value.bool true from congrArg Value.bool hb1) (zaf 5 u i rfl))
  · exact fun D n d c u i=>zaA (zft rfl (zaa (m:=6) u rfl (d 6 dc))) dc (zaa (m:=7) u rfl (d 7 dc)) (zaf 8 u i rfl)
  · exact fun D n d c u i=>zab zpX (zft rfl (zaa (m:=6) u rfl (d 6 dc))) dc (zaa (m:=8) u rfl (d 8 dc)) (show _=0 from rfl) (zaf 9 u i rfl)
  · exact fun D n d c u i=>zbr (i:=0) hrd rfl zoQ (zft rfl (zaa (m:=6) u rfl (d 6 dc))) dc (zaa (m:=9) u rfl (d 9 dc)) rfl (zaf 10 u i rfl)
  · exact fun D n d c u i=>zab zdm (zft rfl (zaa (m:=6) u rfl (d 6 dc))) dc (zba (by rfl) rfl) (show _=0 from rfl) (zaf 11 u i rfl)
  · exact fun D n d c u i=>zaq (k:=0) zbp (zft rfl (zaa (m:=6) u rfl (d 6 dc))) dc (zaa (m:=11) u rfl (d 11 dc)) rfl rfl (zaf 12 u i rfl)
  refine zcN rfl dc rfl rfl (zbm Tryz.underlying9 hq2) (zaU rfl zaV (zyR 2 rfl (zyN (zaH ?_))))
  cases h
  exact zaN (rs:=[.tmp 4]) () (.inl rfl) Tryz.results121 (.cons (.tmp rfl) .nil) rfl Splits.nil
 have h:=zhn hb1 h
 refine zbG 13 [(0,14,.pointer (some ⟨b1,1,none⟩)),(1,15,zI q1.Span_To),(2,16,zP b1),(3,17,zI q1.Span_From),(4,18,zI (q1.Span_From+1)),(5,19,.bool false),(6,20,.bool false),(7,21,undef),(8,22,undef),(9,23,undef),(10,24,undef),(11,25,undef),(12,26,undef)] mixed kr kr dc (by rfl) kr kr (zae ?_ (zae ?_ (zae ?_ (zae ?_ (zae ?_ (zae ?_ (zyP 7 6 rfl DrawPre.nil))))))) ?_
 · exact fun D n d c u i=>zab zdU rfl dc (zba (by rfl) rfl) (show _=1 from rfl) (zaf 0 u i rfl)
 · exact fun D n d c u i=>zaq (k:=0) zbp rfl dc (zaa (m:=0) u rfl (d 0 dc)) rfl rfl (zaf 1 u i rfl)
 · exact fun D n d c u i=>zab zdm rfl dc (zba (by rfl) rfl) (show _=0 from rfl) (zaf 2 u i rfl)
 · exact fun D n d c u i=>zaq (k:=0) zbp rfl dc (zaa (m:=2) u rfl (d 2 dc)) rfl rfl (zaf 3 u i rfl)
 · exact fun D n d c u i=>zbR rfl dc (zaa (m:=3) u rfl (d 3 dc)) rfl (zaP (r:=q1.Span_From+1) (IntWalk.i64_in _ hg1)) (zaf 4 u i rfl)
 · exact fun D n d c u i=>zbR rfl dc (zaa (m:=1) u rfl (d 1 dc)) (zaa (m:=4) u rfl (d 4 dc)) zaV (zeb (show Value.bool ((q1.Span_To:Int)==(q1.Span_From+1))=Value.bool false from congrArg Value.bool hb1) (zaf 5 u i rfl))
 refine zyR 4 rfl (zyN (zaH ?_))
 cases h
 exact zaN (rs:=[.tmp 4]) () (.inl rfl) Tryz.results121 (.cons (.tmp rfl) .nil) rfl Splits.nil
def zbZ (t1:Gpage_turner) (from1:Int) (to1:Int):Option Int :=
zak (zbF t1.ends to1) fun (q1:Int) =>
zak (zbF t1.wide (max from1 q1)) fun (q2:Int) =>
zak (zbF t1.wide from1) fun (q3:Int) =>
grd (I64 (q2 - q3)) <|
some (q2 - q3)
theorem zeo {bt1:Nat} {t1:Gpage_turner} {t1_h0 t1_h1 t1_h2:Hd} {from1:Int} {to1:Int} {r:Int} (h:zbZ t1 from1 to1=some r):FnR Tryz.prog 123 [zP bt1,zI from1,zI to1] [cells bt1 [.string t1.s,t1_h0.v,t1_h1.v,t1_h2.v,zI t1.first,zI t1.rest] 203,zv1 t1_h0.v t1.cells,zv0 t1_h1.v t1.wide,zv0 t1_h2.v t1.ends] [] (fun _:Unit=>(zI r)) (fun _=>[]):=by
 unfold zbZ at h
 refine FnR.intro Tryz.func123 rfl Tryz.ntmps123 (by simp) ?_
 intro w0 K hrd
 refine zyG (zyR 1 rfl (zyH (zyR 2 rfl (zaA rfl dc rfl (zab ziX rfl dc rfl (show _=3 from rfl) (zbr (i:=0) hrd rfl zhi rfl dc rfl rfl (zyR 1 rfl ?_)))))))
 obtain ⟨q1,hq1,h⟩:=zbj h
 refine zbe (hrd.vw (i:=3) rfl) hq1 Tryz.underlying49 zdb rfl dc rfl rfl rfl (zcB (n:=0+(to1:Int).toNat) (j:=0) (i:=3) (q:=q1) hrd rfl zbp za6 rfl dc rfl (Vw.get (hrd.vw (i:=3) rfl) hq1) rfl dc rfl (zll rfl dc rfl rfl (zyR 1 rfl (zyN (zaK ?_)))))
 obtain ⟨q2,hq2,h⟩:=zbj h
 obtain ⟨q3,hq3,h⟩:=zbj h
 obtain ⟨hg1,h⟩:=zbl h
 refine zbG 14 [(0,16,zP bt1),(1,17,zP bt1),(2,18,.pointer (some ⟨bt1,2,none⟩)),(3,19,t1_h1.v),(4,20,zI (max from1 q1)),(5,21,.pointer (some ⟨zco t1_h1.v,(0+(max from1 q1:Int).toNat)*1,none⟩)),(6,22,zI q2),(7,23,zP bt1),(8,24,zP bt1),(9,25,.pointer (some ⟨bt1,2,none⟩)),(10,26,t1_h1.v),(11,27,zI from1),(12,28,.pointer (some ⟨zco t1_h1.v,(0+(from1:Int).toNat)*1,none⟩)),(13,29,zI q3)] mixed kr kr dc (by rfl) kr kr (zyP 1 0 rfl (zae ?_ (zae ?_ (zae ?_ (zyP 1 4 rfl (zae ?_ (zae ?_ (zyP 1 7 rfl (zae ?_ (zae ?_ (zae ?_ (zyP 1 11 rfl (zae ?_ (zae ?_ DrawPre.nil)))))))))))))) ?_
 · exact fun D n d c u i=>zaA rfl dc (zaa (m:=0) u rfl (d 0 dc)) (zaf 1 u i rfl)
 · exact fun D n d c u i=>zab ziY rfl dc (zaa (m:=1) u rfl (d 1 dc)) (show _=2 from rfl) (zaf 2 u i rfl)
 · exact fun D n d c u i=>zbr (i:=0) hrd rfl zhi rfl dc (zaa (m:=2) u rfl (d 2 dc)) rfl (zaf 3 u i rfl)
 · exact fun D n d c u i=>zbe (hrd.vw (i:=2) rfl) hq2 Tryz.underlying49 zdb rfl dc (zaa (m:=3) u rfl (d 3 dc)) (zaa (m:=4) u rfl (d 4 dc)) rfl (zaf 5 u i rfl)
 · exact fun D n d c u i=>zcB (n:=0+(max from1 q1:Int).toNat) (j:=0) (i:=2) (q:=q2) hrd rfl zbp za6 rfl dc (zaa (m:=5) u rfl (d 5 dc)) (Vw.get (hrd.vw (i:=2) rfl) hq2) rfl dc rfl (zaf 6 u i rfl)
 · exact fun D n d c u i=>zaA rfl dc (zaa (m:=7) u rfl (d 7 dc)) (zaf 8 u i rfl)
 · exact fun D n d c u i=>zab ziY rfl dc (zaa (m:=8) u rfl (d 8 dc)) (show _=2 from rfl) (zaf 9 u i rfl)
 · exact fun D n d c u i=>zbr (i:=0) hrd rfl zhi rfl dc (zaa (m:=9) u rfl (d 9 dc)) rfl (zaf 10 u i rfl)
 · exact fun D n d c u i=>zbe (hrd.vw (i:=2) rfl) hq3 Tryz.underlying49 zdb rfl dc (zaa (m:=10) u rfl (d 10 dc)) (zaa (m:=11) u rfl (d 11 dc)) rfl (zaf 12 u i rfl)
 · exact fun D n d c u i=>zcB (n:=0+(from1:Int).toNat) (j:=0) (i:=2) (q:=q3) hrd rfl zbp za6 rfl dc (zaa (m:=12) u rfl (d 12 dc)) (Vw.get (hrd.vw (i:=2) rfl) hq3) rfl dc rfl (zaf 13 u i rfl)
 refine zaU rfl (zbi (r:=q2 - q3) (IntWalk.i64_in _ hg1)) (zyR 1 rfl (zyN (zaH ?_)))
 cases h
 exact zaN (rs:=[.tmp 6]) () (.inl rfl) Tryz.results123 (.cons (.tmp rfl) .nil) rfl Splits.nil
def zcm (t1:Gpage_turner) (from1:Int):Option Int :=
zax ((from1:Int)==0) (
some t1.first
) (
some t1.rest
)
theorem ze1 {bt1:Nat} {t1:Gpage_turner} {t1_h0 t1_h1 t1_h2:Hd} {from1:Int} {r:Int} (h:zcm t1 from1=some r):FnR Tryz.prog 124 [zP bt1,zI from1] [cells bt1 [.string t1.s,t1_h0.v,t1_h1.v,t1_h2.v,zI t1.first,zI t1.rest] 203,zv1 t1_h0.v t1.cells,zv0 t1_h1.v t1.wide,zv0 t1_h2.v t1.ends] [] (fun _:Unit=>(zI r)) (fun _=>[]):=by
 unfold zcm at h
 refine FnR.intro Tryz.func124 rfl Tryz.ntmps124 (by simp) ?_
 intro w0 K hrd
 refine zyG (zyR 1 rfl (zyN (zaK (zyG (zyR 1 rfl (zaU rfl zaV (zyN ?_)))))))
 refine zyB rfl h (fun h => ?_) (fun h => ?_)
 ·
  refine zyG (zyR 1 rfl (zaA rfl dc rfl (zab zte rfl dc rfl (show _=4 from rfl) (zbr (i:=0) hrd rfl zbp rfl dc rfl rfl (zyR 1 rfl (zyN (zaH (zav ?_))))))))
  cases h
  exact zaN (rs:=[.tmp 4]) () (.inl rfl) Tryz.results124 (.cons (.tmp rfl) .nil) rfl Splits.nil
 refine zat (zaL (zyG (zyR 1 rfl (zaA rfl dc rfl (zab ztd rfl dc rfl (show _=5 from rfl) (zbr (i:=0) hrd rfl zbp rfl dc rfl rfl (zyR 1 rfl (zyN (zaH ?_)))))))))
 cases h
 exact zaN (rs:=[.tmp 4]) () (.inl rfl) Tryz.results124 (.cons (.tmp rfl) .nil) rfl Splits.nil
def zd0 (t1:Gpage_turner) (from1:Int) (to1:Int):Option Bool :=
zbd (fun (j1:Option Bool) =>
zax (decide ((0:Int)<from1)) (
zak (zb5 t1 from1) fun (r1:Bool) =>
zax (r1) (
some false
) (
j1
)
) (
j1
)
) (
zak (zbZ t1 from1 to1) fun (r2:Int) =>
zak (zcm t1 from1) fun (r3:Int) =>
zax (decide ((r2:Int)≤r3)) (
some true
) (
zak (zbF t1.ends to1) fun (q1:Int) =>
grd (I64 (from1+1)) <|
some (decide ((q1:Int)≤(from1+1)))
)
)
theorem ziL {bt1:Nat} {t1:Gpage_turner} {t1_h0 t1_h1 t1_h2:Hd} {from1:Int} {to1:Int} {r:Bool} (h:zd0 t1 from1 to1=some r):FnR Tryz.prog 122 [zP bt1,zI from1,zI to1] [cells bt1 [.string t1.s,t1_h0.v,t1_h1.v,t1_h2.v,zI t1.first,zI t1.rest] 203,zv1 t1_h0.v t1.cells,zv0 t1_h1.v t1.wide,zv0 t1_h2.v t1.ends] [] (fun _:Unit=>(.bool r)) (fun _=>[]):=by
 unfold zd0 at h
 refine FnR.intro Tryz.func122 rfl Tryz.ntmps122 (by simp) ?_
 intro w0 K hrd
 obtain ⟨j1,hj1,h⟩:=zbC h
 refine zaX (β:=Unit) 1 rfl (fun b=>j1=some r) (fun b=>[]) (fun b=>[(0,zP bt1),(1,zI from1),(2,zI to1)]) (fun b=>[]) (fun cut => ?_) ?_
 ·
  refine zyG (zyR 1 rfl (zyN (cut (zyG (zyR 1 rfl (zaU rfl zcl (zyR 1 rfl ?_)))))))
  refine zyS (s:=9) rfl h (fun h => ?_) (fun h => ?_)
  ·
   refine zyR 2 rfl ?_
   obtain ⟨r1,hq1,h⟩:=zbj h
   refine zcL (v:=.bool r1) (vs:=[zP bt1,zI from1]) hrd rfl dc rfl rfl rfl zr9 (zeM (bt1:=bt1) (t1:=t1) (t1_h0:=t1_h0) (t1_h1:=t1_h1) (t1_h2:=t1_h2) hq1) (.ro 0 rfl (.ro 1 rfl (.ro 2 rfl (.ro 3 rfl .nil)))) (zyR 1 rfl (zyN ?_))
   refine zyB rfl h (fun h => ?_) (fun h => ?_)
   ·
    refine zyG (zyR 1 rfl (zyN (zaH (zav ?_))))
    cases h
    exact zaN (rs:=[.tmp 6]) () (.inl rfl) Tryz.results122 (.cons (.tmp rfl) .nil) rfl Splits.nil
   refine zat ?_
   exact zam () h rfl (za1 rfl) Splits.nil
  refine zyR 4 rfl (zyN (zaQ rfl (zat ?_)))
  exact zam () h rfl (za1 rfl) Splits.nil
 rintro _ h
 rw [hj1] at h
 refine zyG (zyR 3 rfl ?_)
 obtain ⟨r2,hq2,h⟩:=zbj h
 refine zcL (v:=zI r2) (vs:=[zP bt1,zI from1,zI to1]) hrd rfl dc rfl rfl rfl zr8 (zeo (bt1:=bt1) (t1:=t1) (t1_h0:=t1_h0) (t1_h1:=t1_h1) (t1_h2:=t1_h2) hq2) (.ro 0 rfl (.ro 1 rfl (.ro 2 rfl (.ro 3 rfl .nil)))) (zyR 2 rfl ?_)
 obtain ⟨r3,hq3,h⟩:=zbj h
 refine zcL (v:=zI r3) (vs:=[zP bt1,zI from1]) hrd rfl dc rfl rfl rfl zrZ (ze1 (bt1:=bt1) (t1:=t1) (t1_h0:=t1_h0) (t1_h1:=t1_h1) (t1_h2:=t1_h2) hq3) (.ro 0 rfl (.ro 1 rfl (.ro 2 rfl (.ro 3 rfl .nil)))) (zaU rfl zdF (zyR 1 rfl ?_))
 refine zyS (s:=22) rfl h (fun h => ?_) (fun h => ?_)
 ·
  refine zyR 12 rfl (zyN ?_)
  refine zaH ?_
  cases h
  exact zaN (rs:=[.tmp 6]) () (.inl rfl) Tryz.results122 (.cons (.tmp rfl) .nil) rfl Splits.nil
 refine zyR 1 rfl (zaA rfl dc rfl (zab ziX rfl dc rfl (show _=3 from rfl) (zbr (i:=0) hrd rfl zhi rfl dc rfl rfl (zyR 1 rfl ?_))))
 obtain ⟨q1,hq4,h⟩:=zbj h
 refine zbe (hrd.vw (i:=3) rfl) hq4 Tryz.underlying49 zdb rfl dc rfl rfl rfl (zcB (n:=0+(to1:Int).toNat) (j:=0) (i:=3) (q:=q1) hrd rfl zbp za6 rfl dc rfl (Vw.get (hrd.vw (i:=3) rfl) hq4) rfl dc rfl (zyR 1 rfl ?_))
 obtain ⟨hg1,h⟩:=zbl h
 refine zaU rfl (zaP (r:=from1+1) (IntWalk.i64_in _ hg1)) (zaU rfl zdF (zyR 2 rfl (zyN (zaH ?_))))
 cases h
 exact zaN (rs:=[.tmp 6]) () (.inl rfl) Tryz.results122 (.cons (.tmp rfl) .nil) rfl Splits.nil
def zdM (t1:Gpage_turner) (from1:Int) (to1:Int):Option Int :=
zbd (fun (j1:Int→Option Int) =>
zak (zcm t1 from1) fun (r1:Int) =>
zak (zbZ t1 from1 to1) fun (r2:Int) =>
grd (I64 (r1 - r2)) <|
zax (decide ((0:Int)<(r1 - r2))) (
grd (I64 ((r1 - r2)*(r1 - r2))) <|
j1 ((r1 - r2)*(r1 - r2))
) (
j1 0
)
) (fun (n1:Int) =>
zbd (fun (j2:Int→Option Int) =>
grd (I64 (to1 - 1)) <|
zak (zb5 t1 (to1 - 1)) fun (r3:Bool) =>
zax (!r3) (
grd (I64 (n1+1000)) <|
j2 (n1+1000)
) (
j2 n1
)
) (fun (n2:Int) =>
some n2
)
)
theorem zil {bt1:Nat} {t1:Gpage_turner} {t1_h0 t1_h1 t1_h2:Hd} {from1:Int} {to1:Int} {r:Int} (h:zdM t1 from1 to1=some r):FnR Tryz.prog 125 [zP bt1,zI from1,zI to1] [cells bt1 [.string t1.s,t1_h0.v,t1_h1.v,t1_h2.v,zI t1.first,zI t1.rest] 203,zv1 t1_h0.v t1.cells,zv0 t1_h1.v t1.wide,zv0 t1_h2.v t1.ends] [] (fun _:Unit=>(zI r)) (fun _=>[]):=by
 unfold zdM at h
 refine FnR.intro Tryz.func125 rfl Tryz.ntmps125 (by simp) ?_
 intro w0 K hrd
 obtain ⟨j1,hj1,h⟩:=zbC h
 refine zaX (β:=Int) 2 rfl (fun b=>j1 b=some r) (fun b=>[]) (fun b=>[(0,zP bt1),(2,zI to1),(7,zI b)]) (fun b=>[]) (fun cut => ?_) ?_
 ·
  refine zyG (zyR 1 rfl (zyH (zyR 1 rfl (zyN (cut (zyG (zyR 1 rfl ?_)))))))
  refine zyR 1 rfl ?_
  obtain ⟨r1,hq1,h⟩:=zbj h
  refine zcL (v:=zI r1) (vs:=[zP bt1,zI from1]) hrd rfl dc rfl rfl rfl zrZ (ze1 (bt1:=bt1) (t1:=t1) (t1_h0:=t1_h0) (t1_h1:=t1_h1) (t1_h2:=t1_h2) hq1) (.ro 0 rfl (.ro 1 rfl (.ro 2 rfl (.ro 3 rfl .nil)))) (zyR 3 rfl ?_)
  obtain ⟨r2,hq2,h⟩:=zbj h
  refine zcL (v:=zI r2) (vs:=[zP bt1,zI from1,zI to1]) hrd rfl dc rfl rfl rfl zr8 (zeo (bt1:=bt1) (t1:=t1) (t1_h0:=t1_h0) (t1_h1:=t1_h1) (t1_h2:=t1_h2) hq2) (.ro 0 rfl (.ro 1 rfl (.ro 2 rfl (.ro 3 rfl .nil)))) ?_
  obtain ⟨hg1,h⟩:=zbl h
  refine zaU rfl (zbi (r:=r1 - r2) (IntWalk.i64_in _ hg1)) (zyR 1 rfl (zyH (zyR 1 rfl (zaU rfl zcl (zyN ?_)))))
  refine zyB rfl h (fun h => ?_) (fun h => ?_)
  ·
   refine zaw (zyR 2 rfl ?_)
   obtain ⟨hg2,h⟩:=zbl h
   refine zaU rfl (zpo (r:=(r1 - r2)*(r1 - r2)) (IntWalk.i64_in _ hg2)) (zyR 1 rfl (zaO ?_))
   exact zam ((r1 - r2)*(r1 - r2)) h rfl (za1 rfl) Splits.nil
  refine zat ?_
  exact zam 0 h rfl (za1 rfl) Splits.nil
 rintro n1 h
 rw [hj1] at h
 obtain ⟨j2,hj2,h⟩:=zbC h
 refine zaX (β:=Int) 0 rfl (fun b=>j2 b=some r) (fun b=>[]) (fun b=>[(7,zI b)]) (fun b=>[]) (fun cut => ?_) ?_
 ·
  refine cut (zyG (zyR 2 rfl ?_))
  obtain ⟨hg3,h⟩:=zbl h
  refine zaU rfl (zbi (r:=to1 - 1) (IntWalk.i64_in _ hg3)) ?_
  obtain ⟨r3,hq3,h⟩:=zbj h
  refine zcL (v:=.bool r3) (vs:=[zP bt1,zI (to1 - 1)]) hrd rfl dc rfl rfl rfl zr9 (zeM (bt1:=bt1) (t1:=t1) (t1_h0:=t1_h0) (t1_h1:=t1_h1) (t1_h2:=t1_h2) hq3) (.ro 0 rfl (.ro 1 rfl (.ro 2 rfl (.ro 3 rfl .nil)))) (zd6 rfl dc rfl zcv (zyN ?_))
  refine zyB rfl h (fun h => ?_) (fun h => ?_)
  ·
   refine zaw (zyR 1 rfl ?_)
   obtain ⟨hg4,h⟩:=zbl h
   refine zaU rfl (zaP (r:=n1+1000) (IntWalk.i64_in _ hg4)) (zyR 1 rfl (zaO ?_))
   exact zam (n1+1000) h rfl (za1 rfl) Splits.nil
  refine zat ?_
  exact zam n1 h rfl (za1 rfl) Splits.nil
 rintro n2 h
 rw [hj2] at h
 refine zyG (zyR 2 rfl (zyN (zaH ?_)))
 cases h
 exact zaN (rs:=[.tmp 6]) () (.inl rfl) Tryz.results125 (.cons (.tmp rfl) .nil) rfl Splits.nil
def zbT (t1:Gpage_turner) (from3:Int) (j2:(List Gpage_best)→Option ((List Int)×Int)) (ag2:(List Gpage_best)→Int→Option ((List Int)×Int)) (all8:List Gpage_best) (to3:Int):Option ((List Int)×Int) :=
zax (decide ((to3:Int)≤(t1.cells.length:Int))) (
zbd (fun (j3:(List Gpage_best)→Option ((List Int)×Int)) =>
zak (zd0 t1 from3 to3) fun (r1:Bool) =>
zax (!r1) (
zak (zbZ t1 from3 to3) fun (r2:Int) =>
zak (zcm t1 from3) fun (r3:Int) =>
zax (decide ((r3:Int)<r2)) (
j2 all8
) (
j3 all8
)
) (
zbd (fun (j4:Int→Int→Option ((List Int)×Int)) =>
zax (decide ((to3:Int)<(t1.cells.length:Int))) (
zak (zbF all8 to3) fun (q2:Gpage_best) =>
zax (decide ((q2.rows:Int)<0)) (
j3 all8
) (
zak (zdM t1 from3 to3) fun (r4:Int) =>
zak (zbF all8 to3) fun (q3:Gpage_best) =>
grd (I64 (r4+q3.cost)) <|
grd (I64 (q3.rows+1)) <|
j4 (r4+q3.cost) (q3.rows+1)
)
) (
j4 0 1
)
) (fun (b2:Int) (b3:Int) =>
zak (zbF all8 from3) fun (q4:Gpage_best) =>
zax (decide ((q4.rows:Int)<0)) (
zak (zbF all8 from3) fun (q5:Gpage_best) =>
j3 (all8.set (from3:Int).toNat (⟨b2,b3,to3⟩:Gpage_best))
) (
zax (decide ((b2:Int)<q4.cost)) (
zak (zbF all8 from3) fun (q6:Gpage_best) =>
j3 (all8.set (from3:Int).toNat (⟨b2,b3,to3⟩:Gpage_best))
) (
zax ((b2:Int)==q4.cost) (
zax (decide ((b3:Int)≤q4.rows)) (
zak (zbF all8 from3) fun (q7:Gpage_best) =>
j3 (all8.set (from3:Int).toNat (⟨b2,b3,to3⟩:Gpage_best))
) (
j3 all8
)
) (
j3 all8
)
)
)
)
)
) (fun (all9:List Gpage_best) =>
grd (I64 (to3+1)) <|
ag2 all9 (to3+1)
)
) (
j2 all8
)
def zbU (t1:Gpage_turner) (j1:(List Gpage_best)→Option ((List Int)×Int)) (ag1:(List Gpage_best)→Int→Option ((List Int)×Int)) (all4:List Gpage_best) (from3:Int):Option ((List Int)×Int) :=
zax (decide ((0:Int)≤from3)) (
zbd (fun (j2:(List Gpage_best)→Option ((List Int)×Int)) =>
zak (zbF all4 from3) fun (q1:Gpage_best) =>
grd (I64 (from3+1)) <|
zaF (fun _ _=>none) (zbT t1 from3 j2) zbV (all4.set (from3:Int).toNat (⟨q1.cost,(-1),q1.to_⟩:Gpage_best)) (from3+1)
) (fun (all5:List Gpage_best) =>
grd (I64 (from3 - 1)) <|
ag1 all5 (from3 - 1)
)
) (
j1 all4
)
def zbI (t1:Gpage_turner) (all1:List Gpage_best) (j5:(List Int)→Option ((List Int)×Int)) (ag3:(List Int)→Int→Option ((List Int)×Int)) (out4:List Int) (from6:Int):Option ((List Int)×Int) :=
zax (decide ((from6:Int)<(t1.cells.length:Int))) (
zak (zbF all1 from6) fun (q8:Gpage_best) =>
grd (out4.length+1≤2147483648) <|
zak (zbF all1 from6) fun (q9:Gpage_best) =>
ag3 (out4++[q8.to_]) q9.to_
) (
j5 out4
)
def zdL (t1:Gpage_turner):Option ((List Int)×Int) :=
zbd (fun (j1:(List Gpage_best)→Option ((List Int)×Int)) =>
grd (I64 ((t1.cells.length:Int)+1)) <|
grd (0≤((t1.cells.length:Int)+1)∧((t1.cells.length:Int)+1)≤2147483648) <|
grd (I64 ((t1.cells.length:Int) - 1)) <|
zaF (fun _ _=>none) (zbU t1 j1) zbV (List.replicate ((t1.cells.length:Int)+1:Int).toNat (⟨0,0,0⟩:Gpage_best):List Gpage_best) ((t1.cells.length:Int) - 1)
) (fun (all1:List Gpage_best) =>
zbd (fun (j5:(List Int)→Option ((List Int)×Int)) =>
zaF (fun _ _=>none) (zbI t1 all1 j5) zbV ([]:List Int) 0
) (fun (out1:List Int) =>
zak (zbF all1 0) fun (q10:Gpage_best) =>
some (out1,q10.cost)
)
)
theorem zik {bt1:Nat} {t1:Gpage_turner} {t1_h0 t1_h1 t1_h2:Hd} {r:((List Int)×Int)} (h:zdL t1=some r):FnR Tryz.prog 96 [zP bt1] [cells bt1 [.string t1.s,t1_h0.v,t1_h1.v,t1_h2.v,zI t1.first,zI t1.rest] 203,zv1 t1_h0.v t1.cells,zv0 t1_h1.v t1.wide,zv0 t1_h2.v t1.ends] [] (fun v0:Value=>.tuple #[v0,zI r.2]) (fun v0=>[zv0 v0 r.1]):=by
 unfold zdL at h
 refine FnR.intro Tryz.func96 rfl Tryz.ntmps96 (by simp) ?_
 intro w0 K hrd
 obtain ⟨j1,hj1,h⟩:=zbC h
 refine zaX (β:=(List Gpage_best)×Value) 3 rfl (fun b=>j1 b.1=some r) (fun b=>[]) (fun b=>[(4,zI (t1.cells.length:Int)),(5,b.2)]) (fun b=>[zv8 b.2 b.1]) (fun cut => ?_) ?_
 ·
  refine zyG (zyR 2 rfl (zyH (zyR 1 rfl (zaA rfl dc rfl (zab zg4 rfl dc rfl (show _=1 from rfl) (zbr (i:=0) hrd rfl zqi rfl dc rfl rfl (zet (hrd.vw (i:=1) rfl) rfl dc rfl Tryz.underlying94 (zyR 1 rfl ?_))))))))
  refine zyH (zyR 1 rfl ?_)
  obtain ⟨hg1,h⟩:=zbl h
  refine zaU rfl (zaP (r:=(t1.cells.length:Int)+1) (IntWalk.i64_in _ hg1)) ?_
  obtain ⟨hg2,h⟩:=zbl h
  refine zgh (z:=(⟨0,0,0⟩:Gpage_best)) Tryz.underlying174 zt4 zlT zaY rfl dc rfl hg2 (fun v2 => ?_)
  refine zyR 1 rfl (zyN (cut (zyG (zyR 1 rfl ?_))))
  obtain ⟨hg3,h⟩:=zbl h
  refine zaU rfl (zbi (r:=(t1.cells.length:Int) - 1) (IntWalk.i64_in _ hg3)) (zyR 1 rfl (zyN (zaD ?_)))
  refine zbn (β:=Nat×(List Gpage_best)×Int) (fun b=>zaF (fun _ _=>none) (zbU t1 j1) b.1 b.2.1 b.2.2=some r) (fun b=>[]) (fun b=>[(0,zP bt1),(4,zI (t1.cells.length:Int)),(5,v2),(6,zI b.2.2)]) (fun b=>[zv8 v2 b.2.1]) (fun b=>b.1) (zbV,(List.replicate ((t1.cells.length:Int)+1:Int).toNat (⟨0,0,0⟩:Gpage_best):List Gpage_best),(t1.cells.length:Int) - 1) h rfl (za1 rfl) (zad [0] kr rfl) ?_
  rintro ⟨n1,all4,from3⟩ h
  cases n1 with
  | zero=>exact zdD h
  | succ n1 =>
   obtain ⟨ag1,hag1⟩:∃ ag,ag=zaF (fun _ _=>none) (zbU t1 j1) n1:=⟨_,rfl⟩
   have h:zbU t1 j1 ag1 all4 from3=some r:=by rw [hag1]; exact h
   unfold zbU at h
   refine zaK (zyG (zyR 1 rfl (zaU rfl ze3 (zyN ?_))))
   refine zyB rfl h (fun h => ?_) (fun h => ?_)
   ·
    refine zat (zaL ?_)
    obtain ⟨j2,hj2,h⟩:=zbC h
    refine zaX (β:=(List Gpage_best)) 0 rfl (fun b=>j2 b=some r) (fun b=>[]) (fun b=>[(0,zP bt1),(4,zI (t1.cells.length:Int)),(5,v2),(6,zI from3)]) (fun b=>[zv8 v2 b]) (fun cut => ?_) ?_
    ·
     refine cut (zaD ?_)
     refine zks (β:=Unit) (l:=0) (fun _=>False) (fun _=>[]) (fun _=>[]) rfl ?_ ?_
     ·
      refine zyG (zyR 2 rfl ?_)
      obtain ⟨q1,hq1,h⟩:=zbj h
      refine zan (k:=0) hq1 Tryz.underlying174 zdi rfl dc rfl rfl rfl rfl (zab zfm rfl dc rfl (show _=((from3:Int).toNat)*3+1 from rfl) ?_)
      refine zcc (i:=(from3:Int).toNat) (j:=1) (k:=0) (q:=q1) (q':=(⟨q1.cost,(-1),q1.to_⟩:Gpage_best)) zdb zaY rfl rfl rfl rfl (zaC hq1) rfl dc rfl (fun _ _=>rfl) ?_
      refine zyN (zaK (zkt (zaL (zyG (zyR 1 rfl ?_)))))
      obtain ⟨hg4,h⟩:=zbl h
      refine zaU rfl (zaP (r:=from3+1) (IntWalk.i64_in _ hg4)) (zyR 1 rfl (zyN (zaD ?_)))
      refine zbn (β:=Nat×(List Gpage_best)×Int) (fun b=>zaF (fun _ _=>none) (zbT t1 from3 j2) b.1 b.2.1 b.2.2=some r) (fun b=>[]) (fun b=>[(0,zP bt1),(4,zI (t1.cells.length:Int)),(5,v2),(6,zI from3),(7,zI b.2.2)]) (fun b=>[zv8 v2 b.2.1]) (fun b=>b.1) (zbV,all4.set (from3:Int).toNat (⟨q1.cost,(-1),q1.to_⟩:Gpage_best),from3+1) h rfl (za1 rfl) (zad [0] kr rfl) ?_
      rintro ⟨n2,all8,to3⟩ h
      cases n2 with
      | zero=>exact zdD h
      | succ n2 =>
       obtain ⟨ag2,hag2⟩:∃ ag,ag=zaF (fun _ _=>none) (zbT t1 from3 j2) n2:=⟨_,rfl⟩
       have h:zbT t1 from3 j2 ag2 all8 to3=some r:=by rw [hag2]; exact h
       unfold zbT at h
       refine zaK (zyG (zyR 2 rfl (zaU rfl zdF (zyN ?_))))
       refine zyB rfl h (fun h => ?_) (fun h => ?_)
       ·
        refine zat (zaL ?_)
        obtain ⟨j3,hj3,h⟩:=zbC h
        refine zaX (β:=(List Gpage_best)) 0 rfl (fun b=>j3 b=some r) (fun b=>[]) (fun b=>[(0,zP bt1),(4,zI (t1.cells.length:Int)),(5,v2),(6,zI from3),(7,zI to3)]) (fun b=>[zv8 v2 b]) (fun cut => ?_) ?_
        ·
         refine cut (zaD (zaK (zyG (zyR 3 rfl ?_))))
         obtain ⟨r1,hq2,h⟩:=zbj h
         refine zcL (v:=.bool r1) (vs:=[zP bt1,zI from3,zI to3]) hrd rfl dc rfl rfl rfl zwM (ziL (bt1:=bt1) (t1:=t1) (t1_h0:=t1_h0) (t1_h1:=t1_h1) (t1_h2:=t1_h2) hq2) (.ro 0 rfl (.ro 1 rfl (.ro 2 rfl (.ro 3 rfl .nil)))) (zd6 rfl dc rfl zcv (zyN ?_))
         refine zyB rfl h (fun h => ?_) (fun h => ?_)
         ·
          refine zaK (zyG (zyR 3 rfl ?_))
          obtain ⟨r2,hq3,h⟩:=zbj h
          refine zcL (v:=zI r2) (vs:=[zP bt1,zI from3,zI to3]) hrd rfl dc rfl rfl rfl zr8 (zeo (bt1:=bt1) (t1:=t1) (t1_h0:=t1_h0) (t1_h1:=t1_h1) (t1_h2:=t1_h2) hq3) (.ro 0 rfl (.ro 1 rfl (.ro 2 rfl (.ro 3 rfl .nil)))) (zyR 2 rfl ?_)
          obtain ⟨r3,hq4,h⟩:=zbj h
          refine zcL (v:=zI r3) (vs:=[zP bt1,zI from3]) hrd rfl dc rfl rfl rfl zrZ (ze1 (bt1:=bt1) (t1:=t1) (t1_h0:=t1_h0) (t1_h1:=t1_h1) (t1_h2:=t1_h2) hq4) (.ro 0 rfl (.ro 1 rfl (.ro 2 rfl (.ro 3 rfl .nil)))) (zaU rfl zcl (zyN ?_))
          refine zyB rfl h (fun h => ?_) (fun h => ?_)
          ·
           refine za2 (zal (zal (zcA dc (zal (zal (zau (zd5 (by simp) (zag ?_))))))))
           exact zam all8 h rfl (za1 rfl) (zad [0] kr rfl)
          refine zat (zaL (za2 (zal (zau ?_))))
          exact zam all8 h rfl (za1 rfl) (zad [0] kr rfl)
         refine zat (zaL ?_)
         obtain ⟨j4,hj4,h⟩:=zbC h
         refine zaX (β:=Int×Int×Nat) 1 rfl (fun b=>j4 b.1 b.2.1=some r) (fun b=>[]) (fun b=>[(0,zP bt1),(4,zI (t1.cells.length:Int)),(5,v2),(6,zI from3),(7,zI to3),(8,zP b.2.2)]) (fun b=>[zv8 v2 all8,cells b.2.2 [zI b.1,zI b.2.1,zI to3] 176]) (fun cut => ?_) ?_
         ·
          refine zyG (zyR 1 rfl ?_)
          refine za5 (v:=.agg #[zI 0,zI 1,zI to3]) (ps:=[(1,.const (zI 1)),(2,.tmp 50)]) rfl dc rfl (fun _=>by kernel_rfl) ?_
          refine zbk zlT rfl dc (fun b4 => ?_)
          refine zaZ (k:=1) (vs:=[zI 0,zI 1,zI to3]) (l':=[zI 0,zI 1,zI to3]) zdi rfl rfl rfl rfl rfl (show _≤_ by simp) rfl rfl ?_
          refine zyN (cut (zyG (zyR 2 rfl (zaU rfl zbf (zyN ?_)))))
          refine zyB rfl h (fun h => ?_) (fun h => ?_)
          ·
           refine zaK (zyG (zyR 2 rfl ?_))
           obtain ⟨q2,hq5,h⟩:=zbj h
           refine zan (k:=0) hq5 Tryz.underlying174 zdi rfl dc rfl rfl rfl rfl (zab zfm rfl dc rfl (show _=((to3:Int).toNat)*3+1 from rfl) (zaB (i:=(to3:Int).toNat) (j:=1) (k:=0) (q:=q2) zbp zaY rfl dc rfl rfl (zaC hq5) rfl dc rfl (zaU rfl zbf (zyN ?_))))
           refine zyB rfl h (fun h => ?_) (fun h => ?_)
           ·
            refine za2 (zal (zal (zau ?_)))
            exact zam all8 h rfl (za1 rfl) (zad [0] kr rfl)
           refine zat (zaL ?_)
           obtain ⟨r4,hq6,h⟩:=zbj h
           obtain ⟨q3,hq7,h⟩:=zbj h
           obtain ⟨hg5,h⟩:=zbl h
           obtain ⟨hg6,h⟩:=zbl h
           refine zbG 17 [(0,61,zP bt1),(1,62,zI from3),(2,63,zI to3),(3,64,zI r4),(4,65,v2),(5,66,zI to3),(6,67,.pointer (some ⟨zco v2,(to3:Int).toNat*3,none⟩)),(7,68,.pointer (some ⟨zco v2,((to3:Int).toNat)*3,none⟩)),(8,69,zI q3.cost),(9,70,zI (r4+q3.cost)),(10,71,v2),(11,72,zI to3),(12,73,.pointer (some ⟨zco v2,(to3:Int).toNat*3,none⟩)),(13,74,.pointer (some ⟨zco v2,((to3:Int).toNat)*3+1,none⟩)),(14,75,zI q3.rows),(15,76,zI (q3.rows+1)),(16,77,zI to3)] mixed kr kr dc (by rfl) kr kr (zyP 3 0 rfl (zae ?_ (zyP 2 4 rfl (zae ?_ (zae ?_ (zae ?_ (zae ?_ (zyP 2 10 rfl (zae ?_ (zae ?_ (zae ?_ (zae ?_ (zyP 1 16 rfl DrawPre.nil))))))))))))) ?_
           · exact fun D n d c u i=>zcL (v:=zI r4) (vs:=[zP bt1,zI from3,zI to3]) hrd rfl dc rfl (evL.cons (zaa (m:=0) u rfl (d 0 dc)) (evL.cons (zaa (m:=1) u rfl (d 1 dc)) (evL.cons (zaa (m:=2) u rfl (d 2 dc)) evL.nil))) rfl zwL (zil (bt1:=bt1) (t1:=t1) (t1_h0:=t1_h0) (t1_h1:=t1_h1) (t1_h2:=t1_h2) hq6) (.ro 0 rfl (.ro 1 rfl (.ro 2 rfl (.ro 3 rfl .nil)))) (zaf 3 u i rfl)
           · exact fun D n d c u i=>zan (k:=0) hq7 Tryz.underlying174 zdi rfl dc (zaa (m:=4) u rfl (d 4 dc)) (zaa (m:=5) u rfl (d 5 dc)) rfl rfl (zaf 6 u i rfl)
           · exact fun D n d c u i=>zab zeV rfl dc (zaa (m:=6) u rfl (d 6 dc)) (show _=((to3:Int).toNat)*3 from rfl) (zaf 7 u i rfl)
           · exact fun D n d c u i=>zaB (i:=(to3:Int).toNat) (j:=0) (k:=0) (q:=q3) zbp zaY rfl dc (zaa (m:=7) u rfl (d 7 dc)) rfl (zaC hq7) rfl dc rfl (zaf 8 u i rfl)
           · exact fun D n d c u i=>zbR rfl dc (zaa (m:=3) u rfl (d 3 dc)) (zaa (m:=8) u rfl (d 8 dc)) (zaP (r:=r4+q3.cost) (IntWalk.i64_in _ hg5)) (zaf 9 u i rfl)
           · exact fun D n d c u i=>zan (k:=0) hq7 Tryz.underlying174 zdi rfl dc (zaa (m:=10) u rfl (d 10 dc)) (zaa (m:=11) u rfl (d 11 dc)) rfl rfl (zaf 12 u i rfl)
           · exact fun D n d c u i=>zab zfm rfl dc (zaa (m:=12) u rfl (d 12 dc)) (show _=((to3:Int).toNat)*3+1 from rfl) (zaf 13 u i rfl)
           · exact fun D n d c u i=>zaB (i:=(to3:Int).toNat) (j:=1) (k:=0) (q:=q3) zbp zaY rfl dc (zaa (m:=13) u rfl (d 13 dc)) rfl (zaC hq7) rfl dc rfl (zaf 14 u i rfl)
           · exact fun D n d c u i=>zbR rfl dc (zaa (m:=14) u rfl (d 14 dc)) rfl (zaP (r:=q3.rows+1) (IntWalk.i64_in _ hg6)) (zaf 15 u i rfl)
           refine za5 (v:=.agg #[zI (r4+q3.cost),zI (q3.rows+1),zI to3]) (ps:=[(0,.tmp 70),(1,.tmp 76),(2,.tmp 77)]) rfl dc rfl (fun _=>by kernel_rfl) ?_
           refine zaZ (k:=1) (vs:=[zI (r4+q3.cost),zI (q3.rows+1),zI to3]) (l':=[zI (r4+q3.cost),zI (q3.rows+1),zI to3]) zdi rfl rfl rfl rfl rfl (show _≤_ by simp) rfl rfl (zaO ?_)
           exact zam (r4+q3.cost,q3.rows+1,b4) h rfl (za1 rfl) (zad [0,1] kr rfl)
          refine zat ?_
          exact zam (0,1,b4) h rfl (za1 rfl) (zad [0,1] kr rfl)
         rintro ⟨b2,b3,b1⟩ h
         rw [hj4] at h
         refine zyG (zyR 2 rfl ?_)
         obtain ⟨q4,hq8,h⟩:=zbj h
         refine zan (k:=0) hq8 Tryz.underlying174 zdi rfl dc rfl rfl rfl rfl (zey (i:=(from3:Int).toNat) (j:=0) (k:=0) (q:=q4) (cs:=(zr7 q4)) zjU zaY rfl dc rfl rfl (zaC hq8) rfl rfl rfl ?_)
         refine zbk zlT rfl dc (fun b5 => ?_)
         refine zaZ (k:=2) (vs:=(zr7 q4)) (l':=(zr7 q4)) zdi rfl rfl rfl rfl rfl (show _≤_ by simp) rfl rfl ?_
         refine zyH (zab zfm rfl dc rfl (show _=1 from rfl) (zaq (k:=2) zbp rfl dc rfl rfl rfl (zaU rfl zbf (zyR 1 rfl ?_))))
         refine zyS (s:=86) rfl h (fun h => ?_) (fun h => ?_)
         ·
          refine zyR 14 rfl ?_
          refine zyR 6 rfl (zyN (za9 rfl (zaw (zyR 2 rfl (za8 (k:=1) (cs:=[zI b2,zI b3,zI to3]) zjU rfl dc rfl rfl rfl rfl ?_)))))
          obtain ⟨q5,hq9,h⟩:=zbj h
          refine zan (k:=0) hq9 Tryz.underlying174 zdi rfl dc rfl rfl rfl rfl ?_
          refine zfc (i:=(from3:Int).toNat) (j:=0) (k:=0) (q:=q5) (q':=(⟨b2,b3,to3⟩:Gpage_best)) (vs:=[zI b2,zI b3,zI to3]) zdi zaY rfl rfl rfl rfl (zaC hq9) rfl dc rfl rfl (fun m=>[q5,(⟨b2,q5.rows,q5.to_⟩:Gpage_best),(⟨b2,b3,q5.to_⟩:Gpage_best),(⟨b2,b3,to3⟩:Gpage_best)].getD m q5) rfl rfl (by intro m hm; rcases m with _ | _ | _ | m <;> first | rfl | (exfalso; omega)) ?_
          refine zaO (zag ?_)
          exact zam (all8.set (from3:Int).toNat (⟨b2,b3,to3⟩:Gpage_best)) h rfl (za1 rfl) (zad [0] kr rfl)
         refine zab zeV rfl dc rfl (show _=0 from rfl) (zaq (k:=1) zbp rfl dc rfl rfl rfl (zab zeV rfl dc rfl (show _=0 from rfl) (zaq (k:=2) zbp rfl dc rfl rfl rfl (zaU rfl zbf (zyR 2 rfl ?_)))))
         refine zyS (s:=93) rfl h (fun h => ?_) (fun h => ?_)
         ·
          refine zyR 13 rfl (zaO ?_)
          refine zaL (za9 rfl (zaw (zyR 2 rfl (za8 (k:=1) (cs:=[zI b2,zI b3,zI to3]) zjU rfl dc rfl rfl rfl rfl ?_))))
          obtain ⟨q6,hq10,h⟩:=zbj h
          refine zan (k:=0) hq10 Tryz.underlying174 zdi rfl dc rfl rfl rfl rfl ?_
          refine zfc (i:=(from3:Int).toNat) (j:=0) (k:=0) (q:=q6) (q':=(⟨b2,b3,to3⟩:Gpage_best)) (vs:=[zI b2,zI b3,zI to3]) zdi zaY rfl rfl rfl rfl (zaC hq10) rfl dc rfl rfl (fun m=>[q6,(⟨b2,q6.rows,q6.to_⟩:Gpage_best),(⟨b2,b3,q6.to_⟩:Gpage_best),(⟨b2,b3,to3⟩:Gpage_best)].getD m q6) rfl rfl (by intro m hm; rcases m with _ | _ | _ | m <;> first | rfl | (exfalso; omega)) ?_
          refine zaO (zag ?_)
          exact zam (all8.set (from3:Int).toNat (⟨b2,b3,to3⟩:Gpage_best)) h rfl (za1 rfl) (zad [0] kr rfl)
         refine zab zeV rfl dc rfl (show _=0 from rfl) (zaq (k:=1) zbp rfl dc rfl rfl rfl (zab zeV rfl dc rfl (show _=0 from rfl) (zaq (k:=2) zbp rfl dc rfl rfl rfl (zaU rfl zaV (zyR 1 rfl ?_)))))
         refine zyS (s:=99) rfl h (fun h => ?_) (fun h => ?_)
         ·
          refine zab zfm rfl dc rfl (show _=1 from rfl) (zaq (k:=1) zbp rfl dc rfl rfl rfl (zab zfm rfl dc rfl (show _=1 from rfl) (zaq (k:=2) zbp rfl dc rfl rfl rfl (zaU rfl zdF (zyR 2 rfl (zyN ?_))))))
          refine zyB rfl h (fun h => ?_) (fun h => ?_)
          ·
           refine zaw (zyR 2 rfl (za8 (k:=1) (cs:=[zI b2,zI b3,zI to3]) zjU rfl dc rfl rfl rfl rfl ?_))
           obtain ⟨q7,hq11,h⟩:=zbj h
           refine zan (k:=0) hq11 Tryz.underlying174 zdi rfl dc rfl rfl rfl rfl ?_
           refine zfc (i:=(from3:Int).toNat) (j:=0) (k:=0) (q:=q7) (q':=(⟨b2,b3,to3⟩:Gpage_best)) (vs:=[zI b2,zI b3,zI to3]) zdi zaY rfl rfl rfl rfl (zaC hq11) rfl dc rfl rfl (fun m=>[q7,(⟨b2,q7.rows,q7.to_⟩:Gpage_best),(⟨b2,b3,q7.to_⟩:Gpage_best),(⟨b2,b3,to3⟩:Gpage_best)].getD m q7) rfl rfl (by intro m hm; rcases m with _ | _ | _ | m <;> first | rfl | (exfalso; omega)) ?_
           refine zaO (zag ?_)
           exact zam (all8.set (from3:Int).toNat (⟨b2,b3,to3⟩:Gpage_best)) h rfl (za1 rfl) (zad [0] kr rfl)
          refine zat (zag ?_)
          exact zam all8 h rfl (za1 rfl) (zad [0] kr rfl)
         refine zyR 7 rfl (zyN (zaQ rfl (zat (zag ?_))))
         exact zam all8 h rfl (za1 rfl) (zad [0] kr rfl)
        rintro all9 h
        rw [hj3] at h
        refine zaw (zyR 1 rfl ?_)
        obtain ⟨hg7,h⟩:=zbl h
        refine zaU rfl (zaP (r:=to3+1) (IntWalk.i64_in _ hg7)) (zyR 1 rfl (zaO ?_))
        subst hag2
        exact za3 (n2,all9,to3+1) h (Nat.lt_succ_self _) rfl (za1 rfl) (zad [0] kr rfl)
       refine za2 (zal (zal (zau (zd5 (by simp) (zag ?_)))))
       exact zam all8 h rfl (za1 rfl) (zad [0] kr rfl)
     exact fun b hb=>hb.elim
    rintro all5 h
    rw [hj2] at h
    refine zaw (zyR 1 rfl ?_)
    obtain ⟨hg8,h⟩:=zbl h
    refine zaU rfl (zbi (r:=from3 - 1) (IntWalk.i64_in _ hg8)) (zyR 1 rfl (zaO ?_))
    subst hag1
    exact za3 (n1,all5,from3 - 1) h (Nat.lt_succ_self _) rfl (za1 rfl) (zad [0] kr rfl)
   refine za2 (zal (zal (zau ?_)))
   exact zam (all4,v2) h rfl (za1 rfl) (zad [0] kr rfl)
 rintro ⟨all1,v1⟩ h
 rw [hj1] at h
 obtain ⟨j5,hj5,h⟩:=zbC h
 refine zaX (β:=(List Int)×Hd) 1 rfl (fun b=>j5 b.1=some r) (fun b=>[]) (fun b=>[(5,v1),(10,b.2.v)]) (fun b=>[zv8 v1 all1,zv0 b.2.v b.1]) (fun cut => ?_) ?_
 ·
  refine zyG (zyR 1 rfl (zyN (cut (zyG (zyR 1 rfl (zyN (zaD (zda (enc:=(znI (.i64))) (e:=3) (size:=1) ?_))))))))
  refine zbn (β:=Nat×(List Int)×Int×Hd) (fun b=>zaF (fun _ _=>none) (zbI t1 all1 j5) b.1 b.2.1 b.2.2.1=some r) (fun b=>[]) (fun b=>[(4,zI (t1.cells.length:Int)),(5,v1),(10,b.2.2.2.v),(11,zI b.2.2.1)]) (fun b=>[zv8 v1 all1,zv0 b.2.2.2.v b.2.1]) (fun b=>b.1) (zbV,([]:List Int),0,Hd.nil) h rfl (za1 rfl) (zad [0,1] kr rfl) ?_
  rintro ⟨n3,out4,from6,hd4⟩ h
  cases n3 with
  | zero=>exact zdD h
  | succ n3 =>
   obtain ⟨ag3,hag3⟩:∃ ag,ag=zaF (fun _ _=>none) (zbI t1 all1 j5) n3:=⟨_,rfl⟩
   have h:zbI t1 all1 j5 ag3 out4 from6=some r:=by rw [hag3]; exact h
   unfold zbI at h
   refine zaK (zyG (zyR 2 rfl (zaU rfl zbf (zyN ?_))))
   refine zyB rfl h (fun h => ?_) (fun h => ?_)
   ·
    refine zat (zaL (zaK (zaD (zaw (zyR 3 rfl ?_)))))
    obtain ⟨q8,hq12,h⟩:=zbj h
    refine zan (k:=0) hq12 Tryz.underlying174 zdi rfl dc rfl rfl rfl rfl (zab zkm rfl dc rfl (show _=((from6:Int).toNat)*3+2 from rfl) (zaB (i:=(from6:Int).toNat) (j:=2) (k:=0) (q:=q8) zbp zaY rfl dc rfl rfl (zaC hq12) rfl dc rfl ?_))
    refine zaT (cs:=[zI q8.to_]) (te:=3) (ps:=[(0,.tmp 124)]) rfl dc rfl (fun _=>by kernel_rfl) (fun b6 => ?_)
    obtain ⟨hg9,h⟩:=zbl h
    refine za4 (k:=1) (k2:=2) (ys:=[q8.to_]) Tryz.underlying49 zsz za6 zg8 rfl dc rfl rfl rfl rfl rfl rfl hg9 (fun v3 => ?_)
    refine zbJ (k:=1) rfl (fun hd5 he1 => ?_)
    subst he1
    refine zyR 1 rfl (zaO (zag (zaL (zaw (zyR 2 rfl ?_)))))
    obtain ⟨q9,hq13,h⟩:=zbj h
    refine zan (k:=0) hq13 Tryz.underlying174 zdi rfl dc rfl rfl rfl rfl (zab zkm rfl dc rfl (show _=((from6:Int).toNat)*3+2 from rfl) (zaB (i:=(from6:Int).toNat) (j:=2) (k:=0) (q:=q9) zbp zaY rfl dc rfl rfl (zaC hq13) rfl dc rfl (zyR 1 rfl (zaO ?_))))
    subst hag3
    exact za3 (n3,out4++[q8.to_],q9.to_,hd5) h (Nat.lt_succ_self _) rfl (za1 rfl) (zad [0,1] kr rfl)
   refine za2 (zal (zal (zau ?_)))
   exact zam (out4,hd4) h rfl (za1 rfl) (zad [0,1] kr rfl)
 rintro ⟨out1,hd1⟩ h
 rw [hj5] at h
 refine zaK ?_
 obtain ⟨q10,hq14,h⟩:=zbj h
 refine zbG 6 [(0,127,hd1.v),(1,128,v1),(2,129,.pointer (some ⟨zco v1,(0:Int).toNat*3,none⟩)),(3,130,.pointer (some ⟨zco v1,((0:Int).toNat)*3,none⟩)),(4,131,zI q10.cost),(5,2,hd1.v)] mixed kr kr dc (by rfl) kr kr (zyP 2 0 rfl (zae ?_ (zae ?_ (zae ?_ (zyP 1 5 rfl DrawPre.nil))))) ?_
 · exact fun D n d c u i=>zan (k:=0) hq14 Tryz.underlying174 zdi rfl dc (zaa (m:=1) u rfl (d 1 dc)) rfl rfl rfl (zaf 2 u i rfl)
 · exact fun D n d c u i=>zab zeV rfl dc (zaa (m:=2) u rfl (d 2 dc)) (show _=((0:Int).toNat)*3 from rfl) (zaf 3 u i rfl)
 · exact fun D n d c u i=>zaB (i:=(0:Int).toNat) (j:=0) (k:=0) (q:=q10) zbp zaY rfl dc (zaa (m:=3) u rfl (d 3 dc)) rfl (zaC hq14) rfl dc rfl (zaf 4 u i rfl)
 refine zyR 1 rfl (zyN (zaH ?_))
 cases h
 exact zaN (rs:=[.tmp 2,.tmp 3]) hd1.v (.inl rfl) Tryz.results96 (.cons (.tmp rfl) (.cons (.tmp rfl) .nil)) rfl (zad [1] kr rfl)
def zdK (t1:Gpage_turner) (from1:Int) (to1:Int):Option ByteArray :=
zak (zbF t1.cells from1) fun (q1:Gapi_Cell) =>
grd (I64 (to1 - 1)) <|
zak (zbF t1.cells (to1 - 1)) fun (q2:Gapi_Cell) =>
grd (0≤(q1.Span_From:Int)∧(q1.Span_From:Int)≤q2.Span_To∧(q2.Span_To:Int)≤(t1.s.size:Int)) <|
some (zbS t1.s q1.Span_From q2.Span_To)
theorem zij {bt1:Nat} {t1:Gpage_turner} {t1_h0 t1_h1 t1_h2:Hd} {from1:Int} {to1:Int} {r:ByteArray} (h:zdK t1 from1 to1=some r):FnR Tryz.prog 97 [zP bt1,zI from1,zI to1] [cells bt1 [.string t1.s,t1_h0.v,t1_h1.v,t1_h2.v,zI t1.first,zI t1.rest] 203,zv1 t1_h0.v t1.cells,zv0 t1_h1.v t1.wide,zv0 t1_h2.v t1.ends] [] (fun _:Unit=>(.string r)) (fun _=>[]):=by
 unfold zdK at h
 refine FnR.intro Tryz.func97 rfl Tryz.ntmps97 (by simp) ?_
 intro w0 K hrd
 refine zyG (zyR 1 rfl (zyN (zaK ?_)))
 obtain ⟨q1,hq1,h⟩:=zbj h
 obtain ⟨hg1,h⟩:=zbl h
 obtain ⟨q2,hq2,h⟩:=zbj h
 obtain ⟨hg2,h⟩:=zbl h
 refine zbG 23 [(0,7,zP bt1),(1,8,zP bt1),(2,9,zP bt1),(3,10,.string t1.s),(4,11,zP bt1),(5,12,zP bt1),(6,13,.pointer (some ⟨bt1,1,none⟩)),(7,14,t1_h0.v),(8,15,zI from1),(9,16,.pointer (some ⟨zco t1_h0.v,(0+(from1:Int).toNat)*3,none⟩)),(10,17,.pointer (some ⟨zco t1_h0.v,(0+(from1:Int).toNat)*3,none⟩)),(11,18,.pointer (some ⟨zco t1_h0.v,(0+(from1:Int).toNat)*3,none⟩)),(12,19,zI q1.Span_From),(13,20,zP bt1),(14,21,zP bt1),(15,22,.pointer (some ⟨bt1,1,none⟩)),(16,23,t1_h0.v),(17,24,zI to1),(18,25,zI (to1 - 1)),(19,26,.pointer (some ⟨zco t1_h0.v,(0+(to1 - 1:Int).toNat)*3,none⟩)),(20,27,.pointer (some ⟨zco t1_h0.v,(0+(to1 - 1:Int).toNat)*3,none⟩)),(21,28,.pointer (some ⟨zco t1_h0.v,(0+(to1 - 1:Int).toNat)*3+1,none⟩)),(22,29,zI q2.Span_To)] mixed kr kr dc (by rfl) kr kr (zyP 1 0 rfl (zae ?_ (zae ?_ (zae ?_ (zyP 1 4 rfl (zae ?_ (zae ?_ (zae ?_ (zyP 1 8 rfl (zae ?_ (zae ?_ (zae ?_ (zae ?_ (zyP 1 13 rfl (zae ?_ (zae ?_ (zae ?_ (zyP 1 17 rfl (zae ?_ (zae ?_ (zae ?_ (zae ?_ (zae ?_ DrawPre.nil))))))))))))))))))))))) ?_
 · exact fun D n d c u i=>zaA rfl dc (zaa (m:=0) u rfl (d 0 dc)) (zaf 1 u i rfl)
 · exact fun D n d c u i=>zab zpX rfl dc (zaa (m:=1) u rfl (d 1 dc)) (show _=0 from rfl) (zaf 2 u i rfl)
 · exact fun D n d c u i=>zbr (i:=0) hrd rfl zoQ rfl dc (zaa (m:=2) u rfl (d 2 dc)) rfl (zaf 3 u i rfl)
 · exact fun D n d c u i=>zaA rfl dc (zaa (m:=4) u rfl (d 4 dc)) (zaf 5 u i rfl)
 · exact fun D n d c u i=>zab zg4 rfl dc (zaa (m:=5) u rfl (d 5 dc)) (show _=1 from rfl) (zaf 6 u i rfl)
 · exact fun D n d c u i=>zbr (i:=0) hrd rfl zqi rfl dc (zaa (m:=6) u rfl (d 6 dc)) rfl (zaf 7 u i rfl)
 · exact fun D n d c u i=>zbe (hrd.vw (i:=1) rfl) hq1 Tryz.underlying94 zgV rfl dc (zaa (m:=7) u rfl (d 7 dc)) (zaa (m:=8) u rfl (d 8 dc)) rfl (zaf 9 u i rfl)
 · exact fun D n d c u i=>zab zfD rfl dc (zaa (m:=9) u rfl (d 9 dc)) (show _=(0+(from1:Int).toNat)*3 from rfl) (zaf 10 u i rfl)
 · exact fun D n d c u i=>zab zdm rfl dc (zaa (m:=10) u rfl (d 10 dc)) (show _=(0+(from1:Int).toNat)*3 from rfl) (zaf 11 u i rfl)
 · exact fun D n d c u i=>zcB (n:=0+(from1:Int).toNat) (j:=0) (i:=1) (q:=q1) hrd rfl zbp zbu rfl dc (zaa (m:=11) u rfl (d 11 dc)) (Vw.get (hrd.vw (i:=1) rfl) hq1) rfl dc rfl (zaf 12 u i rfl)
 · exact fun D n d c u i=>zaA rfl dc (zaa (m:=13) u rfl (d 13 dc)) (zaf 14 u i rfl)
 · exact fun D n d c u i=>zab zg4 rfl dc (zaa (m:=14) u rfl (d 14 dc)) (show _=1 from rfl) (zaf 15 u i rfl)
 · exact fun D n d c u i=>zbr (i:=0) hrd rfl zqi rfl dc (zaa (m:=15) u rfl (d 15 dc)) rfl (zaf 16 u i rfl)
 · exact fun D n d c u i=>zbR rfl dc (zaa (m:=17) u rfl (d 17 dc)) rfl (zbi (r:=to1 - 1) (IntWalk.i64_in _ hg1)) (zaf 18 u i rfl)
 · exact fun D n d c u i=>zbe (hrd.vw (i:=1) rfl) hq2 Tryz.underlying94 zgV rfl dc (zaa (m:=16) u rfl (d 16 dc)) (zaa (m:=18) u rfl (d 18 dc)) rfl (zaf 19 u i rfl)
 · exact fun D n d c u i=>zab zfD rfl dc (zaa (m:=19) u rfl (d 19 dc)) (show _=(0+(to1 - 1:Int).toNat)*3 from rfl) (zaf 20 u i rfl)
 · exact fun D n d c u i=>zab zdU rfl dc (zaa (m:=20) u rfl (d 20 dc)) (show _=(0+(to1 - 1:Int).toNat)*3+1 from rfl) (zaf 21 u i rfl)
 · exact fun D n d c u i=>zcB (n:=0+(to1 - 1:Int).toNat) (j:=1) (i:=1) (q:=q2) hrd rfl zbp zbu rfl dc (zaa (m:=21) u rfl (d 21 dc)) (Vw.get (hrd.vw (i:=1) rfl) hq2) rfl dc rfl (zaf 22 u i rfl)
 refine zdn rfl dc rfl rfl rfl (zbN (i:=q1.Span_From) (j:=q2.Span_To) Tryz.underlying9 (.inr rfl) (.inr rfl) hg2) (zyR 1 rfl (zyN (zaH ?_)))
 cases h
 exact zaN (rs:=[.tmp 6]) () (.inl rfl) Tryz.results97 (.cons (.tmp rfl) .nil) rfl Splits.nil
def zcy (s1:ByteArray) (indent1:Int) (l1:Gapi_Layout) (x1:Gapi_Cell) (ag1:(List Gapi_Cell)→(List Int)→(List Int)→Option Gpage_turner) (t10:List Gapi_Cell) (t11:List Int) (t12:List Int):Option Gpage_turner :=
zbd (fun (j2:(List Int)→Int→Option Gpage_turner) =>
grd (t10.length+1≤2147483648) <|
grd (I64 (((t10++[x1]).length:Int) - 1)) <|
zak (zbF t11 (((t10++[x1]).length:Int) - 1)) fun (q1:Int) =>
grd (I64 (q1+x1.Columns)) <|
grd (t11.length+1≤2147483648) <|
grd (I64 ((((t10++[x1]).length:Int) - 1)+1)) <|
zak (zb5 (⟨s1,t10++[x1],t11++[q1+x1.Columns],t12,max 1 (l1.Width - indent1),l1.Width - l1.Turn⟩:Gpage_turner) (((t10++[x1]).length:Int) - 1)) fun (r2:Bool) =>
zax (r2) (
zak (zbF t12 (((t10++[x1]).length:Int) - 1)) fun (q2:Int) =>
j2 (t11++[q1+x1.Columns]) q2
) (
j2 (t11++[q1+x1.Columns]) ((((t10++[x1]).length:Int) - 1)+1)
)
) (fun (t13:List Int) (end1:Int) =>
grd (t12.length+1≤2147483648) <|
ag1 (t10++[x1]) t13 (t12++[end1])
)
def zeh (s1:ByteArray) (indent1:Int) (l1:Gapi_Layout):Option Gpage_turner :=
zbd (fun (j1:(List Gapi_Cell)→(List Int)→(List Int)→Option Gpage_turner) =>
grd (I64 (l1.Width - indent1)) <|
grd (I64 (l1.Width - l1.Turn)) <|
zak (zeT s1) fun (r1:ByteArray) =>
zak (zdh r1) fun (its1:(List Gapi_Cell)) =>
zbd (fun (dn1:(List Gapi_Cell)→(List Int)→(List Int)→Option Gpage_turner) =>
zcD dn1 (zcy s1 indent1 l1) its1 ([]:List Gapi_Cell) ([0]:List Int) ([0]:List Int)
) (fun (t10:List Gapi_Cell) (t11:List Int) (t12:List Int) =>
j1 t10 t11 t12
)
) (fun (t1:List Gapi_Cell) (t2:List Int) (t3:List Int) =>
some (⟨s1,t1,t2,t3,max 1 (l1.Width - indent1),l1.Width - l1.Turn⟩:Gpage_turner)
)
theorem zju {s1:ByteArray} {indent1:Int} {l1:Gapi_Layout} {r:Gpage_turner} (h:zeh s1 indent1 l1=some r):Fn Tryz.prog 95 [.string s1,zI indent1,.agg (zr0 l1).toArray] [] (fun b:Nat×Hd×Hd×Hd=>zP b.1) (fun b=>[cells b.1 [.string r.s,b.2.1.v,b.2.2.1.v,b.2.2.2.v,zI r.first,zI r.rest] 203,zv1 b.2.1.v r.cells,zv0 b.2.2.1.v r.wide,zv0 b.2.2.2.v r.ends]):=by
 unfold zeh at h
 refine Fn.intro Tryz.func95 rfl Tryz.ntmps95 (by simp) ?_
 intro w0 K
 refine zjk ?_
 obtain ⟨j1,hj1,h⟩:=zbC h
 refine zaX (β:=(List Gapi_Cell)×(List Int)×(List Int)×Nat×Nat×Hd×Hd×Hd×(List Nat)) 2 rfl (fun b=>j1 b.1 b.2.1 b.2.2.1=some r) (fun b=>zgL b.2.2.2.2.2.2.2.2) (fun b=>[(7,zP b.2.2.2.1)]) (fun b=>[cells b.2.2.2.1 [zP b.2.2.2.2.1] 179,cells b.2.2.2.2.1 [.string s1,b.2.2.2.2.2.1.v,b.2.2.2.2.2.2.1.v,b.2.2.2.2.2.2.2.1.v,zI (max 1 (l1.Width - indent1)),zI (l1.Width - l1.Turn)] 203,zv1 b.2.2.2.2.2.1.v b.1,zv0 b.2.2.2.2.2.2.1.v b.2.1,zv0 b.2.2.2.2.2.2.2.1.v b.2.2.1,zj6 ((b.2.2.2.2.2.2.2.2:List Nat).map zoi)]) (fun cut => ?_) ?_
 ·
  refine zyG ?_
  refine zdW rfl dc rfl (fun b3 => ?_)
  refine zyR 1 rfl (zyH (zyR 1 rfl ?_))
  refine zaT (cs:=[zI 0]) (te:=3) (ps:=[(0,.const (zI 0))]) rfl dc rfl (fun _=>by kernel_rfl) (fun b4 => ?_)
  refine zaT (cs:=[zI 0]) (te:=3) (ps:=[(0,.const (zI 0))]) rfl dc rfl (fun _=>by kernel_rfl) (fun b5 => ?_)
  refine zab zfl rfl dc rfl (show _=0 from rfl) (zaq (k:=1) zbp rfl dc rfl rfl rfl (zyR 1 rfl ?_))
  obtain ⟨hg1,h⟩:=zbl h
  refine zaU rfl (zbi (r:=l1.Width - indent1) (IntWalk.i64_in _ hg1)) (zll rfl dc rfl rfl (zab zfl rfl dc rfl (show _=0 from rfl) (zaq (k:=1) zbp rfl dc rfl rfl rfl (zab zg3 rfl dc rfl (show _=2 from rfl) (zaq (k:=1) zbp rfl dc rfl rfl rfl ?_)))))
  obtain ⟨hg2,h⟩:=zbl h
  refine zaU rfl (zbi (r:=l1.Width - l1.Turn) (IntWalk.i64_in _ hg2)) ?_
  refine za5 (v:=.agg #[.string s1,.slice none 0 0,.slice (some ⟨b4,0,none⟩) 1 1,.slice (some ⟨b5,0,none⟩) 1 1,zI (max 1 (l1.Width - indent1)),zI (l1.Width - l1.Turn)]) (ps:=[(0,.tmp 11),(2,.tmp 12),(3,.tmp 13),(4,.tmp 18),(5,.tmp 23)]) rfl dc rfl (fun _=>by kernel_rfl) ?_
  refine zhV ([0]:List Int) (k:=2) rfl za6 rfl (show 1≤maxLen by decide) ?_
  refine zhV ([0]:List Int) (k:=3) rfl za6 rfl (show 1≤maxLen by decide) ?_
  refine zdW rfl dc rfl (fun b6 => ?_)
  refine zbk zvG rfl dc (fun b7 => ?_)
  refine zaS (k:=5) (l':=[zP b6]) zvT rfl rfl rfl rfl rfl (fun _ _=>rfl) rfl ?_
  refine zyN (cut (zyG (zyR 1 rfl ?_)))
  obtain ⟨r1,hq1,h⟩:=zbj h
  refine zdG (vs:=[.string s1]) rfl dc rfl rfl rfl zu6 (zgt hq1) Splits.nil ?_
  rintro b8
  refine zdu (L':=[zj6 ((([]:List Nat):List Nat).map zoi),cells b3 (zr0 l1) 23,zv0 (.slice (some ⟨b4,0,none⟩) 1 1) ([0]:List Int),zv0 (.slice (some ⟨b5,0,none⟩) 1 1) ([0]:List Int),cells b6 [.string s1,.slice none 0 0,(.slice (some ⟨b4,0,none⟩) 1 1),(.slice (some ⟨b5,0,none⟩) 1 1),zI (max 1 (l1.Width - indent1)),zI (l1.Width - l1.Turn)] 203,cells b7 [zP b6] 179,cells b8 [.string r1] 9]) (zad [0,1,2,3,4,5,6] kr rfl) (zyN (zaD ?_))
  obtain ⟨its1,hq2,h⟩:=zbj h
  refine zda (enc:=zeI) (e:=40) (size:=3) ?_
  obtain ⟨dn1,hdn1,h⟩:=zbC h
  refine znE (α:=Gapi_Cell) (β:=(List Gapi_Cell)×(List Int)×(List Int)×Hd×Hd×Hd) (γ:=Unit) (δ:=Nat) (ps:=[28]) Ro.nil rfl zu5 (zfr hq2) (fun pre b=>∀ post,its1=pre++post→zcD dn1 (zcy s1 indent1 l1) post b.1 b.2.1 b.2.2.1=some r) (fun pre b=>[cells b7 [zP b6] 179,cells b6 [.string s1,b.2.2.2.1.v,b.2.2.2.2.1.v,b.2.2.2.2.2.v,zI (max 1 (l1.Width - indent1)),zI (l1.Width - l1.Turn)] 203,zv1 b.2.2.2.1.v b.1,zv0 b.2.2.2.2.1.v b.2.1,zv0 b.2.2.2.2.2.v b.2.2.1]) (fun c pre g=>False) (fun c pre g=>[]) (fun pre x b j=>[(6,.pointer none),(7,zP b7),(27,.func (.func 33) #[] #[zP b8]),(8,zP j)]) (fun pre x b j=>[cells b7 [zP b6] 179,cells b6 [.string s1,b.2.2.2.1.v,b.2.2.2.2.1.v,b.2.2.2.2.2.v,zI (max 1 (l1.Width - indent1)),zI (l1.Width - l1.Turn)] 203,zv1 b.2.2.2.1.v b.1,zv0 b.2.2.2.2.1.v b.2.1,zv0 b.2.2.2.2.2.v b.2.2.1,cells j (zr1 x) 40]) (([]:List Gapi_Cell),([0]:List Int),([0]:List Int),Hd.nil,(⟨some ⟨b4,0,none⟩,1,1⟩:Hd),(⟨some ⟨b5,0,none⟩,1,1⟩:Hd)) (fun post e=>by rw [List.nil_append] at e; subst e; exact h) (zad [5,4,7,2,3] kr rfl) ⟨.inl ⟨6,rfl⟩,trivial⟩ (fun _=>rfl) dc ?_ ?_ ?_ ?_
  ·
   rintro lp rc pre x1 post ⟨t10,t11,t12,hd10,hd11,hd12⟩ w1 K1 hxs1 hext hro hinv
   refine zaw ?_
   refine zbk zqM rfl dc (fun b9 => ?_)
   refine zaZ (k:=5) (vs:=(zr1 x1)) (l':=(zr1 x1)) zgV rfl rfl rfl rfl rfl (show _≤_ by simp) rfl rfl ?_
   refine zaO ?_
   exact fun a w ha hw=>⟨b9,(za1 rfl) _ _ _ ha,hw.weaken (zad [0,1,2,3,4,5] kr rfl)⟩
  ·
   rintro lp rc pre x1 post1 ⟨t10,t11,t12,hd10,hd11,hd12⟩ jb1 w1 K1 hxs1 hext hro hinv
   have h:=hinv (x1::post1) hxs1
   obtain ⟨ag1,hag1⟩:∃ ag,ag=zcD dn1 (zcy s1 indent1 l1) post1:=⟨_,rfl⟩
   have h:zcy s1 indent1 l1 x1 ag1 t10 t11 t12=some r:=by rw [hag1]; exact h
   unfold zcy at h
   refine zaD ?_
   obtain ⟨j2,hj2,h⟩:=zbC h
   refine zaX (β:=(List Int)×Int×Hd×Hd) 4 rfl (fun b=>j2 b.1 b.2.1=some r) (fun b=>[]) (fun b=>[(6,.pointer none),(7,zP b7),(10,zI b.2.1),(27,.func (.func 33) #[] #[zP b8])]) (fun b=>[cells b7 [zP b6] 179,cells b6 [.string s1,b.2.2.1.v,b.2.2.2.v,hd12.v,zI (max 1 (l1.Width - indent1)),zI (l1.Width - l1.Turn)] 203,zv1 b.2.2.1.v (t10++[x1]),zv0 b.2.2.2.v b.1,zv0 hd12.v t12]) (fun cut => ?_) ?_
   ·
    refine zaK ?_
    obtain ⟨hg3,h⟩:=zbl h
    refine zgx 1 ?_
    refine let vals1:(Nat×Hd)→List (Nat×Nat×Value):=fun b=>[(0,29,zP b6),(1,30,zP b6),(2,31,zP b6),(3,32,.pointer (some ⟨b6,1,none⟩)),(4,33,hd10.v),(5,34,.agg (zr1 x1).toArray),(6,35,.slice (some ⟨b.1,0,none⟩) 1 1),(7,36,b.2.v)]; let LL1:(Nat→Prop)→(Nat×Hd)→List Asn:=fun D b=>[cells b7 [zP b6] 179,cells b6 [.string s1,hd10.v,hd11.v,hd12.v,zI (max 1 (l1.Width - indent1)),zI (l1.Width - l1.Turn)] 203,eD D (zv1 hd10.v t10) [(7,zv1 b.2.v (t10++[x1]))],zv0 hd11.v t11,zv0 hd12.v t12,cells jb1 (zr1 x1) 40,eD D emp [(6,cells b.1 (zr1 x1) 40)]]; ?_
    have zhq:zyQ [6,7] LL1:=fun i h D b=>zac rfl (zac rfl (zac (zlx rfl h) (zac rfl (zac rfl (zac rfl (zac (zlx rfl h) rfl))))))
    refine zdY (β:=Nat×Hd) 8 ((0:Nat),Hd.nil) vals1 LL1 mixed kr kr dc (fun _=>rfl) (zcS (zac zbY (zcC (zac zbY rfl)))) (zjl zhq rfl (fun _=>rfl) (fun _=>rfl) ?_ (zjl zhq rfl (fun _=>rfl) (fun _=>rfl) ?_ (zyq zhq rfl (fun _=>rfl) (fun _=>rfl) ?_ (zyq zhq rfl (fun _=>rfl) (fun _=>rfl) ?_ (zjl zhq rfl (fun _=>rfl) (fun _=>rfl) ?_ (zjl zhq rfl (fun _=>rfl) (fun _=>rfl) ?_ (zas ?_ (zas ?_ DrawG.nil)))))))) ?_
    · exact fun D ⟨b10,hd15⟩ n d c u i=>⟨_,(zw5 rfl),zaq (k:=0) zhw rfl dc (zba (by rfl) rfl) rfl rfl (zaf 0 u i rfl)⟩
    · exact fun D ⟨b10,hd15⟩ n d c u i=>⟨_,(zcS (zac (zaj (fun hD=>n (c 2 _ rfl (c 3 _ rfl (c 4 _ rfl (c 7 _ rfl hD 4 dc) 3 dc) 2 dc) 1 dc)) zap) (zfN rfl))),zaq (k:=0) zhw rfl dc (zba (by rfl) rfl) rfl rfl (zaf 1 u i rfl)⟩
    · exact fun D ⟨b10,hd15⟩ n d c u i=>zaA rfl dc (zaa (m:=1) u rfl (d 1 dc)) (zaf 2 u i rfl)
    · exact fun D ⟨b10,hd15⟩ n d c u i=>zab zg4 rfl dc (zaa (m:=2) u rfl (d 2 dc)) (show _=1 from rfl) (zaf 3 u i rfl)
    · exact fun D ⟨b10,hd15⟩ n d c u i=>⟨_,(zcS (zac (zaj (fun hD=>n (c 7 _ rfl hD 4 dc)) zap) (zfN rfl))),zaq (k:=1) zqi rfl dc (zaa (m:=3) u rfl (d 3 dc)) rfl rfl (zaf 4 u i rfl)⟩
    · exact fun D ⟨b10,hd15⟩ n d c u i=>⟨_,(zcS (zac (zaj (fun hD=>n (c 6 _ rfl (c 7 _ rfl hD 6 dc) 5 dc)) zap) (zcC (zac (zaj (fun hD=>n (c 6 _ rfl hD 5 dc)) zap) rfl)))),za8 (k:=5) (cs:=(zr1 x1)) zif rfl dc (zba (by rfl) rfl) rfl rfl rfl (zaf 5 u i rfl)⟩
    ·
     intro D b hn hd hcl
     obtain ⟨zb0,hd15⟩:=b
     refine zaG (zcS (zac (zaj (fun hD=>hn (hcl 7 _ rfl hD 6 dc)) zap) (zcC (zac (zaj hn zap) rfl)))) ?_
     refine zaT (cs:=(zr1 x1)) (te:=40) (ps:=[(0,.tmp 34)]) rfl dc (evP.cons (zaa (m:=5) rfl rfl (hd 5 dc)) evP.nil) (fun _=>by kernel_rfl) (fun b10 => ?_)
     refine zc2 6 rfl rfl ?_
     exact zaM (b:=(zb0,hd15)) (b10,hd15) 6 (by rfl) (by rfl) rfl (zue (zar (fun hD=>absurd hD hn) (zar (fun _=>rfl) rfl))) (zcS (zac ((zao (by rfl)).trans (zaj (fun hD=>hn (hcl 7 _ rfl hD 6 dc)) zap)) (zcC (zac (zaI (Or.inr rfl) rfl) rfl))))
    ·
     intro D b hn hd hcl
     obtain ⟨b10,zb1⟩:=b
     refine zaG (zcS (zac (zaj hn zap) (zcC (zac (zaI (hd 6 dc) rfl) rfl)))) ?_
     refine za4 (k:=2) (k2:=6) (ys:=[x1]) Tryz.underlying94 zwT zbu zgS rfl dc (zaa (m:=4) rfl rfl (hd 4 dc)) (zaa (m:=6) rfl rfl (hd 6 dc)) rfl rfl rfl rfl hg3 (fun v1 => ?_)
     refine zbJ (k:=2) rfl (fun hd15 he1 => ?_)
     subst he1
     exact zaM (b:=(b10,zb1)) (b10,hd15) 7 (by rfl) (by rfl) rfl (zj3 (zar (fun hD=>absurd hD hn) rfl)) (zcS (zac (zaI (Or.inr rfl) rfl) (zcC (zac ((zao (by rfl)).trans (zaI (hd 6 dc) rfl)) rfl))))
    intro D b hall
    obtain ⟨b10,hd15⟩:=b
    refine zaG (zcS (zac (zaI (hall 7 dc) rfl) (zcC (zac (zaI (hall 6 dc) rfl) rfl)))) (zaA rfl dc rfl (zab zg4 rfl dc rfl (show _=1 from rfl) ?_))
    refine zaS (k:=1) (l':=[.string s1,hd15.v,hd11.v,hd12.v,zI (max 1 (l1.Width - indent1)),zI (l1.Width - l1.Turn)]) zxp rfl rfl rfl rfl rfl (fun _ _=>rfl) rfl ?_
    refine zyH (zaq (k:=0) zhw rfl dc rfl rfl rfl (zaA rfl dc rfl (zab zg4 rfl dc rfl (show _=1 from rfl) (zaq (k:=1) zqi rfl dc rfl rfl rfl (zbv (k:=2) rfl dc rfl rfl Tryz.underlying94 ?_)))))
    obtain ⟨hg4,h⟩:=zbl h
    refine zaU rfl (zbi (r:=((t10++[x1]).length:Int) - 1) (IntWalk.i64_in _ hg4)) (zyR 1 rfl (zyN (zaK ?_)))
    obtain ⟨q1,hq3,h⟩:=zbj h
    obtain ⟨hg5,h⟩:=zbl h
    obtain ⟨hg6,h⟩:=zbl h
    refine zgx 1 ?_
    refine let vals2:(Nat×Hd)→List (Nat×Nat×Value):=fun b=>[(0,45,zP b6),(1,46,zP b6),(2,47,zP b6),(3,48,.pointer (some ⟨b6,2,none⟩)),(4,49,hd11.v),(5,50,zP b6),(6,51,zP b6),(7,52,.pointer (some ⟨b6,2,none⟩)),(8,53,hd11.v),(9,54,zI (((t10++[x1]).length:Int) - 1)),(10,55,.pointer (some ⟨zco hd11.v,(((t10++[x1]).length:Int) - 1:Int).toNat*1,none⟩)),(11,56,zI q1),(12,57,.pointer (some ⟨jb1,2,none⟩)),(13,58,zI x1.Columns),(14,59,zI (q1+x1.Columns)),(15,60,.slice (some ⟨b.1,0,none⟩) 1 1),(16,61,b.2.v)]; let LL2:(Nat→Prop)→(Nat×Hd)→List Asn:=fun D b=>[cells b7 [zP b6] 179,cells b6 [.string s1,hd15.v,hd11.v,hd12.v,zI (max 1 (l1.Width - indent1)),zI (l1.Width - l1.Turn)] 203,zv1 hd15.v (t10++[x1]),eD D (zv0 hd11.v t11) [(16,zv0 b.2.v (t11++[q1+x1.Columns]))],zv0 hd12.v t12,cells jb1 (zr1 x1) 40,cells b10 (zr1 x1) 40,eD D emp [(15,cells b.1 [zI (q1+x1.Columns)] 3)]]; ?_
    refine zdY (β:=Nat×Hd) 17 ((0:Nat),Hd.nil) vals2 LL2 mixed kr kr dc (fun _=>rfl) (zcC (zac zbY (zcC (zac zbY rfl)))) (zas ?_ (zas ?_ (zas ?_ (zas ?_ (zas ?_ (zas ?_ (zas ?_ (zas ?_ (zas ?_ (zas ?_ (zas ?_ (zas ?_ (zas ?_ (zas ?_ (zas ?_ (zas ?_ (zas ?_ DrawG.nil))))))))))))))))) ?_
    ·
     intro D b hn hd hcl
     obtain ⟨b11,hd16⟩:=b
     refine zaG (zit rfl) (zaq (k:=0) zhw rfl dc (zba (by rfl) rfl) rfl rfl ?_)
     exact zaM (b:=(b11,hd16)) (b11,hd16) 0 (by rfl) (by rfl) rfl (znK (zcF rfl)) (zcC (zac (zao (by rfl)) (zcC (zac (zao (by rfl)) rfl))))
    ·
     intro D b hn hd hcl
     obtain ⟨b11,hd16⟩:=b
     refine zaG (zcC (zac (zaj (fun hD=>hn (hcl 2 _ rfl (hcl 3 _ rfl (hcl 4 _ rfl (hcl 16 _ rfl hD 4 dc) 3 dc) 2 dc) 1 dc)) zap) (zfN rfl))) ?_
     refine zaq (k:=0) zhw rfl dc (zba (by rfl) rfl) rfl rfl ?_
     exact zaM (b:=(b11,hd16)) (b11,hd16) 1 (by rfl) (by rfl) rfl (znK (zcF rfl)) (zcC (zac ((zao (by rfl)).trans (zaj (fun hD=>hn (hcl 2 _ rfl (hcl 3 _ rfl (hcl 4 _ rfl (hcl 16 _ rfl hD 4 dc) 3 dc) 2 dc) 1 dc)) zap)) (zcC (zac (zao (by rfl)) rfl))))
    ·
     intro D b hn hd hcl
     obtain ⟨b11,hd16⟩:=b
     refine zaG (zcC (zac (zaj (fun hD=>hn (hcl 3 _ rfl (hcl 4 _ rfl (hcl 16 _ rfl hD 4 dc) 3 dc) 2 dc)) zap) (zfN rfl))) ?_
     refine zaA rfl dc (zaa (m:=1) rfl rfl (hd 1 dc)) ?_
     exact zaM (b:=(b11,hd16)) (b11,hd16) 2 (by rfl) (by rfl) rfl (znK (zcF rfl)) (zcC (zac ((zao (by rfl)).trans (zaj (fun hD=>hn (hcl 3 _ rfl (hcl 4 _ rfl (hcl 16 _ rfl hD 4 dc) 3 dc) 2 dc)) zap)) (zcC (zac (zao (by rfl)) rfl))))
    ·
     intro D b hn hd hcl
     obtain ⟨b11,hd16⟩:=b
     refine zaG (zcC (zac (zaj (fun hD=>hn (hcl 4 _ rfl (hcl 16 _ rfl hD 4 dc) 3 dc)) zap) (zfN rfl))) ?_
     refine zab ziY rfl dc (zaa (m:=2) rfl rfl (hd 2 dc)) (show _=2 from rfl) ?_
     exact zaM (b:=(b11,hd16)) (b11,hd16) 3 (by rfl) (by rfl) rfl (znK (zcF rfl)) (zcC (zac ((zao (by rfl)).trans (zaj (fun hD=>hn (hcl 4 _ rfl (hcl 16 _ rfl hD 4 dc) 3 dc)) zap)) (zcC (zac (zao (by rfl)) rfl))))
    ·
     intro D b hn hd hcl
     obtain ⟨b11,hd16⟩:=b
     refine zaG (zcC (zac (zaj (fun hD=>hn (hcl 16 _ rfl hD 4 dc)) zap) (zfN rfl))) ?_
     refine zaq (k:=1) zhi rfl dc (zaa (m:=3) rfl rfl (hd 3 dc)) rfl rfl ?_
     exact zaM (b:=(b11,hd16)) (b11,hd16) 4 (by rfl) (by rfl) rfl (znK (zcF rfl)) (zcC (zac ((zao (by rfl)).trans (zaj (fun hD=>hn (hcl 16 _ rfl hD 4 dc)) zap)) (zcC (zac (zao (by rfl)) rfl))))
    ·
     intro D b hn hd hcl
     obtain ⟨b11,hd16⟩:=b
     refine zaG (zcC (zac (zaj (fun hD=>hn (hcl 6 _ rfl (hcl 7 _ rfl (hcl 8 _ rfl (hcl 10 _ rfl (hcl 11 _ rfl (hcl 14 _ rfl (hcl 15 _ rfl (hcl 16 _ rfl hD 15 dc) 14 dc) 11 dc) 10 dc) 8 dc) 7 dc) 6 dc) 5 dc)) zap) (zcC (zac (zaj (fun hD=>hn (hcl 6 _ rfl (hcl 7 _ rfl (hcl 8 _ rfl (hcl 10 _ rfl (hcl 11 _ rfl (hcl 14 _ rfl (hcl 15 _ rfl hD 14 dc) 11 dc) 10 dc) 8 dc) 7 dc) 6 dc) 5 dc)) zap) rfl)))) ?_
     refine zaq (k:=0) zhw rfl dc (zba (by rfl) rfl) rfl rfl ?_
     exact zaM (b:=(b11,hd16)) (b11,hd16) 5 (by rfl) (by rfl) rfl (znK (zcF rfl)) (zcC (zac ((zao (by rfl)).trans (zaj (fun hD=>hn (hcl 6 _ rfl (hcl 7 _ rfl (hcl 8 _ rfl (hcl 10 _ rfl (hcl 11 _ rfl (hcl 14 _ rfl (hcl 15 _ rfl (hcl 16 _ rfl hD 15 dc) 14 dc) 11 dc) 10 dc) 8 dc) 7 dc) 6 dc) 5 dc)) zap)) (zcC (zac ((zao (by rfl)).trans (zaj (fun hD=>hn (hcl 6 _ rfl (hcl 7 _ rfl (hcl 8 _ rfl (hcl 10 _ rfl (hcl 11 _ rfl (hcl 14 _ rfl (hcl 15 _ rfl hD 14 dc) 11 dc) 10 dc) 8 dc) 7 dc) 6 dc) 5 dc)) zap)) rfl))))
    ·
     intro D b hn hd hcl
     obtain ⟨b11,hd16⟩:=b
     refine zaG (zcC (zac (zaj (fun hD=>hn (hcl 7 _ rfl (hcl 8 _ rfl (hcl 10 _ rfl (hcl 11 _ rfl (hcl 14 _ rfl (hcl 15 _ rfl (hcl 16 _ rfl hD 15 dc) 14 dc) 11 dc) 10 dc) 8 dc) 7 dc) 6 dc)) zap) (zcC (zac (zaj (fun hD=>hn (hcl 7 _ rfl (hcl 8 _ rfl (hcl 10 _ rfl (hcl 11 _ rfl (hcl 14 _ rfl (hcl 15 _ rfl hD 14 dc) 11 dc) 10 dc) 8 dc) 7 dc) 6 dc)) zap) rfl)))) ?_
     refine zaA rfl dc (zaa (m:=5) rfl rfl (hd 5 dc)) ?_
     exact zaM (b:=(b11,hd16)) (b11,hd16) 6 (by rfl) (by rfl) rfl (znK (zcF rfl)) (zcC (zac ((zao (by rfl)).trans (zaj (fun hD=>hn (hcl 7 _ rfl (hcl 8 _ rfl (hcl 10 _ rfl (hcl 11 _ rfl (hcl 14 _ rfl (hcl 15 _ rfl (hcl 16 _ rfl hD 15 dc) 14 dc) 11 dc) 10 dc) 8 dc) 7 dc) 6 dc)) zap)) (zcC (zac ((zao (by rfl)).trans (zaj (fun hD=>hn (hcl 7 _ rfl (hcl 8 _ rfl (hcl 10 _ rfl (hcl 11 _ rfl (hcl 14 _ rfl (hcl 15 _ rfl hD 14 dc) 11 dc) 10 dc) 8 dc) 7 dc) 6 dc)) zap)) rfl))))
    ·
     intro D b hn hd hcl
     obtain ⟨b11,hd16⟩:=b
     refine zaG (zcC (zac (zaj (fun hD=>hn (hcl 8 _ rfl (hcl 10 _ rfl (hcl 11 _ rfl (hcl 14 _ rfl (hcl 15 _ rfl (hcl 16 _ rfl hD 15 dc) 14 dc) 11 dc) 10 dc) 8 dc) 7 dc)) zap) (zcC (zac (zaj (fun hD=>hn (hcl 8 _ rfl (hcl 10 _ rfl (hcl 11 _ rfl (hcl 14 _ rfl (hcl 15 _ rfl hD 14 dc) 11 dc) 10 dc) 8 dc) 7 dc)) zap) rfl)))) ?_
     refine zab ziY rfl dc (zaa (m:=6) rfl rfl (hd 6 dc)) (show _=2 from rfl) ?_
     exact zaM (b:=(b11,hd16)) (b11,hd16) 7 (by rfl) (by rfl) rfl (znK (zcF rfl)) (zcC (zac ((zao (by rfl)).trans (zaj (fun hD=>hn (hcl 8 _ rfl (hcl 10 _ rfl (hcl 11 _ rfl (hcl 14 _ rfl (hcl 15 _ rfl (hcl 16 _ rfl hD 15 dc) 14 dc) 11 dc) 10 dc) 8 dc) 7 dc)) zap)) (zcC (zac ((zao (by rfl)).trans (zaj (fun hD=>hn (hcl 8 _ rfl (hcl 10 _ rfl (hcl 11 _ rfl (hcl 14 _ rfl (hcl 15 _ rfl hD 14 dc) 11 dc) 10 dc) 8 dc) 7 dc)) zap)) rfl))))
    ·
     intro D b hn hd hcl
     obtain ⟨b11,hd16⟩:=b
     refine zaG (zcC (zac (zaj (fun hD=>hn (hcl 10 _ rfl (hcl 11 _ rfl (hcl 14 _ rfl (hcl 15 _ rfl (hcl 16 _ rfl hD 15 dc) 14 dc) 11 dc) 10 dc) 8 dc)) zap) (zcC (zac (zaj (fun hD=>hn (hcl 10 _ rfl (hcl 11 _ rfl (hcl 14 _ rfl (hcl 15 _ rfl hD 14 dc) 11 dc) 10 dc) 8 dc)) zap) rfl)))) ?_
     refine zaq (k:=1) zhi rfl dc (zaa (m:=7) rfl rfl (hd 7 dc)) rfl rfl ?_
     exact zaM (b:=(b11,hd16)) (b11,hd16) 8 (by rfl) (by rfl) rfl (znK (zcF rfl)) (zcC (zac ((zao (by rfl)).trans (zaj (fun hD=>hn (hcl 10 _ rfl (hcl 11 _ rfl (hcl 14 _ rfl (hcl 15 _ rfl (hcl 16 _ rfl hD 15 dc) 14 dc) 11 dc) 10 dc) 8 dc)) zap)) (zcC (zac ((zao (by rfl)).trans (zaj (fun hD=>hn (hcl 10 _ rfl (hcl 11 _ rfl (hcl 14 _ rfl (hcl 15 _ rfl hD 14 dc) 11 dc) 10 dc) 8 dc)) zap)) rfl))))
    ·
     intro D b hn hd hcl
     obtain ⟨b11,hd16⟩:=b
     refine zaG (zcC (zac (zaj (fun hD=>hn (hcl 10 _ rfl (hcl 11 _ rfl (hcl 14 _ rfl (hcl 15 _ rfl (hcl 16 _ rfl hD 15 dc) 14 dc) 11 dc) 10 dc) 9 dc)) zap) (zcC (zac (zaj (fun hD=>hn (hcl 10 _ rfl (hcl 11 _ rfl (hcl 14 _ rfl (hcl 15 _ rfl hD 14 dc) 11 dc) 10 dc) 9 dc)) zap) rfl)))) ?_
     refine ze4 rfl dc (zba (by rfl) rfl) ?_
     exact zaM (b:=(b11,hd16)) (b11,hd16) 9 (by rfl) (by rfl) rfl (znK (zcF rfl)) (zcC (zac ((zao (by rfl)).trans (zaj (fun hD=>hn (hcl 10 _ rfl (hcl 11 _ rfl (hcl 14 _ rfl (hcl 15 _ rfl (hcl 16 _ rfl hD 15 dc) 14 dc) 11 dc) 10 dc) 9 dc)) zap)) (zcC (zac ((zao (by rfl)).trans (zaj (fun hD=>hn (hcl 10 _ rfl (hcl 11 _ rfl (hcl 14 _ rfl (hcl 15 _ rfl hD 14 dc) 11 dc) 10 dc) 9 dc)) zap)) rfl))))
    ·
     intro D b hn hd hcl
     obtain ⟨b11,hd16⟩:=b
     refine zaG (zcC (zac (zaj (fun hD=>hn (hcl 11 _ rfl (hcl 14 _ rfl (hcl 15 _ rfl (hcl 16 _ rfl hD 15 dc) 14 dc) 11 dc) 10 dc)) zap) (zcC (zac (zaj (fun hD=>hn (hcl 11 _ rfl (hcl 14 _ rfl (hcl 15 _ rfl hD 14 dc) 11 dc) 10 dc)) zap) rfl)))) ?_
     refine zan (k:=3) hq3 Tryz.underlying49 zdb rfl dc (zaa (m:=8) rfl rfl (hd 8 dc)) (zaa (m:=9) rfl rfl (hd 9 dc)) rfl rfl ?_
     exact zaM (b:=(b11,hd16)) (b11,hd16) 10 (by rfl) (by rfl) rfl (znK (zcF rfl)) (zcC (zac ((zao (by rfl)).trans (zaj (fun hD=>hn (hcl 11 _ rfl (hcl 14 _ rfl (hcl 15 _ rfl (hcl 16 _ rfl hD 15 dc) 14 dc) 11 dc) 10 dc)) zap)) (zcC (zac ((zao (by rfl)).trans (zaj (fun hD=>hn (hcl 11 _ rfl (hcl 14 _ rfl (hcl 15 _ rfl hD 14 dc) 11 dc) 10 dc)) zap)) rfl))))
    ·
     intro D b hn hd hcl
     obtain ⟨b11,hd16⟩:=b
     refine zaG (zcC (zac (zaj (fun hD=>hn (hcl 14 _ rfl (hcl 15 _ rfl (hcl 16 _ rfl hD 15 dc) 14 dc) 11 dc)) zap) (zcC (zac (zaj (fun hD=>hn (hcl 14 _ rfl (hcl 15 _ rfl hD 14 dc) 11 dc)) zap) rfl)))) ?_
     refine zaB (i:=(((t10++[x1]).length:Int) - 1:Int).toNat) (j:=0) (k:=3) (q:=q1) zbp za6 rfl dc (zaa (m:=10) rfl rfl (hd 10 dc)) rfl (zaC hq3) rfl dc rfl ?_
     exact zaM (b:=(b11,hd16)) (b11,hd16) 11 (by rfl) (by rfl) rfl (znK (zcF rfl)) (zcC (zac ((zao (by rfl)).trans (zaj (fun hD=>hn (hcl 14 _ rfl (hcl 15 _ rfl (hcl 16 _ rfl hD 15 dc) 14 dc) 11 dc)) zap)) (zcC (zac ((zao (by rfl)).trans (zaj (fun hD=>hn (hcl 14 _ rfl (hcl 15 _ rfl hD 14 dc) 11 dc)) zap)) rfl))))
    ·
     intro D b hn hd hcl
     obtain ⟨b11,hd16⟩:=b
     refine zaG (zcC (zac (zaj (fun hD=>hn (hcl 13 _ rfl (hcl 14 _ rfl (hcl 15 _ rfl (hcl 16 _ rfl hD 15 dc) 14 dc) 13 dc) 12 dc)) zap) (zcC (zac (zaj (fun hD=>hn (hcl 13 _ rfl (hcl 14 _ rfl (hcl 15 _ rfl hD 14 dc) 13 dc) 12 dc)) zap) rfl)))) ?_
     refine zab zgr rfl dc (zba (by rfl) rfl) (show _=2 from rfl) ?_
     exact zaM (b:=(b11,hd16)) (b11,hd16) 12 (by rfl) (by rfl) rfl (znK (zcF rfl)) (zcC (zac ((zao (by rfl)).trans (zaj (fun hD=>hn (hcl 13 _ rfl (hcl 14 _ rfl (hcl 15 _ rfl (hcl 16 _ rfl hD 15 dc) 14 dc) 13 dc) 12 dc)) zap)) (zcC (zac ((zao (by rfl)).trans (zaj (fun hD=>hn (hcl 13 _ rfl (hcl 14 _ rfl (hcl 15 _ rfl hD 14 dc) 13 dc) 12 dc)) zap)) rfl))))
    ·
     intro D b hn hd hcl
     obtain ⟨b11,hd16⟩:=b
     refine zaG (zcC (zac (zaj (fun hD=>hn (hcl 14 _ rfl (hcl 15 _ rfl (hcl 16 _ rfl hD 15 dc) 14 dc) 13 dc)) zap) (zcC (zac (zaj (fun hD=>hn (hcl 14 _ rfl (hcl 15 _ rfl hD 14 dc) 13 dc)) zap) rfl)))) ?_
     refine zaq (k:=5) zbp rfl dc (zaa (m:=12) rfl rfl (hd 12 dc)) rfl rfl ?_
     exact zaM (b:=(b11,hd16)) (b11,hd16) 13 (by rfl) (by rfl) rfl (znK (zcF rfl)) (zcC (zac ((zao (by rfl)).trans (zaj (fun hD=>hn (hcl 14 _ rfl (hcl 15 _ rfl (hcl 16 _ rfl hD 15 dc) 14 dc) 13 dc)) zap)) (zcC (zac ((zao (by rfl)).trans (zaj (fun hD=>hn (hcl 14 _ rfl (hcl 15 _ rfl hD 14 dc) 13 dc)) zap)) rfl))))
    ·
     intro D b hn hd hcl
     obtain ⟨b11,hd16⟩:=b
     refine zaG (zcC (zac (zaj (fun hD=>hn (hcl 15 _ rfl (hcl 16 _ rfl hD 15 dc) 14 dc)) zap) (zcC (zac (zaj (fun hD=>hn (hcl 15 _ rfl hD 14 dc)) zap) rfl)))) ?_
     refine zbR rfl dc (zaa (m:=11) rfl rfl (hd 11 dc)) (zaa (m:=13) rfl rfl (hd 13 dc)) (zaP (r:=q1+x1.Columns) (IntWalk.i64_in _ hg5)) ?_
     exact zaM (b:=(b11,hd16)) (b11,hd16) 14 (by rfl) (by rfl) rfl (znK (zcF rfl)) (zcC (zac ((zao (by rfl)).trans (zaj (fun hD=>hn (hcl 15 _ rfl (hcl 16 _ rfl hD 15 dc) 14 dc)) zap)) (zcC (zac ((zao (by rfl)).trans (zaj (fun hD=>hn (hcl 15 _ rfl hD 14 dc)) zap)) rfl))))
    ·
     intro D b hn hd hcl
     obtain ⟨zb0,hd16⟩:=b
     refine zaG (zcC (zac (zaj (fun hD=>hn (hcl 16 _ rfl hD 15 dc)) zap) (zcC (zac (zaj hn zap) rfl)))) ?_
     refine zaT (cs:=[zI (q1+x1.Columns)]) (te:=3) (ps:=[(0,.tmp 59)]) rfl dc (evP.cons (zaa (m:=14) rfl rfl (hd 14 dc)) evP.nil) (fun _=>by kernel_rfl) (fun b11 => ?_)
     refine zc2 7 rfl rfl ?_
     exact zaM (b:=(zb0,hd16)) (b11,hd16) 15 (by rfl) (by rfl) rfl (zvt (zcF (zar (fun hD=>absurd hD hn) (zar (fun _=>rfl) rfl)))) (zcC (zac ((zao (by rfl)).trans (zaj (fun hD=>hn (hcl 16 _ rfl hD 15 dc)) zap)) (zcC (zac (zaI (Or.inr rfl) rfl) rfl))))
    ·
     intro D b hn hd hcl
     obtain ⟨b11,zb1⟩:=b
     refine zaG (zcC (zac (zaj hn zap) (zcC (zac (zaI (hd 15 dc) rfl) rfl)))) ?_
     refine za4 (k:=3) (k2:=7) (ys:=[q1+x1.Columns]) Tryz.underlying49 zsz za6 zg8 rfl dc (zaa (m:=4) rfl rfl (hd 4 dc)) (zaa (m:=15) rfl rfl (hd 15 dc)) rfl rfl rfl rfl hg6 (fun v2 => ?_)
     refine zbJ (k:=3) rfl (fun hd16 he2 => ?_)
     subst he2
     exact zaM (b:=(b11,zb1)) (b11,hd16) 16 (by rfl) (by rfl) rfl (znH (zcF (zar (fun hD=>absurd hD hn) rfl))) (zcC (zac (zaI (Or.inr rfl) rfl) (zcC (zac ((zao (by rfl)).trans (zaI (hd 15 dc) rfl)) rfl))))
    intro D b hall
    obtain ⟨b11,hd16⟩:=b
    refine zaG (zcC (zac (zaI (hall 16 dc) rfl) (zcC (zac (zaI (hall 15 dc) rfl) rfl)))) (zaA rfl dc rfl (zab ziY rfl dc rfl (show _=2 from rfl) ?_))
    refine zaS (k:=1) (l':=[.string s1,hd15.v,hd16.v,hd12.v,zI (max 1 (l1.Width - indent1)),zI (l1.Width - l1.Turn)]) zq3 rfl rfl rfl rfl rfl (fun _ _=>rfl) rfl ?_
    refine zyH (zyR 1 rfl ?_)
    obtain ⟨hg7,h⟩:=zbl h
    refine zaU rfl (zaP (r:=(((t10++[x1]).length:Int) - 1)+1) (IntWalk.i64_in _ hg7)) (zyR 1 rfl (zyN (cut (zyG (zaq (k:=0) zhw rfl dc rfl rfl rfl (zyR 1 rfl ?_))))))
    obtain ⟨r2,hq4,h⟩:=zbj h
    refine zcL (v:=.bool r2) (vs:=[zP b6,zI (((t10++[x1]).length:Int) - 1)]) (Rd.nil:Rd _ _ []) rfl dc rfl rfl rfl zr9 (zeM (bt1:=b6) (t1:=(⟨s1,t10++[x1],t11++[q1+x1.Columns],t12,max 1 (l1.Width - indent1),l1.Width - l1.Turn⟩:Gpage_turner)) (t1_h0:=hd15) (t1_h1:=hd16) (t1_h2:=hd12) hq4) (.own (zad [1] (by kernel_rfl) rfl) (fun _ _ h=>sepL.one1.1 h) (.own (zad [2] (by kernel_rfl) rfl) (fun _ _ h=>sepL.one1.1 h) (.own (zad [3] (by kernel_rfl) rfl) (fun _ _ h=>sepL.one1.1 h) (.own (zad [4] (by kernel_rfl) rfl) (fun _ _ h=>sepL.one1.1 h) .nil)))) ?_
    refine zyN ?_
    refine zyB rfl h (fun h => ?_) (fun h => ?_)
    ·
     refine zaw (zaq (k:=0) zhw rfl dc rfl rfl rfl (zaA rfl dc rfl (zab ziX rfl dc rfl (show _=3 from rfl) (zaq (k:=1) zhi rfl dc rfl rfl rfl (zyR 1 rfl ?_)))))
     obtain ⟨q2,hq5,h⟩:=zbj h
     refine zan (k:=4) hq5 Tryz.underlying49 zdb rfl dc rfl rfl rfl rfl (zaB (i:=(((t10++[x1]).length:Int) - 1:Int).toNat) (j:=0) (k:=4) (q:=q2) zbp za6 rfl dc rfl rfl (zaC hq5) rfl dc rfl (zyR 1 rfl (zaO ?_)))
     exact zam (t11++[q1+x1.Columns],q2,hd15,hd16) h rfl (za1 rfl) (zad [0,1,2,3,4] kr rfl)
    refine zat ?_
    exact zam (t11++[q1+x1.Columns],(((t10++[x1]).length:Int) - 1)+1,hd15,hd16) h rfl (za1 rfl) (zad [0,1,2,3,4] kr rfl)
   rintro ⟨t13,end1,hd13,hd14⟩ h
   rw [hj2] at h
   obtain ⟨hg8,h⟩:=zbl h
   refine zgx 1 ?_
   refine let vals3:(Nat×Hd)→List (Nat×Nat×Value):=fun b=>[(0,76,zP b6),(1,77,zP b6),(2,78,zP b6),(3,79,.pointer (some ⟨b6,3,none⟩)),(4,80,hd12.v),(5,81,zI end1),(6,82,.slice (some ⟨b.1,0,none⟩) 1 1),(7,83,b.2.v)]; let LL3:(Nat→Prop)→(Nat×Hd)→List Asn:=fun D b=>[cells b7 [zP b6] 179,cells b6 [.string s1,hd13.v,hd14.v,hd12.v,zI (max 1 (l1.Width - indent1)),zI (l1.Width - l1.Turn)] 203,zv1 hd13.v (t10++[x1]),zv0 hd14.v t13,eD D (zv0 hd12.v t12) [(7,zv0 b.2.v (t12++[end1]))],eD D emp [(6,cells b.1 [zI end1] 3)]]; ?_
   refine zdY (β:=Nat×Hd) 8 ((0:Nat),Hd.nil) vals3 LL3 mixed kr kr dc (fun _=>rfl) (zfN (zac zbY (zac zbY rfl))) (zas ?_ (zas ?_ (zas ?_ (zas ?_ (zas ?_ (zas ?_ (zas ?_ (zas ?_ DrawG.nil)))))))) ?_
   ·
    intro D b hn hd hcl
    obtain ⟨b12,hd17⟩:=b
    refine zaG (zuc rfl) (zaq (k:=0) zhw rfl dc (zba (by rfl) rfl) rfl rfl ?_)
    exact zaM (b:=(b12,hd17)) (b12,hd17) 0 (by rfl) (by rfl) rfl (zjm rfl) (zfN (zac (zao (by rfl)) (zac (zao (by rfl)) rfl)))
   ·
    intro D b hn hd hcl
    obtain ⟨b12,hd17⟩:=b
    refine zaG (zfN (zac (zaj (fun hD=>hn (hcl 2 _ rfl (hcl 3 _ rfl (hcl 4 _ rfl (hcl 7 _ rfl hD 4 dc) 3 dc) 2 dc) 1 dc)) zap) rfl)) ?_
    refine zaq (k:=0) zhw rfl dc (zba (by rfl) rfl) rfl rfl ?_
    exact zaM (b:=(b12,hd17)) (b12,hd17) 1 (by rfl) (by rfl) rfl (zjm rfl) (zfN (zac ((zao (by rfl)).trans (zaj (fun hD=>hn (hcl 2 _ rfl (hcl 3 _ rfl (hcl 4 _ rfl (hcl 7 _ rfl hD 4 dc) 3 dc) 2 dc) 1 dc)) zap)) (zac (zao (by rfl)) rfl)))
   ·
    intro D b hn hd hcl
    obtain ⟨b12,hd17⟩:=b
    refine zaG (zfN (zac (zaj (fun hD=>hn (hcl 3 _ rfl (hcl 4 _ rfl (hcl 7 _ rfl hD 4 dc) 3 dc) 2 dc)) zap) rfl)) ?_
    refine zaA rfl dc (zaa (m:=1) rfl rfl (hd 1 dc)) ?_
    exact zaM (b:=(b12,hd17)) (b12,hd17) 2 (by rfl) (by rfl) rfl (zjm rfl) (zfN (zac ((zao (by rfl)).trans (zaj (fun hD=>hn (hcl 3 _ rfl (hcl 4 _ rfl (hcl 7 _ rfl hD 4 dc) 3 dc) 2 dc)) zap)) (zac (zao (by rfl)) rfl)))
   ·
    intro D b hn hd hcl
    obtain ⟨b12,hd17⟩:=b
    refine zaG (zfN (zac (zaj (fun hD=>hn (hcl 4 _ rfl (hcl 7 _ rfl hD 4 dc) 3 dc)) zap) rfl)) ?_
    refine zab ziX rfl dc (zaa (m:=2) rfl rfl (hd 2 dc)) (show _=3 from rfl) ?_
    exact zaM (b:=(b12,hd17)) (b12,hd17) 3 (by rfl) (by rfl) rfl (zjm rfl) (zfN (zac ((zao (by rfl)).trans (zaj (fun hD=>hn (hcl 4 _ rfl (hcl 7 _ rfl hD 4 dc) 3 dc)) zap)) (zac (zao (by rfl)) rfl)))
   ·
    intro D b hn hd hcl
    obtain ⟨b12,hd17⟩:=b
    refine zaG (zfN (zac (zaj (fun hD=>hn (hcl 7 _ rfl hD 4 dc)) zap) rfl)) ?_
    refine zaq (k:=1) zhi rfl dc (zaa (m:=3) rfl rfl (hd 3 dc)) rfl rfl ?_
    exact zaM (b:=(b12,hd17)) (b12,hd17) 4 (by rfl) (by rfl) rfl (zjm rfl) (zfN (zac ((zao (by rfl)).trans (zaj (fun hD=>hn (hcl 7 _ rfl hD 4 dc)) zap)) (zac (zao (by rfl)) rfl)))
   ·
    intro D b hn hd hcl
    obtain ⟨b12,hd17⟩:=b
    refine zaG (zfN (zac (zaj (fun hD=>hn (hcl 6 _ rfl (hcl 7 _ rfl hD 6 dc) 5 dc)) zap) (zac (zaj (fun hD=>hn (hcl 6 _ rfl hD 5 dc)) zap) rfl))) ?_
    refine ze4 rfl dc (zba (by rfl) rfl) ?_
    exact zaM (b:=(b12,hd17)) (b12,hd17) 5 (by rfl) (by rfl) rfl (zjm rfl) (zfN (zac ((zao (by rfl)).trans (zaj (fun hD=>hn (hcl 6 _ rfl (hcl 7 _ rfl hD 6 dc) 5 dc)) zap)) (zac ((zao (by rfl)).trans (zaj (fun hD=>hn (hcl 6 _ rfl hD 5 dc)) zap)) rfl)))
   ·
    intro D b hn hd hcl
    obtain ⟨zb0,hd17⟩:=b
    refine zaG (zfN (zac (zaj (fun hD=>hn (hcl 7 _ rfl hD 6 dc)) zap) (zac (zaj hn zap) rfl))) ?_
    refine zaT (cs:=[zI end1]) (te:=3) (ps:=[(0,.tmp 81)]) rfl dc (evP.cons (zaa (m:=5) rfl rfl (hd 5 dc)) evP.nil) (fun _=>by kernel_rfl) (fun b12 => ?_)
    refine zc2 5 rfl rfl ?_
    exact zaM (b:=(zb0,hd17)) (b12,hd17) 6 (by rfl) (by rfl) rfl (zue (zar (fun hD=>absurd hD hn) (zar (fun _=>rfl) rfl))) (zfN (zac ((zao (by rfl)).trans (zaj (fun hD=>hn (hcl 7 _ rfl hD 6 dc)) zap)) (zac (zaI (Or.inr rfl) rfl) rfl)))
   ·
    intro D b hn hd hcl
    obtain ⟨b12,zb1⟩:=b
    refine zaG (zfN (zac (zaj hn zap) (zac (zaI (hd 6 dc) rfl) rfl))) ?_
    refine za4 (k:=4) (k2:=5) (ys:=[end1]) Tryz.underlying49 zsz za6 zg8 rfl dc (zaa (m:=4) rfl rfl (hd 4 dc)) (zaa (m:=6) rfl rfl (hd 6 dc)) rfl rfl rfl rfl hg8 (fun v3 => ?_)
    refine zbJ (k:=4) rfl (fun hd17 he3 => ?_)
    subst he3
    exact zaM (b:=(b12,zb1)) (b12,hd17) 7 (by rfl) (by rfl) rfl (zj3 (zar (fun hD=>absurd hD hn) rfl)) (zfN (zac (zaI (Or.inr rfl) rfl) (zac ((zao (by rfl)).trans (zaI (hd 6 dc) rfl)) rfl)))
   intro D b hall
   obtain ⟨b12,hd17⟩:=b
   refine zaG (zfN (zac (zaI (hall 7 dc) rfl) (zac (zaI (hall 6 dc) rfl) rfl))) (zaA rfl dc rfl (zab ziX rfl dc rfl (show _=3 from rfl) ?_))
   refine zaS (k:=1) (l':=[.string s1,hd13.v,hd14.v,hd17.v,zI (max 1 (l1.Width - indent1)),zI (l1.Width - l1.Turn)]) zq3 rfl rfl rfl rfl rfl (fun _ _=>rfl) rfl ?_
   refine zaO (zag ?_)
   exact zeY (t10++[x1],t13,t12++[end1],hd13,hd14,hd17) (fun post2 e2=>by have e9:=zec hxs1 e2; subst e9; subst hag1; exact h) (zad [0,1,2,3,4] kr rfl)
  ·
   rintro dm1 ⟨t10,t11,t12,hd10,hd11,hd12⟩ hinv
   have h:dn1 t10 t11 t12=some r:=hinv [] (List.append_nil _).symm
   rw [hdn1] at h
   refine zgw (k:=13) (j:=0) rfl rfl dc ?_
   refine zag ?_
   exact zam (t10,t11,t12,b7,b6,hd10,hd11,hd12,dm1::([]:List Nat)) h rfl (za1 rfl) (zad [8,9,10,11,12,0] kr rfl)
  rintro dm1 c pre x1 post g hxs hX
  exact (show False from hX).elim
 rintro ⟨t1,t2,t3,b1,b2,hd1,hd2,hd3,ds1⟩ h
 rw [hj1] at h
 refine zyG (zaq (k:=0) zhw rfl dc rfl rfl rfl (zyR 1 rfl (zyN (zaH ?_))))
 cases h
 exact zfF (rs:=[.tmp 6]) ds1 (b2,hd1,hd2,hd3) (.inl rfl) (zb4 (k:=5) rfl) Tryz.results95 (.cons (.tmp rfl) .nil) rfl (zad [1,2,3,4] kr rfl)
def zdr (j1:Int→(List ByteArray)→Option ((List ByteArray)×Int)) (r1:Gpage_turner) (r2:((List Int)×Int)) (ag1:(List ByteArray)→Int→Int→Option ((List ByteArray)×Int)) (out4:List ByteArray) (from3:Int) (x3:Int):Option ((List ByteArray)×Int) :=
zax (decide ((x3:Int)<(r2.1.length:Int))) (
zak (zbF r2.1 x3) fun (q1:Int) =>
zak (zdK r1 from3 q1) fun (r3:ByteArray) =>
grd (out4.length+1≤2147483648) <|
grd (I64 (x3+1)) <|
ag1 (out4++[r3]) q1 (x3+1)
) (
j1 r2.2 out4
)
def ze2 (s1:ByteArray) (indent1:Int) (l1:Gapi_Layout):Option ((List ByteArray)×Int) :=
zbd (fun (j1:Int→(List ByteArray)→Option ((List ByteArray)×Int)) =>
zak (zeh s1 indent1 l1) fun (r1:Gpage_turner) =>
zak (zdL r1) fun (r2:((List Int)×Int)) =>
zaF (fun _ _ _=>none) (zdr j1 r1 r2) zbV ([]:List ByteArray) 0 0
) (fun (cost1:Int) (out1:List ByteArray) =>
some (out1,cost1)
)
theorem zjV {s1:ByteArray} {indent1:Int} {l1:Gapi_Layout} {r:((List ByteArray)×Int)} (h:ze2 s1 indent1 l1=some r):Fn Tryz.prog 67 [.string s1,zI indent1,.agg (zr0 l1).toArray] [] (fun v0:Value=>.tuple #[v0,zI r.2]) (fun v0=>[zv5 v0 r.1]):=by
 unfold ze2 at h
 refine Fn.intro Tryz.func67 rfl Tryz.ntmps67 (by simp) ?_
 intro w0 K
 obtain ⟨j1,hj1,h⟩:=zbC h
 refine zaX (β:=Int×(List ByteArray)×Hd) 5 rfl (fun b=>j1 b.1 b.2.1=some r) (fun b=>[]) (fun b=>[(10,zI b.1),(11,b.2.2.v)]) (fun b=>[zv5 b.2.2.v b.2.1]) (fun cut => ?_) ?_
 ·
  refine zyG ?_
  refine zdW rfl dc rfl (fun b1 => ?_)
  refine zyR 2 rfl (zyH (zyR 2 rfl (za8 (k:=0) (cs:=(zr0 l1)) ziB rfl dc rfl rfl rfl rfl ?_)))
  obtain ⟨r1,hq1,h⟩:=zbj h
  refine zdG (vs:=[.string s1,zI indent1,.agg (zr0 l1).toArray]) rfl dc rfl rfl rfl zxJ (zju (l1:=l1) hq1) Splits.nil ?_
  rintro ⟨b2,hd2,hd3,hd4⟩
  refine zdu (L':=[cells b1 (zr0 l1) 23,cells b2 [.string r1.s,hd2.v,hd3.v,hd4.v,zI r1.first,zI r1.rest] 203,zv1 hd2.v r1.cells,zv0 hd3.v r1.wide,zv0 hd4.v r1.ends]) (zad [0,1,2,3,4] kr rfl) (zyR 1 rfl (zyH (zyR 1 rfl ?_)))
  obtain ⟨r2,hq2,h⟩:=zbj h
  refine zhf (vs:=[zP b2]) (Rd.nil:Rd _ _ []) rfl dc rfl rfl rfl zxI (zik (bt1:=b2) (t1:=r1) (t1_h0:=hd2) (t1_h1:=hd3) (t1_h2:=hd4) hq2) Splits.nil (.own (zad [1] (by kernel_rfl) rfl) (fun _ _ h=>sepL.one1.1 h) (.own (zad [2] (by kernel_rfl) rfl) (fun _ _ h=>sepL.one1.1 h) (.own (zad [3] (by kernel_rfl) rfl) (fun _ _ h=>sepL.one1.1 h) (.own (zad [4] (by kernel_rfl) rfl) (fun _ _ h=>sepL.one1.1 h) .nil)))) ?_
  rintro v1
  refine zbJ (k:=5) rfl (fun hd5 he1 => ?_)
  subst he1
  refine zyR 1 rfl (zaR rfl dc rfl rfl (zaR rfl dc rfl rfl (zyR 2 rfl (zyH (zyR 1 rfl (zyH ?_))))))
  refine zyR 1 rfl (zyN (cut (zyG (zyR 1 rfl (zbv (k:=5) rfl dc rfl rfl Tryz.underlying49 (zyR 1 rfl (zyN (zaD (zda (enc:=zqJ) (e:=9) (size:=1) ?_)))))))))
  refine zbn (β:=Nat×(List ByteArray)×Int×Int×Hd) (fun b=>zaF (fun _ _ _=>none) (zdr j1 r1 r2) b.1 b.2.1 b.2.2.1 b.2.2.2.1=some r) (fun b=>[]) (fun b=>[(8,zP b2),(10,zI r2.2),(11,b.2.2.2.2.v),(12,zI b.2.2.1),(24,hd5.v),(25,zI (r2.1.length:Int)),(26,zI b.2.2.2.1)]) (fun b=>[cells b2 [.string r1.s,hd2.v,hd3.v,hd4.v,zI r1.first,zI r1.rest] 203,zv1 hd2.v r1.cells,zv0 hd3.v r1.wide,zv0 hd4.v r1.ends,zv5 b.2.2.2.2.v b.2.1,zv0 hd5.v r2.1]) (fun b=>b.1) (zbV,([]:List ByteArray),0,0,Hd.nil) h rfl (za1 rfl) (zad [1,2,3,4,6,5] kr rfl) ?_
  rintro ⟨n1,out4,from3,x3,hd8⟩ h
  cases n1 with
  | zero=>exact zdD h
  | succ n1 =>
   obtain ⟨ag1,hag1⟩:∃ ag,ag=zaF (fun _ _ _=>none) (zdr j1 r1 r2) n1:=⟨_,rfl⟩
   have h:zdr j1 r1 r2 ag1 out4 from3 x3=some r:=by rw [hag1]; exact h
   unfold zdr at h
   refine zyG (zaU rfl zbf (zyN (zaK ?_)))
   refine zyB rfl h (fun h => ?_) (fun h => ?_)
   ·
    refine zat (zaL (zaK (zaD (zyG ?_))))
    obtain ⟨q1,hq3,h⟩:=zbj h
    refine zan (k:=5) hq3 Tryz.underlying49 zdb rfl dc rfl rfl rfl rfl (zaB (i:=(x3:Int).toNat) (j:=0) (k:=5) (q:=q1) zbp za6 rfl dc rfl rfl (zaC hq3) rfl dc rfl (zyR 1 rfl (zyH (zyR 4 rfl ?_))))
    obtain ⟨r3,hq4,h⟩:=zbj h
    refine zcL (v:=.string r3) (vs:=[zP b2,zI from3,zI q1]) (Rd.nil:Rd _ _ []) rfl dc rfl rfl rfl zxH (zij (bt1:=b2) (t1:=r1) (t1_h0:=hd2) (t1_h1:=hd3) (t1_h2:=hd4) hq4) (.own (zad [0] (by kernel_rfl) rfl) (fun _ _ h=>sepL.one1.1 h) (.own (zad [1] (by kernel_rfl) rfl) (fun _ _ h=>sepL.one1.1 h) (.own (zad [2] (by kernel_rfl) rfl) (fun _ _ h=>sepL.one1.1 h) (.own (zad [3] (by kernel_rfl) rfl) (fun _ _ h=>sepL.one1.1 h) .nil)))) ?_
    refine zaT (cs:=[.string r3]) (te:=9) (ps:=[(0,.tmp 34)]) rfl dc rfl (fun _=>by kernel_rfl) (fun b3 => ?_)
    obtain ⟨hg1,h⟩:=zbl h
    refine za4 (k:=4) (k2:=6) (ys:=[r3]) Tryz.underlying70 zyk zg7 znq rfl dc rfl rfl rfl rfl rfl rfl hg1 (fun v2 => ?_)
    refine zbJ (k:=4) rfl (fun hd9 he2 => ?_)
    subst he2
    refine zyR 1 rfl (zyN (zaw (zyR 2 rfl (zaO (zag (zaL (zaw ?_)))))))
    obtain ⟨hg2,h⟩:=zbl h
    refine zaU rfl (zaP (r:=x3+1) (IntWalk.i64_in _ hg2)) (zyR 1 rfl (zaO ?_))
    subst hag1
    exact za3 (n1,out4++[r3],q1,x3+1,hd9) h (Nat.lt_succ_self _) rfl (za1 rfl) (zad [0,1,2,3,4,5] kr rfl)
   refine za2 (zal (zal (zau ?_)))
   exact zam (r2.2,out4,hd8) h rfl (za1 rfl) (zad [4] kr rfl)
 rintro ⟨cost1,out1,hd1⟩ h
 rw [hj1] at h
 refine zyG (zyR 4 rfl (zyN (zaH ?_)))
 cases h
 exact zaN (rs:=[.tmp 6,.tmp 7]) hd1.v (.inl rfl) Tryz.results67 (.cons (.tmp rfl) (.cons (.tmp rfl) .nil)) rfl (zad [0] kr rfl)
def zim (text1:ByteArray) (indent1:Int) (l1:Gapi_Layout):Option ((List ByteArray)×Int×Int) :=
zak (zga l1) fun (r1:Bool) =>
zax (!r1) (
some (([]:List ByteArray),0,2)
) (
zax (decide ((indent1:Int)<0)) (
some (([]:List ByteArray),0,2)
) (
zax (decide ((1024:Int)<indent1)) (
some (([]:List ByteArray),0,2)
) (
zax (decide ((1024:Int)<(text1.size:Int))) (
some (([]:List ByteArray),0,2)
) (
zak (ze2 text1 indent1 l1) fun (r2:((List ByteArray)×Int)) =>
some (r2.1,r2.2,0)
)
)
)
)
theorem zod {text1:ByteArray} {indent1:Int} {l1:Gapi_Layout} {r:((List ByteArray)×Int×Int)} (h:zim text1 indent1 l1=some r):Fn Tryz.prog 29 [.string text1,zI indent1,.agg (zr0 l1).toArray] [] (fun v0:Value=>.tuple #[v0,zI r.2.1,zI r.2.2]) (fun v0=>[zv5 v0 r.1]):=by
 unfold zim at h
 refine Fn.intro Tryz.func29 rfl Tryz.ntmps29 (by simp) ?_
 intro w0 K
 refine zyG ?_
 refine zdW rfl dc rfl (fun b1 => ?_)
 refine zyR 3 rfl (zyN (zaK (zyG (za8 (k:=0) (cs:=(zr0 l1)) ziB rfl dc rfl rfl rfl rfl ?_))))
 obtain ⟨r1,hq1,h⟩:=zbj h
 refine zbh (v:=.bool r1) (vs:=[.agg (zr0 l1).toArray]) rfl dc rfl rfl rfl zwG (zkP (l1:=l1) hq1) (zd6 rfl dc rfl zcv (zyR 1 rfl ?_))
 refine zyS (s:=14) rfl h (fun h => ?_) (fun h => ?_)
 ·
  refine zyR 12 rfl (zyN ?_)
  refine za9 rfl (zyG (zyR 3 rfl (zyN (zaH (zav (zdQ (enc:=zqJ) (e:=9) (size:=1) ?_))))))
  cases h
  exact zaN (rs:=[.tmp 6,.tmp 7,.tmp 8]) (.slice none 0 0) (.inl rfl) Tryz.results29 (.cons (.tmp rfl) (.cons (.tmp rfl) (.cons (.tmp rfl) .nil))) rfl (zad [1] kr rfl)
 refine zyR 1 rfl (zaU rfl zbf (zyR 2 rfl ?_))
 refine zyS (s:=18) rfl h (fun h => ?_) (fun h => ?_)
 ·
  refine zyR 8 rfl (zyN (za9 rfl (zyG (zyR 1 rfl ?_))))
  refine zyR 2 rfl (zyN (zaH (zav (zdQ (enc:=zqJ) (e:=9) (size:=1) ?_))))
  cases h
  exact zaN (rs:=[.tmp 6,.tmp 7,.tmp 8]) (.slice none 0 0) (.inl rfl) Tryz.results29 (.cons (.tmp rfl) (.cons (.tmp rfl) (.cons (.tmp rfl) .nil))) rfl (zad [1] kr rfl)
 refine zyR 1 rfl (zaU rfl zcl (zyR 2 rfl ?_))
 refine zyS (s:=22) rfl h (fun h => ?_) (fun h => ?_)
 ·
  refine zyR 4 rfl (zyN (za9 rfl (zyG (zyR 3 rfl (zyN ?_)))))
  refine zaH (zav (zdQ (enc:=zqJ) (e:=9) (size:=1) ?_))
  cases h
  exact zaN (rs:=[.tmp 6,.tmp 7,.tmp 8]) (.slice none 0 0) (.inl rfl) Tryz.results29 (.cons (.tmp rfl) (.cons (.tmp rfl) (.cons (.tmp rfl) .nil))) rfl (zad [1] kr rfl)
 refine zyR 1 rfl (zbQ rfl dc rfl Tryz.underlying9 (zaU rfl zcl (zyR 1 rfl (zyN ?_))))
 refine zyB rfl h (fun h => ?_) (fun h => ?_)
 ·
  refine zyG (zyR 3 rfl (zyN (zaH (zav (zdQ (enc:=zqJ) (e:=9) (size:=1) ?_)))))
  cases h
  exact zaN (rs:=[.tmp 6,.tmp 7,.tmp 8]) (.slice none 0 0) (.inl rfl) Tryz.results29 (.cons (.tmp rfl) (.cons (.tmp rfl) (.cons (.tmp rfl) .nil))) rfl (zad [1] kr rfl)
 refine zat (zaL (zyG (zyR 2 rfl (za8 (k:=0) (cs:=(zr0 l1)) ziB rfl dc rfl rfl rfl rfl ?_))))
 obtain ⟨r2,hq2,h⟩:=zbj h
 refine zdG (vs:=[.string text1,zI indent1,.agg (zr0 l1).toArray]) rfl dc rfl rfl rfl zwF (zjV (l1:=l1) hq2) Splits.nil ?_
 rintro v1
 refine zyR 1 rfl (zaR rfl dc rfl rfl (zaR rfl dc rfl rfl (zyR 2 rfl (zyH (zyR 5 rfl ?_)))))
 refine zyN (zaH ?_)
 cases h
 exact zaN (rs:=[.tmp 6,.tmp 7,.tmp 8]) v1 (.inl rfl) Tryz.results29 (.cons (.tmp rfl) (.cons (.tmp rfl) (.cons (.tmp rfl) .nil))) rfl (zad [1] kr rfl)
end Go.Proofs.YtbempdelckaccaaGreatDoor

namespace Go.Proofs.YtbempdelckaccaaGreatDoor
open Go.RowKit Go.Lib
set_option linter.unusedVariables false
set_option linter.unusedSimpArgs false
abbrev zd8:=Gapi_Cell
def spB (s:ByteArray) (c:zd8):Bool:=if c.Span_To=c.Span_From+1 then ziT s c.Span_From==some 32 else false
def zc8 (l:List zd8):Int:=(l.map (·.Columns)).sum
theorem zqA:zc8 []=0:=rfl
theorem zgd (a b:List zd8):zc8 (a++b)=zc8 a+zc8 b:=by unfold zc8; rw [List.map_append,List.sum_append]
theorem zjM (c:zd8):zc8 [c]=c.Columns:=by simp [zc8]
def eN (sp:zd8→Bool) (l:List zd8):Nat:=(l.reverse.dropWhile sp).length
theorem zt7 (sp:zd8→Bool):eN sp []=0:=rfl
theorem zhF (sp:zd8→Bool) (l:List zd8) (x:zd8):eN sp (l++[x])=if sp x then eN sp l else l.length+1:=by
 unfold eN
 rw [List.reverse_append,List.reverse_singleton,List.singleton_append,List.dropWhile_cons]
 split
 ·rfl
 ·simp
theorem zlQ (sp:zd8→Bool) (l:List zd8):eN sp l≤l.length:=by
 unfold eN
 have:=(List.dropWhile_suffix sp (l:=l.reverse)).length_le
 rwa [List.length_reverse] at this
theorem zf9 {α:Type} {l:List α} {k:Nat} {x:α} (h:l[k]?=some x):l.take (k+1)=l.take k++[x]:=by
 rw [List.take_add_one,h]; rfl
theorem zpi (sp:zd8→Bool) (C:List zd8):∀ (d k:Nat),eN sp (C.take k)≤eN sp (C.take (k+d))
 | 0,k=>Nat.le_refl _
 | d+1,k=>by
  refine Nat.le_trans (zpi sp C d k) ?_
  by_cases h:k+d<C.length
  ·rw [show k+(d+1)=k+d+1 by omega,zf9 (List.getElem?_eq_getElem h),zhF]
   split
   ·exact Nat.le_refl _
   ·have:=zlQ sp (C.take (k+d)); omega
  ·rw [List.take_of_length_le (by omega),List.take_of_length_le (by omega)]; exact Nat.le_refl _
def wl (P:List zd8):List Int:=(List.range (P.length+1)).map fun k=>zc8 (P.take k)
def el (sp:zd8→Bool) (P:List zd8):List Int:=(List.range (P.length+1)).map fun k=>((eN sp (P.take k):Nat):Int)
theorem zqR (P:List zd8) (k:Nat) (h:k≤P.length):(wl P)[k]?=some (zc8 (P.take k)):=by
 unfold wl; rw [List.getElem?_map,List.getElem?_range (by omega)]; rfl
theorem zsa (sp:zd8→Bool) (P:List zd8) (k:Nat) (h:k≤P.length):(el sp P)[k]?=some ((eN sp (P.take k):Nat):Int):=by
 unfold el; rw [List.getElem?_map,List.getElem?_range (by omega)]; rfl
theorem zvL (P:List zd8):(wl P).length=P.length+1:=by unfold wl; simp
theorem zwR (sp:zd8→Bool) (P:List zd8):(el sp P).length=P.length+1:=by unfold el; simp
theorem zpz {β:Type} (f:List zd8→β) (P:List zd8) (x:zd8):(List.range ((P++[x]).length+1)).map (fun k=>f ((P++[x]).take k))=(List.range (P.length+1)).map (fun k=>f (P.take k))++[f (P++[x])]:=by
 rw [show (P++[x]).length+1=(P.length+1)+1 by simp,List.range_succ,List.map_append,List.map_singleton]
 congr 1
 ·refine List.map_congr_left fun k hk => ?_
  rw [List.take_append_of_le_length (by have:=List.mem_range.1 hk; omega)]
 ·rw [List.take_of_length_le (by simp)]
theorem zuj (P:List zd8) (x:zd8):wl (P++[x])=wl P++[zc8 P+x.Columns]:=by
 unfold wl; rw [zpz zc8,zgd,zjM]
theorem zu9 (sp:zd8→Bool) (P:List zd8) (x:zd8):el sp (P++[x])=el sp P++[(((if sp x then eN sp P else P.length+1):Nat):Int)]:=by
 unfold el; rw [zpz (fun l=>((eN sp l:Nat):Int)),zhF]
theorem Cov.mem:∀ {cs:List zd8} {a b:Int},Cov a cs b→∀ c∈cs,a≤c.Span_From∧c.Span_From<c.Span_To∧c.Span_To≤b∧0≤c.Columns∧c.Columns≤2
 | [],a,b,_,c,hc=>by cases hc
 | d::cs,a,b,h,c,hc=>by
  obtain ⟨h1,h2,h3,h4⟩:=h
  have hle:∀ (cs:List zd8) (a b:Int),Cov a cs b→a≤b:=by
   intro cs
   induction cs with
   | nil=>intro a b h; have:a=b:=h; omega
   | cons e es ih=>intro a b h; have:=ih _ _ h.2.2.2; have:=h.2.1; omega
  have:=hle _ _ _ h4
  rcases List.mem_cons.1 hc with rfl | hc
  ·exact ⟨by omega,by omega,this,h3.1,h3.2⟩
  ·have:=Cov.mem h4 c hc; omega
theorem zgT:∀ {l:List zd8},(∀ c∈l,0≤c.Columns∧c.Columns≤2)→0≤zc8 l∧zc8 l≤2*l.length
 | [],_=>⟨Int.le_refl _,by simp [zc8]⟩
 | c::l,h=>by
  have h1:=h c (List.mem_cons_self ..)
  have h2:=zgT (l:=l) fun d hd=>h d (List.mem_cons_of_mem _ hd)
  have e:zc8 (c::l)=c.Columns+zc8 l:=by simp [zc8]
  rw [e,List.length_cons]; omega
theorem zq6 (t:Gpage_turner) (k:Nat) (c:zd8) (hc:t.cells[k]?=some c) (h0:0≤c.Span_From) (h1:c.Span_From<t.s.size) (hs:t.s.size≤100000):zb5 t (k:Int)=some (spB t.s c):=by
 unfold zb5 spB
 refine zaJ (zcE hc) (zbo ⟨by omega,by omega⟩ ?_)
 by_cases h:c.Span_To=c.Span_From+1
 ·rw [if_pos h]
  obtain ⟨m,hm⟩:∃ m:Nat,c.Span_From=m:=⟨c.Span_From.toNat,by omega⟩
  have hg:=znf hm (show m<t.s.size by omega)
  refine zaz (zgG h) (zaJ hg ?_)
  rw [hg]
  show some _=some _
  congr 1
 ·rw [if_neg h]; exact zay (zgN h) rfl
def zfw (s:ByteArray) (first rest:Int):Gpage_turner:=⟨s,zah s,wl (zah s),el (spB s) (zah s),first,rest⟩
theorem zrA (s:ByteArray) (hs:s.size≤100000) (ind:Int) (l:Gapi_Layout) (C:List zd8) (hC:∀ c∈C,0≤c.Span_From∧c.Span_From<(s.size:Int)∧0≤c.Columns∧c.Columns≤2) (hl:C.length≤100000) (d:List zd8→List Int→List Int→Option Gpage_turner) :
  ∀ (xs P:List zd8),C=P++xs→zcD d (zcy s ind l) xs P (wl P) (el (spB s) P)=d C (wl C) (el (spB s) C)
 | [],P,h=>by rw [List.append_nil] at h; subst h; rfl
 | x::xs,P,h=>by
  have ih:=zrA s hs ind l C hC hl d xs (P++[x]) (by rw [h]; simp)
  obtain ⟨c1,c2,c3,c4⟩:=hC x (by rw [h]; simp)
  have hPl:P.length+1+xs.length=C.length:=by rw [h]; simp; omega
  have hPs:=zgT (l:=P) fun c hc=>by have:=hC c (by rw [h]; simp [hc]); omega
  rw [zgX]
  generalize zcD d (zcy s ind l) xs=ag at ih ⊢
  unfold zcy
  have e1:((P++[x]).length:Int) - 1=(P.length:Int):=by simp
  have hg1:zbF (wl P) (P.length:Int)=some (zc8 P):=by
   have:=zcE (zqR P P.length (Nat.le_refl _)); rwa [List.take_length] at this
  have hg2:zbF (el (spB s) P) (P.length:Int)=some ((eN (spB s) P:Nat):Int):=by
   have:=zcE (zsa (spB s) P P.length (Nat.le_refl _)); rwa [List.take_length] at this
  have hwl:=zvL P
  have hel:=zwR (spB s) P
  refine zbs (zbo (by omega) ?_)
  rw [e1]
  refine zbo ⟨by omega,by omega⟩ (zaJ hg1 (zbo ⟨by omega,by omega⟩ (zbo (by omega) (zbo ⟨by omega,by omega⟩ ?_))))
  refine zaJ (zq6 ⟨s,P++[x],wl P++[zc8 P+x.Columns],el (spB s) P,max 1 (l.Width - ind),l.Width - l.Turn⟩ P.length x (by simp) c1 c2 hs) ?_
  rw [← ih,zuj,zu9]
  show zax (spB s x) _ _=_
  cases hsp:spB s x with
  | true=>exact zaz rfl (zaJ hg2 (zbo (by omega) rfl))
  | false=>exact zay rfl (zbo (by omega) rfl)
theorem zo8 (s:ByteArray) (hs:s.size≤100000) (ind:Int) (l:Gapi_Layout) (h1:I64 (l.Width - ind)) (h2:I64 (l.Width - l.Turn)):zeh s ind l=some (zfw s (max 1 (l.Width - ind)) (l.Width - l.Turn)):=by
 unfold zeh
 refine zbs (zbo h1 (zbo h2 (zaJ rfl (zaJ (zsb s (by omega)) (zbs ?_)))))
 have hl:=zge s
 have hm:=(zeJ s).mem
 have:=zrA s hs ind l (zah s) (fun c hc=>by have:=hm c hc; omega) (by omega) (fun t10 t11 t12=>some (⟨s,t10,t11,t12,max 1 (l.Width - ind),l.Width - l.Turn⟩:Gpage_turner)) (zah s) [] rfl
 exact this
def zid (sp:zd8→Bool) (C:List zd8) (f t:Nat):Int:=zc8 (C.take (max f (eN sp (C.take t)))) - zc8 (C.take f)
def zeB (a b:Int) (f:Nat):Int:=if f=0 then a else b
def zjR (sp:zd8→Bool) (C:List zd8) (k:Nat):Bool:=match C[k]? with | some c=>sp c | none=>false
def zl6 (sp:zd8→Bool) (C:List zd8) (a b:Int) (f t:Nat):Bool:=!(decide (0<f)&&zjR sp C f)&&(decide (zid sp C f t≤zeB a b f)||decide (eN sp (C.take t)≤f+1))
def zoB (sp:zd8→Bool) (C:List zd8) (a b:Int) (f t:Nat):Int:=(if 0<zeB a b f - zid sp C f t then (zeB a b f - zid sp C f t)*(zeB a b f - zid sp C f t) else 0)+(if zjR sp C (t - 1) then 0 else 1000)
theorem zoZ {s:ByteArray} {a b:Int} (f:Nat):zcm (zfw s a b) (f:Int)=some (zeB a b f):=by
 unfold zcm zeB
 by_cases h:f=0
 ·rw [if_pos h]; exact zaz (zgG (by omega)) rfl
 ·rw [if_neg h]; exact zay (zgN (by omega)) rfl
theorem zmX {a b:Int} (ha:0≤a∧a≤1000000) (hb:0≤b∧b≤1000000) (f:Nat):0≤zeB a b f∧zeB a b f≤1000000:=by unfold zeB; split <;> omega
section
variable {s:ByteArray} {a b:Int} (hs:s.size≤100000) (ha:0≤a∧a≤1000000) (hb:0≤b∧b≤1000000)
include hs
theorem zh4:(zah s).length≤100000:=Nat.le_trans (zge s) hs
theorem zp5 (k:Nat):0≤zc8 ((zah s).take k)∧zc8 ((zah s).take k)≤200000:=by
 have hm:=(zeJ s).mem
 have hl:=zh4 hs
 have:=zgT (l:=(zah s).take k) fun c hc=>by have:=hm c (List.mem_of_mem_take hc); omega
 have hk:((zah s).take k).length≤(zah s).length:=by rw [List.length_take]; omega
 omega
theorem zjL (f t:Nat) (hf:f≤t) (ht:t≤(zah s).length):zbZ (zfw s a b) (f:Int) (t:Int)=some (zid (spB s) (zah s) f t):=by
 unfold zbZ
 have he:=zlQ (spB s) ((zah s).take t)
 rw [List.length_take] at he
 have h1:=zp5 hs (max f (eN (spB s) ((zah s).take t)))
 have h2:=zp5 hs f
 refine zaJ (zcE (zsa (spB s) (zah s) t ht)) (zaJ (zdE (n:=max f (eN (spB s) ((zah s).take t))) (by omega) (zqR _ _ (by omega))) (zaJ (zcE (zqR _ f (by omega))) (zbo ⟨by omega,by omega⟩ rfl)))
theorem zpE (k:Nat) (hk:k<(zah s).length):zb5 (zfw s a b) (k:Int)=some (zjR (spB s) (zah s) k):=by
 have hx:(zah s)[k]?=some (zah s)[k]:=List.getElem?_eq_getElem hk
 have:=(zeJ s).mem _ (List.mem_of_getElem? hx)
 unfold zjR
 rw [hx]
 exact zq6 (zfw s a b) k _ hx (by omega) (by show _<(s.size:Int); omega) hs
theorem zwj (f t:Nat) (hf:f<t) (ht:t≤(zah s).length):zd0 (zfw s a b) (f:Int) (t:Int)=some (zl6 (spB s) (zah s) a b f t):=by
 unfold zd0 zl6
 have hle:=zh4 hs
 have tail:(zak (zbZ (zfw s a b) (f:Int) (t:Int)) fun (r2:Int)=>zak (zcm (zfw s a b) (f:Int)) fun (r3:Int)=>zax (decide ((r2:Int)≤r3)) (some true) (zak (zbF (zfw s a b).ends (t:Int)) fun (q1:Int)=>grd (I64 ((f:Int)+1))<|some (decide ((q1:Int)≤((f:Int)+1))))) =
   some (decide (zid (spB s) (zah s) f t≤zeB a b f)||decide (eN (spB s) ((zah s).take t)≤f+1)):=by
  refine zaJ (zjL hs f t (by omega) ht) (zaJ (zoZ f) ?_)
  by_cases h:zid (spB s) (zah s) f t≤zeB a b f
  ·rw [decide_eq_true h]; exact zaz rfl rfl
  ·rw [decide_eq_false h]
   refine zay rfl (zaJ (zcE (zsa (spB s) (zah s) t ht)) (zbo ⟨by omega,by omega⟩ ?_))
   rw [Bool.false_or]
   congr 1
   by_cases h2:eN (spB s) ((zah s).take t)≤f+1
   ·rw [decide_eq_true h2,decide_eq_true (by omega)]
   ·rw [decide_eq_false h2,decide_eq_false (by omega)]
 refine zbs ?_
 by_cases h0:0<f
 ·rw [decide_eq_true h0]
  refine zaz (decide_eq_true (by omega)) (zaJ (zpE hs f (by omega)) ?_)
  cases zjR (spB s) (zah s) f with
  | true=>exact zaz rfl rfl
  | false=>exact zay rfl tail
 ·rw [decide_eq_false h0]
  exact zay (decide_eq_false (by omega)) tail
theorem znw (f t:Nat) : -200000≤zid (spB s) (zah s) f t∧zid (spB s) (zah s) f t≤200000:=by
 have h1:=zp5 hs (max f (eN (spB s) ((zah s).take t)))
 have h2:=zp5 hs f
 unfold zid; omega
include ha hb
theorem zfU (f t:Nat):0≤zoB (spB s) (zah s) a b f t∧zoB (spB s) (zah s) a b f t≤2000000000000:=by
 have h1:=zmX ha hb f
 have h2:=znw hs f t
 have hz:zeB a b f - zid (spB s) (zah s) f t≤1200000:=by omega
 have hq:(if zjR (spB s) (zah s) (t - 1) then (0:Int) else 1000)≤1000∧0≤(if zjR (spB s) (zah s) (t - 1) then (0:Int) else 1000):=by split <;> omega
 unfold zoB
 generalize zeB a b f - zid (spB s) (zah s) f t=z at *
 by_cases h:0<z
 ·rw [if_pos h]
  have g1:0≤z*z:=Int.mul_nonneg (by omega) (by omega)
  have g2:z*z≤1200000*1200000:=Int.mul_le_mul hz hz (by omega) (by omega)
  omega
 ·rw [if_neg h]; omega
theorem zvb (f t:Nat) (hf:f<t) (ht:t≤(zah s).length):zdM (zfw s a b) (f:Int) (t:Int)=some (zoB (spB s) (zah s) a b f t):=by
 have h1:=zmX ha hb f
 have h2:=znw hs f t
 have h3:=zfU hs ha hb f t
 have hle:=zh4 hs
 unfold zdM
 refine zbs (zaJ (zoZ f) (zaJ (zjL hs f t (by omega) ht) (zbo ⟨by omega,by omega⟩ ?_)))
 have tail:∀ n:Int,0≤n→n≤2000000000000→zbd (fun (j2:Int→Option Int)=>grd (I64 ((t:Int) - 1))<|zak (zb5 (zfw s a b) ((t:Int) - 1)) fun (r3:Bool)=>zax (!r3) (grd (I64 (n+1000))<|j2 (n+1000)) (j2 n)) (fun (n2:Int)=>some n2)=some (n+(if zjR (spB s) (zah s) (t - 1) then 0 else 1000)):=by
  intro n hn1 hn2
  have hsp:=zpE (a:=a) (b:=b) hs (t - 1) (by omega)
  rw [show (((t - 1:Nat)):Int)=(t:Int) - 1 by omega] at hsp
  refine zbs (zbo ⟨by omega,by omega⟩ (zaJ hsp ?_))
  cases zjR (spB s) (zah s) (t - 1) with
  | true=>exact zay rfl (congrArg some (Int.add_zero n).symm)
  | false=>exact zaz rfl (zbo ⟨by omega,by omega⟩ rfl)
 unfold zoB at h3 ⊢
 have hq:(if zjR (spB s) (zah s) (t - 1) then (0:Int) else 1000)≤1000∧0≤(if zjR (spB s) (zah s) (t - 1) then (0:Int) else 1000):=by split <;> omega
 by_cases h:0<zeB a b f - zid (spB s) (zah s) f t
 ·rw [if_pos h] at h3 ⊢
  have hm:0≤(zeB a b f - zid (spB s) (zah s) f t)*(zeB a b f - zid (spB s) (zah s) f t):=Int.mul_nonneg (by omega) (by omega)
  refine zaz (decide_eq_true h) (zbo ⟨by omega,by omega⟩ (tail _ hm (by omega)))
 ·rw [if_neg h]
  exact zay (decide_eq_false h) (tail 0 (by omega) (by omega))
end
end Go.Proofs.YtbempdelckaccaaGreatDoor

namespace Go.Proofs.YtbempdelckaccaaGreatDoor
open Go.RowKit Go.Lib
set_option linter.unusedVariables false
set_option linter.unusedSimpArgs false
abbrev Bst:=Gpage_best
def b0:Bst:=⟨0,0,0⟩
def bm:Bst:=⟨0,-1,0⟩
section
variable (R:Nat→Nat→Bool) (K:Nat→Nat→Int) (n:Nat)
def zfu (T:Nat→Bst) (f t:Nat):Option Bst :=
 if R f t then (if t<n then (if (T t).rows<0 then none else some ⟨K f t+(T t).cost,(T t).rows+1,(t:Int)⟩) else some ⟨0,1,(t:Int)⟩) else none
def znM (x:Bst):Option Bst→Bst
 | none=>x
 | some y=>if x.rows<0∨y.cost<x.cost∨(y.cost=x.cost∧y.rows≤x.rows) then y else x
def zep (T:Nat→Bst) (f:Nat):Nat→Nat→Bst→Bst
 | 0,_,x=>x
 | d+1,t,x=>zep T f d (t+1) (znM x (zfu R K n T f t))
def Bf:Nat→Nat→Bst
 | 0,_=>b0
 | k+1,f=>if f+(k+1)=n then zep R K n (Bf k) f (n - f) (f+1) bm else Bf k f
end
section
variable {R:Nat→Nat→Bool} {K:Nat→Nat→Int} {n:Nat}
theorem zjw {T:Nat→Bst} {f:Nat}:∀ (d t:Nat) (x:Bst),(∀ t',t≤t'→t'<t+d→zfu R K n T f t'=none)→zep R K n T f d t x=x
 | 0,t,x,_=>rfl
 | d+1,t,x,h=>by
  unfold zep
  rw [h t (Nat.le_refl _) (by omega)]
  exact zjw d (t+1) x fun t' h1 h2=>h t' (by omega) (by omega)
theorem zgj (x y:Bst):znM x (some y)=if x.rows<0∨y.cost<x.cost∨(y.cost=x.cost∧y.rows≤x.rows) then y else x:=rfl
theorem zuk (x:Bst) (c:Option Bst):znM x c=x∨c=some (znM x c):=by
 cases c with
 | none=>exact .inl rfl
 | some y =>
  rw [zgj]
  split
  ·exact .inr rfl
  ·exact .inl rfl
theorem ziU {T:Nat→Bst} {f:Nat}:∀ (d t:Nat) (x:Bst),zep R K n T f d t x=x∨∃ t',t≤t'∧t'<t+d∧zfu R K n T f t'=some (zep R K n T f d t x)
 | 0,t,x=>.inl rfl
 | d+1,t,x=>by
  unfold zep
  rcases ziU (T:=T) (f:=f) d (t+1) (znM x (zfu R K n T f t)) with h | ⟨t',h1,h2,h3⟩
  ·rw [h]
   rcases zuk x (zfu R K n T f t) with h' | h'
   ·exact .inl h'
   ·exact .inr ⟨t,Nat.le_refl _,by omega,h'⟩
  ·exact .inr ⟨t',by omega,by omega,h3⟩
def le1 (x y:Bst):Prop:=0≤x.rows∧x.cost≤y.cost
theorem zul {x y:Bst} (h:0≤x.rows) {c:Option Bst} (hc:∀ y,c=some y→0≤y.rows):le1 (znM x c) x:=by
 cases c with
 | none=>exact ⟨h,Int.le_refl _⟩
 | some y =>
  have hy:=hc y rfl
  rw [zgj]
  split
  ·exact ⟨hy,by omega⟩
  ·exact ⟨h,Int.le_refl _⟩
theorem zsG {x y:Bst} (hy:0≤y.rows):le1 (znM x (some y)) y:=by
 rw [zgj]
 split
 ·exact ⟨hy,Int.le_refl _⟩
 ·exact ⟨by omega,by omega⟩
theorem zng {T:Nat→Bst} {f:Nat} (hT:∀ t y,zfu R K n T f t=some y→0≤y.rows):∀ (d t:Nat) (x:Bst),(0≤x.rows→le1 (zep R K n T f d t x) x)∧∀ t' y,t≤t'→t'<t+d→zfu R K n T f t'=some y→le1 (zep R K n T f d t x) y
 | 0,t,x=>⟨fun h=>⟨h,Int.le_refl _⟩,fun t' y h1 h2=>by omega⟩
 | d+1,t,x=>by
  have ih:=zng hT d (t+1) (znM x (zfu R K n T f t))
  unfold zep
  refine ⟨fun h => ?_,fun t' y h1 h2 hc => ?_⟩
  ·have h1:=zul (y:=x) h (hT t)
   have h2:=ih.1 h1.1
   exact ⟨h2.1,Int.le_trans h2.2 h1.2⟩
  ·by_cases e:t'=t
   ·subst e
    have hy:=hT t' y hc
    have h1:le1 (znM x (zfu R K n T f t')) y:=by rw [hc]; exact zsG hy
    have h2:=ih.1 h1.1
    exact ⟨h2.1,Int.le_trans h2.2 h1.2⟩
   ·exact ih.2 t' y (by omega) (by omega) hc
theorem zf2 (k f:Nat):Bf R K n (k+1) f=if f+(k+1)=n then zep R K n (Bf R K n k) f (n - f) (f+1) bm else Bf R K n k f:=rfl
theorem ztA:∀ (k f:Nat),f+k<n→Bf R K n k f=b0
 | 0,f,_=>rfl
 | k+1,f,h=>by rw [zf2,if_neg (by omega)]; exact ztA k f (by omega)
theorem zpv:∀ (k j f:Nat),n≤f+k→Bf R K n (k+j) f=Bf R K n k f
 | k,0,f,_=>rfl
 | k,j+1,f,h=>by
  rw [show k+(j+1)=(k+j)+1 by omega,zf2,if_neg (by omega)]
  exact zpv k j f h
def BB (R:Nat→Nat→Bool) (K:Nat→Nat→Int) (n:Nat):Nat→Bst:=Bf R K n n
theorem zqB {T T':Nat→Bst} {f t:Nat} (h:T t=T' t):zfu R K n T f t=zfu R K n T' f t:=by unfold zfu; rw [h]
theorem zk1 {T T':Nat→Bst} {f:Nat}:∀ (d t:Nat) (x:Bst),(∀ t',t≤t'→t'<t+d→T t'=T' t')→zep R K n T f d t x=zep R K n T' f d t x
 | 0,t,x,_=>rfl
 | d+1,t,x,h=>by
  unfold zep
  rw [zqB (h t (Nat.le_refl _) (by omega))]
  exact zk1 d (t+1) _ fun t' h1 h2=>h t' (by omega) (by omega)
theorem zvr {f:Nat} (h:f<n):BB R K n f=zep R K n (BB R K n) f (n - f) (f+1) bm:=by
 have h1:Bf R K n n f=Bf R K n (n - f) f:=by
  have:=zpv (R:=R) (K:=K) (n:=n) (n - f) f f (by omega)
  rwa [show n - f+f=n by omega] at this
 unfold BB
 rw [h1]
 obtain ⟨k,hk⟩:∃ k,n - f=k+1:=⟨n - f - 1,by omega⟩
 rw [hk]
 rw [zf2,if_pos (by omega),hk]
 refine zk1 _ _ _ fun t' h1 h2 => ?_
 have:=zpv (R:=R) (K:=K) (n:=n) k (n - k) t' (by omega)
 rw [show k+(n - k)=n by omega] at this
 exact this.symm
def okB (k:Nat) (x:Bst):Prop:=0≤x.cost∧x.cost≤2000000000000*k∧-1≤x.rows∧x.rows≤k
theorem zha {T:Nat→Bst} {f t k:Nat} {y:Bst} (hK:∀ f t,0≤K f t∧K f t≤2000000000000) (hT:∀ t,okB k (T t)) (h:zfu R K n T f t=some y):okB (k+1) y∧0≤y.rows:=by
 unfold zfu at h
 have h1:=hK f t
 obtain ⟨t1,t2,t3,t4⟩:=hT t
 split at h
 ·split at h
  ·split at h
   ·cases h
   ·cases h
    refine ⟨⟨?_,?_,?_,?_⟩,?_⟩ <;> (try simp only) <;> (try push_cast) <;> (try omega)
  ·cases h
   refine ⟨⟨?_,?_,?_,?_⟩,?_⟩ <;> (try simp only) <;> (try push_cast) <;> (try omega)
 ·cases h
theorem zry (k:Nat):okB k bm:=⟨Int.le_refl _,by show (0:Int)≤_; omega,Int.le_refl _,by show (-1:Int)≤_; omega⟩
theorem zs0 {k j:Nat} {x:Bst} (h:okB k x) (hj:k≤j):okB j x:=by obtain ⟨h1,h2,h3,h4⟩:=h; exact ⟨h1,by omega,h3,by omega⟩
theorem ztb {T:Nat→Bst} {f k:Nat} (hK:∀ f t,0≤K f t∧K f t≤2000000000000) (hT:∀ t,okB k (T t)) (d t:Nat) {x:Bst} (hx:okB (k+1) x):okB (k+1) (zep R K n T f d t x):=by
 rcases ziU (R:=R) (K:=K) (n:=n) (T:=T) (f:=f) d t x with h | ⟨t',_,_,h⟩
 ·rw [h]; exact hx
 ·exact (zha hK hT h).1
theorem zlw (hK:∀ f t,0≤K f t∧K f t≤2000000000000):∀ (k f:Nat),okB k (Bf R K n k f)
 | 0,f=>by show okB 0 b0; unfold okB b0; simp
 | k+1,f=>by
  rw [zf2]
  split
  ·exact ztb hK (zlw hK k) _ _ (zry _)
  ·exact zs0 (zlw hK k f) (by omega)
theorem zvs (hK:∀ f t,0≤K f t∧K f t≤2000000000000) {f t:Nat} {y:Bst} (h:zfu R K n (BB R K n) f t=some y):0≤y.rows:=(zha hK (zlw hK n) h).2
theorem zw3 (hK:∀ f t,0≤K f t∧K f t≤2000000000000) {f:Nat} (hf:f<n) (hr:0≤(BB R K n f).rows):∃ t:Nat,(BB R K n f).to_=(t:Int)∧f<t∧t≤n∧R f t=true∧(t<n→0≤(BB R K n t).rows∧(BB R K n f).cost=K f t+(BB R K n t).cost)∧(t=n→(BB R K n f).cost=0):=by
 have he:=zvr (R:=R) (K:=K) hf
 rcases ziU (R:=R) (K:=K) (n:=n) (T:=BB R K n) (f:=f) (n - f) (f+1) bm with h | ⟨t,h1,h2,h3⟩
 ·rw [← he] at h; rw [h] at hr; exact absurd hr (by decide)
 ·rw [← he] at h3
  generalize BB R K n f=x at h3 hr ⊢
  refine ⟨t,?_⟩
  unfold zfu at h3
  by_cases hR:R f t=true
  ·rw [if_pos hR] at h3
   by_cases ht:t<n
   ·rw [if_pos ht] at h3
    by_cases hn:(BB R K n t).rows<0
    ·rw [if_pos hn] at h3; cases h3
    ·rw [if_neg hn] at h3
     cases h3
     exact ⟨rfl,by omega,by omega,hR,fun _=>⟨by omega,rfl⟩,fun h=>by omega⟩
   ·rw [if_neg ht] at h3
    cases h3
    exact ⟨rfl,by omega,by omega,hR,fun h=>absurd h ht,fun _=>rfl⟩
  ·rw [if_neg hR] at h3; cases h3
theorem zw4 (hK:∀ f t,0≤K f t∧K f t≤2000000000000) {f t:Nat} (hf:f<t) (ht:t≤n) (hR:R f t=true):(t=n→0≤(BB R K n f).rows∧(BB R K n f).cost≤0)∧(t<n→0≤(BB R K n t).rows→0≤(BB R K n f).rows∧(BB R K n f).cost≤K f t+(BB R K n t).cost):=by
 have he:=zvr (R:=R) (K:=K) (show f<n by omega)
 have hl:=(zng (R:=R) (K:=K) (n:=n) (T:=BB R K n) (f:=f) (fun t y h=>zvs hK h) (n - f) (f+1) bm).2
 rw [← he] at hl
 refine ⟨fun e => ?_,fun h hr => ?_⟩
 ·have hc:zfu R K n (BB R K n) f t=some ⟨0,1,(t:Int)⟩:=by unfold zfu; rw [if_pos hR,if_neg (by omega)]
  exact hl t _ (by omega) (by omega) hc
 ·have hc:zfu R K n (BB R K n) f t=some ⟨K f t+(BB R K n t).cost,(BB R K n t).rows+1,(t:Int)⟩:=by unfold zfu; rw [if_pos hR,if_pos h,if_neg (by omega)]
  exact hl t _ (by omega) (by omega) hc
end
theorem zwy {R T:Type} {t:T→Option R} {k:T} {x:Option R} (Q:T→Prop) (hk:Q k) (h:∀ j,Q j→t j=x):zbd t k=x:=h k hk
section
variable {s:ByteArray} {a b:Int} (hs:s.size≤100000) (ha:0≤a∧a≤1000000) (hb:0≤b∧b≤1000000)
abbrev Rs (s:ByteArray) (a b:Int):Nat→Nat→Bool:=zl6 (spB s) (zah s) a b
abbrev Ks (s:ByteArray) (a b:Int):Nat→Nat→Int:=zoB (spB s) (zah s) a b
def zff (T:Nat→Bst) (n:Nat):List Bst:=(List.range (n+1)).map T
theorem zez (T:Nat→Bst) (n k:Nat) (h:k≤n):(zff T n)[k]?=some (T k):=by unfold zff; rw [List.getElem?_map,List.getElem?_range (by omega)]; rfl
theorem zgz (T:Nat→Bst) (n:Nat):(zff T n).length=n+1:=by unfold zff; simp
theorem zsh (sp:zd8→Bool) (C:List zd8) (hC:∀ c∈C,0≤c.Columns∧c.Columns≤2) (f t d:Nat):zid sp C f t≤zid sp C f (t+d):=by
 have he:=zpi sp C d t
 unfold zid
 have key:∀ i j:Nat,i≤j→zc8 (C.take i)≤zc8 (C.take j):=by
  intro i j h
  have:C.take j=C.take i++(C.take j).drop i:=by
   have:=(List.take_append_drop i (C.take j)).symm
   rwa [List.take_take,show min i j=i by omega] at this
  rw [this,zgd]
  have:=zgT (l:=(C.take j).drop i) fun c hc=>hC c (List.mem_of_mem_take (List.mem_of_mem_drop hc))
  omega
 have:=key (max f (eN sp (C.take t))) (max f (eN sp (C.take (t+d)))) (by omega)
 omega
theorem zuC (sp:zd8→Bool) (C:List zd8) (hC:∀ c∈C,0≤c.Columns∧c.Columns≤2) {f t:Nat} (h:zl6 sp C a b f t=false) (h2:zeB a b f<zid sp C f t) (d:Nat):zl6 sp C a b f (t+d)=false:=by
 have hm:=zsh sp C hC f t d
 have he:=zpi sp C d t
 unfold zl6 at h ⊢
 cases h0:(decide (0<f)&&zjR sp C f) with
 | true=>rfl
 | false =>
  rw [h0] at h
  simp only [Bool.not_false,Bool.true_and,Bool.or_eq_false_iff,decide_eq_false_iff_not] at h ⊢
  omega
theorem zsK {α:Type} {l:List α} {i:Nat} {x:α} (h:l[i]?=some x):l.set i x=l:=by
 apply List.ext_getElem?
 intro j
 by_cases e:i=j
 ·subst e; rw [List.getElem?_set_self (List.getElem?_eq_some_iff.1 h).1,h]
 ·rw [List.getElem?_set_ne e]
include hs ha hb
theorem zuz (k f:Nat) (hf:f<(zah s).length) (hk:k≤100000) (j2:List Bst→Option ((List Int)×Int)) :
  ∀ (d t m:Nat) (x:Bst),f<t→t+d=(zah s).length+1→d<m→okB (k+1) x→zaF (fun _ _=>none) (zbT (zfw s a b) (f:Int) j2) m ((zff (Bf (Rs s a b) (Ks s a b) (zah s).length k) (zah s).length).set f x) (t:Int) =
   j2 ((zff (Bf (Rs s a b) (Ks s a b) (zah s).length k) (zah s).length).set f (zep (Rs s a b) (Ks s a b) (zah s).length (Bf (Rs s a b) (Ks s a b) (zah s).length k) f d t x)):=by
 have hle:=zh4 hs
 have hK:=zfU hs ha hb
 have hcol:∀ c∈zah s,0≤c.Columns∧c.Columns≤2:=fun c hc=>by have:=(zeJ s).mem c hc; omega
 have hok:=zlw (R:=Rs s a b) (K:=Ks s a b) (n:=(zah s).length) hK k
 intro d
 induction d with
 | zero =>
  intro t m x hft htd hm hx
  obtain ⟨m,rfl⟩:∃ q,m=q+1:=⟨m - 1,by omega⟩
  rw [zct]
  generalize zaF (fun _ _=>none) (zbT (zfw s a b) (f:Int) j2) m=ag
  unfold zbT
  exact zay (decide_eq_false (by show ¬ ((t:Int)≤((zah s).length:Int)); omega)) rfl
 | succ d ih =>
  intro t m x hft htd hm hx
  obtain ⟨m,rfl⟩:∃ q,m=q+1:=⟨m - 1,by omega⟩
  have ih':=fun y hy=>ih (t+1) m y (by omega) (by omega) (by omega) hy
  rw [zct]
  generalize zaF (fun _ _=>none) (zbT (zfw s a b) (f:Int) j2) m=ag at ih' ⊢
  have hn1:((t+1:Nat):Int)=(t:Int)+1:=by omega
  rw [hn1] at ih'
  unfold zbT
  have htl:=zgz (Bf (Rs s a b) (Ks s a b) (zah s).length k) (zah s).length
  have hgt:∀ y:Bst,zbF ((zff (Bf (Rs s a b) (Ks s a b) (zah s).length k) (zah s).length).set f y) (t:Int)=some (Bf (Rs s a b) (Ks s a b) (zah s).length k t):=fun y=>zcE (by rw [List.getElem?_set_ne (by omega)]; exact zez _ _ _ (by omega))
  have hgf:∀ y:Bst,zbF ((zff (Bf (Rs s a b) (Ks s a b) (zah s).length k) (zah s).length).set f y) (f:Int)=some y:=fun y=>zcE (by rw [List.getElem?_set_self (by omega)])
  have hnext:∀ y,okB (k+1) y→(grd (I64 ((t:Int)+1))<|ag ((zff (Bf (Rs s a b) (Ks s a b) (zah s).length k) (zah s).length).set f y) ((t:Int)+1))=j2 ((zff (Bf (Rs s a b) (Ks s a b) (zah s).length k) (zah s).length).set f (zep (Rs s a b) (Ks s a b) (zah s).length (Bf (Rs s a b) (Ks s a b) (zah s).length k) f d (t+1) y)):=fun y hy=>zbo ⟨by omega,by omega⟩ (ih' y hy)
  refine zaz (decide_eq_true (by show (t:Int)≤((zah s).length:Int); omega)) (zbs (zaJ (zwj hs f t hft (by omega)) ?_))
  unfold zep
  cases hR:zl6 (spB s) (zah s) a b f t with
  | false =>
   have hc:zfu (Rs s a b) (Ks s a b) (zah s).length (Bf (Rs s a b) (Ks s a b) (zah s).length k) f t=none:=by unfold zfu; rw [if_neg (by show ¬ (zl6 (spB s) (zah s) a b f t=true); rw [hR]; decide)]
   rw [hc]
   refine zaz rfl (zaJ (zjL hs f t (by omega) (by omega)) (zaJ (zoZ f) ?_))
   by_cases hw:zeB a b f<zid (spB s) (zah s) f t
   ·refine zaz (decide_eq_true hw) ?_
    rw [zjw d (t+1) (znM x none) (fun t' h1 h2=>by
     have:=zuC (a:=a) (b:=b) (spB s) (zah s) hcol hR hw (t' - t)
     rw [show t+(t' - t)=t' by omega] at this
     unfold zfu; rw [if_neg (by show ¬ (zl6 (spB s) (zah s) a b f t'=true); rw [this]; decide)])]
    rfl
   ·exact zay (decide_eq_false hw) (hnext x hx)
  | true =>
   refine zay rfl (zwy (fun j4=>∀ y:Bst,okB (k+1) y→y.to_=(t:Int)→j4 y.cost y.rows=j2 ((zff (Bf (Rs s a b) (Ks s a b) (zah s).length k) (zah s).length).set f (zep (Rs s a b) (Ks s a b) (zah s).length (Bf (Rs s a b) (Ks s a b) (zah s).length k) f d (t+1) (znM x (some y))))) ?_ ?_)
   ·intro y hy hto
    have ey:(⟨y.cost,y.rows,(t:Int)⟩:Gpage_best)=y:=by rw [← hto]
    have hput:(grd (I64 ((t:Int)+1))<|ag (((zff (Bf (Rs s a b) (Ks s a b) (zah s).length k) (zah s).length).set f x).set (f:Int).toNat (⟨y.cost,y.rows,(t:Int)⟩:Gpage_best)) ((t:Int)+1))=j2 ((zff (Bf (Rs s a b) (Ks s a b) (zah s).length k) (zah s).length).set f (zep (Rs s a b) (Ks s a b) (zah s).length (Bf (Rs s a b) (Ks s a b) (zah s).length k) f d (t+1) y)):=by
     rw [ey,Int.toNat_natCast,List.set_set]; exact hnext y hy
    have hkeep:=hnext x hx
    refine zaJ (hgf x) ?_
    rw [zgj]
    by_cases h1:x.rows<0
    ·rw [if_pos (.inl h1)]; exact zaz (decide_eq_true h1) (zaJ (hgf x) hput)
    refine zay (decide_eq_false h1) ?_
    by_cases h2:y.cost<x.cost
    ·rw [if_pos (.inr (.inl h2))]; exact zaz (decide_eq_true h2) (zaJ (hgf x) hput)
    refine zay (decide_eq_false h2) ?_
    by_cases h3:y.cost=x.cost
    ·refine zaz (zgG h3) ?_
     by_cases h4:y.rows≤x.rows
     ·rw [if_pos (.inr (.inr ⟨h3,h4⟩))]; exact zaz (decide_eq_true h4) (zaJ (hgf x) hput)
     ·rw [if_neg (by omega)]; exact zay (decide_eq_false h4) hkeep
    ·rw [if_neg (by omega)]; exact zay (zgN h3) hkeep
   intro j4 held
   by_cases ht:t<(zah s).length
   ·refine zaz (decide_eq_true (by show (t:Int)<((zah s).length:Int); omega)) (zaJ (hgt x) ?_)
    obtain ⟨o1,o2,o3,o4⟩:=hok t
    have hk2:=hK f t
    by_cases hn:(Bf (Rs s a b) (Ks s a b) (zah s).length k t).rows<0
    ·have hc:zfu (Rs s a b) (Ks s a b) (zah s).length (Bf (Rs s a b) (Ks s a b) (zah s).length k) f t=none:=by unfold zfu; rw [if_pos hR,if_pos ht,if_pos hn]
     rw [hc]
     exact zaz (decide_eq_true hn) (hnext x hx)
    ·have hc:zfu (Rs s a b) (Ks s a b) (zah s).length (Bf (Rs s a b) (Ks s a b) (zah s).length k) f t=some ⟨Ks s a b f t+(Bf (Rs s a b) (Ks s a b) (zah s).length k t).cost,(Bf (Rs s a b) (Ks s a b) (zah s).length k t).rows+1,(t:Int)⟩:=by unfold zfu; rw [if_pos hR,if_pos ht,if_neg hn]
     have hyok:=(zha hK hok hc).1
     rw [hc]
     refine zay (decide_eq_false hn) (zaJ (zvb hs ha hb f t hft (by omega)) (zaJ (hgt x) (zbo ⟨by omega,by omega⟩ (zbo ⟨by omega,by omega⟩ ?_))))
     exact held _ hyok rfl
   ·have hc:zfu (Rs s a b) (Ks s a b) (zah s).length (Bf (Rs s a b) (Ks s a b) (zah s).length k) f t=some ⟨0,1,(t:Int)⟩:=by unfold zfu; rw [if_pos hR,if_neg ht]
    have hyok:=(zha hK hok hc).1
    rw [hc]
    refine zay (decide_eq_false (by show ¬ ((t:Int)<((zah s).length:Int)); omega)) ?_
    exact held _ hyok rfl
end
end Go.Proofs.YtbempdelckaccaaGreatDoor

namespace Go.Proofs.YtbempdelckaccaaGreatDoor
open Go.RowKit Go.Lib
set_option linter.unusedVariables false
set_option linter.unusedSimpArgs false
theorem zrz (sp:zd8→Bool) (C:List zd8):∀ (d f:Nat),f+d=C.length→f<C.length→∃ t,f<t∧t≤C.length∧(t=C.length∨zjR sp C t=false)∧∀ j,f<j→j<t→zjR sp C j=true
 | 0,f,h,hf=>by omega
 | d+1,f,h,hf=>by
  by_cases h1:f+1=C.length
  ·exact ⟨f+1,by omega,by omega,.inl h1,fun j a b=>by omega⟩
  ·cases h2:zjR sp C (f+1) with
   | false=>exact ⟨f+1,by omega,by omega,.inr h2,fun j a b=>by omega⟩
   | true =>
    obtain ⟨t,g1,g2,g3,g4⟩:=zrz sp C d (f+1) (by omega) (by omega)
    refine ⟨t,by omega,g2,g3,fun j a b => ?_⟩
    by_cases e:j=f+1
    ·rw [e]; exact h2
    ·exact g4 j (by omega) b
theorem zov (sp:zd8→Bool) (C:List zd8) (f:Nat):∀ (i:Nat),f+1+i≤C.length→(∀ j,f<j→j<f+1+i→zjR sp C j=true)→eN sp (C.take (f+1+i))≤f+1
 | 0,h,_=>by have:=zlQ sp (C.take (f+1)); rw [List.length_take] at this; show eN sp (C.take (f+1))≤_; omega
 | i+1,h,hsp=>by
  have hx:C[f+1+i]?=some C[f+1+i]:=List.getElem?_eq_getElem (by omega)
  have h1:=hsp (f+1+i) (by omega) (by omega)
  unfold zjR at h1
  rw [hx] at h1
  rw [show f+1+(i+1)=f+1+i+1 by omega,zf9 hx,zhF,if_pos h1]
  exact zov sp C f i (by omega) fun j a b=>hsp j a (by omega)
theorem zyM {sp:zd8→Bool} {C:List zd8} {a b:Int} {K:Nat→Nat→Int} (hK:∀ f t,0≤K f t∧K f t≤2000000000000):∀ (d f:Nat),C.length≤f+d→f<C.length→(f=0∨zjR sp C f=false)→0≤(BB (zl6 sp C a b) K C.length f).rows
 | 0,f,h,hf,_=>by omega
 | d+1,f,h,hf,h0=>by
  obtain ⟨t,g1,g2,g3,g4⟩:=zrz sp C (C.length - f) f (by omega) hf
  have he:=zov sp C f (t - (f+1)) (by omega) (fun j x y=>g4 j x (by omega))
  rw [show f+1+(t - (f+1))=t by omega] at he
  have hR:zl6 sp C a b f t=true:=by
   unfold zl6
   have:(decide (0<f)&&zjR sp C f)=false:=by
    rcases h0 with h0 | h0
    ·subst h0; rfl
    ·rw [h0,Bool.and_false]
   rw [this,decide_eq_true he,Bool.or_true]; rfl
  have hm:=zw4 (R:=zl6 sp C a b) (K:=K) (n:=C.length) hK g1 g2 hR
  by_cases e:t=C.length
  ·exact (hm.1 e).1
  ·have:=zyM (a:=a) (b:=b) hK d t (by omega) (by omega) (.inr (g3.resolve_left e))
   exact (hm.2 (by omega) this).1
section
variable {s:ByteArray} {a b:Int} (hs:s.size≤100000) (ha:0≤a∧a≤1000000) (hb:0≤b∧b≤1000000)
abbrev TT (s:ByteArray) (a b:Int):Nat→Bst:=BB (Rs s a b) (Ks s a b) (zah s).length
def zoq (s:ByteArray) (a b:Int) (f:Nat):Prop:=f=(zah s).length∨f<(zah s).length∧0≤(TT s a b f).rows
def zkd (s:ByteArray) (a b:Int):Nat→Nat→List Nat
 | 0,_=>[]
 | m+1,f=>if f<(zah s).length then (TT s a b f).to_.toNat::zkd s a b m (TT s a b f).to_.toNat else []
theorem zmG {T T':Nat→Bst} {n f:Nat} (hf:f≤n) (h1:∀ j,j≠f→T' j=T j):(zff T n).set f (T' f)=zff T' n:=by
 apply List.ext_getElem?
 intro j
 by_cases hj:j≤n
 ·rw [zez T' n j hj]
  by_cases e:f=j
  ·subst e; rw [List.getElem?_set_self (by rw [zgz]; omega)]
  ·rw [List.getElem?_set_ne e,zez T n j hj,h1 j (fun h=>e h.symm)]
 ·rw [List.getElem?_eq_none (by rw [List.length_set,zgz]; omega),List.getElem?_eq_none (by rw [zgz]; omega)]
include hs ha hb
theorem zsQ (j1:List Bst→Option ((List Int)×Int)):∀ (d k m:Nat),k+d=(zah s).length→d<m→zaF (fun _ _=>none) (zbU (zfw s a b) j1) m (zff (Bf (Rs s a b) (Ks s a b) (zah s).length k) (zah s).length) (((zah s).length:Int) - 1 - (k:Int)) =
  j1 (zff (TT s a b) (zah s).length):=by
 have hle:=zh4 hs
 intro d
 induction d with
 | zero =>
  intro k m hk hm
  obtain ⟨m,rfl⟩:∃ q,m=q+1:=⟨m - 1,by omega⟩
  rw [zct]
  generalize zaF (fun _ _=>none) (zbU (zfw s a b) j1) m=ag
  unfold zbU
  refine zay (decide_eq_false (by omega)) ?_
  rw [show k=(zah s).length by omega]; rfl
 | succ d ih =>
  intro k m hk hm
  obtain ⟨m,rfl⟩:∃ q,m=q+1:=⟨m - 1,by omega⟩
  have ih':=ih (k+1) m (by omega) (by omega)
  rw [zct]
  generalize zaF (fun _ _=>none) (zbU (zfw s a b) j1) m=ag at ih' ⊢
  obtain ⟨f,hf⟩:∃ f:Nat,f+(k+1)=(zah s).length:=⟨d,by omega⟩
  rw [show ((zah s).length:Int) - 1 - (k:Int)=(f:Int) by omega]
  rw [show ((zah s).length:Int) - 1 - ((k+1:Nat):Int)=(f:Int) - 1 by omega] at ih'
  unfold zbU
  have hg:zbF (zff (Bf (Rs s a b) (Ks s a b) (zah s).length k) (zah s).length) (f:Int)=some b0:=by
   rw [zcE (zez _ _ f (by omega)),ztA k f (by omega)]
  refine zaz (decide_eq_true (by omega)) (zbs (zaJ hg (zbo ⟨by omega,by omega⟩ ?_)))
  have hin:=zuz hs ha hb k f (by omega) (by omega) (fun (all5:List Gpage_best)=>grd (I64 ((f:Int) - 1))<|ag all5 ((f:Int) - 1)) ((zah s).length - f) (f+1) zbV bm (by omega) (by omega) (by have:=zb8 (n:=(zah s).length) (by omega); omega) (zry _)
  rw [show ((f+1:Nat):Int)=(f:Int)+1 by omega] at hin
  have et:(zff (Bf (Rs s a b) (Ks s a b) (zah s).length k) (zah s).length).set f (zep (Rs s a b) (Ks s a b) (zah s).length (Bf (Rs s a b) (Ks s a b) (zah s).length k) f ((zah s).length - f) (f+1) bm)=zff (Bf (Rs s a b) (Ks s a b) (zah s).length (k+1)) (zah s).length:=by
   have e1:Bf (Rs s a b) (Ks s a b) (zah s).length (k+1) f=zep (Rs s a b) (Ks s a b) (zah s).length (Bf (Rs s a b) (Ks s a b) (zah s).length k) f ((zah s).length - f) (f+1) bm:=by rw [zf2,if_pos hf]
   rw [← e1]
   exact zmG (by omega) fun j hj=>by rw [zf2,if_neg (by omega)]
  rw [et] at hin
  refine hin.trans (zbo ⟨by omega,by omega⟩ ih')
theorem zk6 {f:Nat} (h:zoq s a b f) (hf:f<(zah s).length):∃ t:Nat,(TT s a b f).to_=(t:Int)∧f<t∧t≤(zah s).length∧Rs s a b f t=true∧zoq s a b t∧(t<(zah s).length→(TT s a b f).cost=Ks s a b f t+(TT s a b t).cost)∧(t=(zah s).length→(TT s a b f).cost=0):=by
 have hr:0≤(TT s a b f).rows:=by
  rcases h with h | h
  ·omega
  ·exact h.2
 obtain ⟨t,h1,h2,h3,h4,h5,h6⟩:=zw3 (zfU hs ha hb) hf hr
 refine ⟨t,h1,h2,h3,h4,?_,fun h=>(h5 h).2,h6⟩
 by_cases e:t=(zah s).length
 ·exact .inl e
 ·exact .inr ⟨by omega,(h5 (by omega)).1⟩
theorem zsR (j5:List Int→Option ((List Int)×Int)):∀ (m f N:Nat) (out:List Int),zoq s a b f→(zah s).length≤f+m→m<N→out.length≤f→f≤(zah s).length→zaF (fun _ _=>none) (zbI (zfw s a b) (zff (TT s a b) (zah s).length) j5) N out (f:Int)=j5 (out++(zkd s a b m f).map (fun t=>((t:Nat):Int))):=by
 have hle:=zh4 hs
 intro m
 induction m with
 | zero =>
  intro f N out hfe hm hN ho hf
  obtain ⟨N,rfl⟩:∃ q,N=q+1:=⟨N - 1,by omega⟩
  rw [zct]
  generalize zaF (fun _ _=>none) (zbI (zfw s a b) (zff (TT s a b) (zah s).length) j5) N=ag
  unfold zbI
  refine zay (decide_eq_false (by show ¬ ((f:Int)<((zah s).length:Int)); omega)) ?_
  show j5 out=j5 (out++[])
  rw [List.append_nil]
 | succ m ih =>
  intro f N out hfe hm hN ho hf
  obtain ⟨N,rfl⟩:∃ q,N=q+1:=⟨N - 1,by omega⟩
  rw [zct]
  have ih':=fun t out=>ih t N out
  generalize zaF (fun _ _=>none) (zbI (zfw s a b) (zff (TT s a b) (zah s).length) j5) N=ag at ih' ⊢
  unfold zbI zkd
  by_cases h:f<(zah s).length
  ·obtain ⟨t,h1,h2,h3,h4,h5,_⟩:=zk6 hs ha hb hfe h
   have hg:zbF (zff (TT s a b) (zah s).length) (f:Int)=some (TT s a b f):=zcE (zez _ _ f (by omega))
   rw [if_pos h,h1,Int.toNat_natCast]
   refine zaz (decide_eq_true (by show (f:Int)<((zah s).length:Int); omega)) (zaJ hg (zbo (by omega) (zaJ hg ?_)))
   rw [h1]
   rw [ih' t (out++[(t:Int)]) h5 (by omega) (by omega) (by rw [List.length_append]; simp; omega) h3,List.append_assoc]; rfl
  ·rw [if_neg h]
   refine zay (decide_eq_false (by show ¬ ((f:Int)<((zah s).length:Int)); omega)) ?_
   show j5 out=j5 (out++[])
   rw [List.append_nil]
theorem zph:zoq s a b 0:=by
 by_cases h:0<(zah s).length
 ·exact .inr ⟨h,zyM (zfU hs ha hb) (zah s).length 0 (by omega) h (.inl rfl)⟩
 ·exact .inl (by omega)
abbrev zk9 (s:ByteArray) (a b:Int):List Nat:=zkd s a b (zah s).length 0
theorem zuA:zdL (zfw s a b)=some ((zk9 s a b).map (fun t=>((t:Nat):Int)),(TT s a b 0).cost):=by
 have hle:=zh4 hs
 unfold zdL
 refine zbs (zbo ⟨by show _≤((zah s).length:Int)+1; omega,by show ((zah s).length:Int)+1≤_; omega⟩ (zbo ⟨by show _≤((zah s).length:Int)+1; omega,by show ((zah s).length:Int)+1≤_; omega⟩ (zbo ⟨by show _≤((zah s).length:Int) - 1; omega,by show ((zah s).length:Int) - 1≤_; omega⟩ ?_)))
 have e0:List.replicate (((zfw s a b).cells.length:Int)+1:Int).toNat (⟨0,0,0⟩:Gpage_best)=zff (Bf (Rs s a b) (Ks s a b) (zah s).length 0) (zah s).length:=by
  show List.replicate (((zah s).length:Int)+1:Int).toNat b0=_
  rw [show (((zah s).length:Int)+1:Int).toNat=(zah s).length+1 by omega]
  apply List.ext_getElem?
  intro j
  by_cases hj:j≤(zah s).length
  ·rw [zez _ _ j hj,List.getElem?_replicate,if_pos (by omega)]; rfl
  ·rw [List.getElem?_eq_none (by rw [List.length_replicate]; omega),List.getElem?_eq_none (by rw [zgz]; omega)]
 rw [e0]
 have ho:=zsQ hs ha hb (fun (all1:List Gpage_best)=>zbd (fun (j5:(List Int)→Option ((List Int)×Int))=>zaF (fun _ _=>none) (zbI (zfw s a b) all1 j5) zbV ([]:List Int) 0) (fun (out1:List Int)=>zak (zbF all1 0) fun (q10:Gpage_best)=>some (out1,q10.cost))) (zah s).length 0 zbV (by omega) (by have:=zb8 (n:=(zah s).length) (by omega); omega)
 rw [show ((zah s).length:Int) - 1 - ((0:Nat):Int)=((zah s).length:Int) - 1 by omega] at ho
 refine ho.trans (zbs ?_)
 have he:=zsR hs ha hb (fun (out1:List Int)=>zak (zbF (zff (TT s a b) (zah s).length) 0) fun (q10:Gpage_best)=>some (out1,q10.cost)) (zah s).length 0 zbV [] (zph hs ha hb) (by omega) (by have:=zb8 (n:=(zah s).length) (by omega); omega) (Nat.zero_le _) (Nat.zero_le _)
 rw [show ((0:Nat):Int)=0 from rfl,List.nil_append] at he
 refine he.trans (zaJ (zdE (n:=0) rfl (zez _ _ 0 (Nat.zero_le _))) rfl)
end
def stN (s:ByteArray) (k:Nat):Int:=match (zah s)[k]? with | some c=>c.Span_From | none=>(s.size:Int)
theorem zp6:∀ (cs:List zd8) (a b:Int),Cov a cs b→∀ (k:Nat) (c:zd8),cs[k]?=some c→c.Span_To=(match cs[k+1]? with | some d=>d.Span_From | none=>b)
 | [],_,_,_,k,c,h=>by simp at h
 | d::cs,a,b,hc,k,c,h=>by
  obtain ⟨h1,h2,h3,h4⟩:=hc
  cases k with
  | zero =>
   have e:d=c:=by simpa using h
   subst e
   cases cs with
   | nil=>exact h4
   | cons e es=>exact h4.1.symm
  | succ k =>
   have:=zp6 cs _ b h4 k c (by simpa using h)
   simpa using this
theorem zh5 (s:ByteArray) {k:Nat} {c:zd8} (h:(zah s)[k]?=some c):stN s k=c.Span_From∧stN s (k+1)=c.Span_To∧0≤c.Span_From∧c.Span_From<c.Span_To∧c.Span_To≤(s.size:Int):=by
 have hm:=(zeJ s).mem c (List.mem_of_getElem? h)
 refine ⟨by unfold stN; rw [h],?_,hm.1,hm.2.1,hm.2.2.1⟩
 have:=zp6 _ _ _ (zeJ s) k c h
 unfold stN; exact this.symm
theorem zkD (s:ByteArray):∀ (d f:Nat),f+d≤(zah s).length→stN s f+d≤stN s (f+d)
 | 0,f,h=>by show stN s f+(0:Int)≤stN s f; omega
 | d+1,f,h=>by
  have ih:=zkD s d f (by omega)
  have hx:(zah s)[f+d]?=some (zah s)[f+d]:=List.getElem?_eq_getElem (by omega)
  obtain ⟨h1,h2,h3,h4,h5⟩:=zh5 s hx
  rw [show f+(d+1)=f+d+1 by omega,h2]
  rw [h1] at ih
  push_cast; omega
theorem zvY (s:ByteArray):stN s 0=0:=by
 have h:=zeJ s
 unfold stN
 cases hc:zah s with
 | nil=>rw [hc] at h; exact (show (0:Int)=_ from h).symm
 | cons c cs=>rw [hc] at h; exact h.1
theorem zvX (s:ByteArray):stN s (zah s).length=(s.size:Int):=by
 unfold stN; rw [List.getElem?_eq_none (Nat.le_refl _)]
theorem zmL (s:ByteArray) {k:Nat} (h:k≤(zah s).length):0≤stN s k∧stN s k≤(s.size:Int):=by
 have h1:=zkD s k 0 (by omega)
 have h2:=zkD s ((zah s).length - k) k (by omega)
 rw [Nat.zero_add,zvY] at h1
 rw [show k+((zah s).length - k)=(zah s).length by omega,zvX] at h2
 omega
def zky (s:ByteArray) (f t:Nat):ByteArray:=zbS s (stN s f) (stN s t)
theorem zun {s:ByteArray} {a b:Int} (hs:s.size≤100000) (f t:Nat) (hf:f<t) (ht:t≤(zah s).length):zdK (zfw s a b) (f:Int) (t:Int)=some (zky s f t):=by
 have hle:=zh4 hs
 unfold zdK zky
 have hx:(zah s)[f]?=some (zah s)[f]:=List.getElem?_eq_getElem (by omega)
 have hy:(zah s)[t - 1]?=some (zah s)[t - 1]:=List.getElem?_eq_getElem (by omega)
 obtain ⟨h1,h2,h3,h4,h5⟩:=zh5 s hx
 obtain ⟨g1,g2,g3,g4,g5⟩:=zh5 s hy
 rw [show t - 1+1=t by omega] at g2
 have hl:=zkD s (t - f) f (by omega)
 rw [show f+(t - f)=t by omega] at hl
 refine zaJ (zcE hx) (zbo ⟨by omega,by omega⟩ (zaJ (zdE (n:=t - 1) (by omega) hy) (zbo ?_ ?_)))
 ·show 0≤(zah s)[f].Span_From∧(zah s)[f].Span_From≤(zah s)[t - 1].Span_To∧(zah s)[t - 1].Span_To≤(s.size:Int)
  rw [← h1,← g2]; omega
 ·show some (zbS s (zah s)[f].Span_From (zah s)[t - 1].Span_To)=_
  rw [h1,g2]
def zgl (s:ByteArray):Nat→List Nat→List ByteArray
 | _,[]=>[]
 | f,t::ts=>zky s f t::zgl s t ts
def zvB (n:Nat):Nat→List Nat→Prop
 | _,[]=>True
 | f,t::ts=>f<t∧t≤n∧zvB n t ts
section
variable {s:ByteArray} {a b:Int} (hs:s.size≤100000) (ha:0≤a∧a≤1000000) (hb:0≤b∧b≤1000000)
include hs ha hb
theorem zja:∀ (m f:Nat),zoq s a b f→f≤(zah s).length→zvB (zah s).length f (zkd s a b m f)
 | 0,f,_,_=>trivial
 | m+1,f,hfe,hf=>by
  unfold zkd
  split
  ·rename_i h
   obtain ⟨t,h1,h2,h3,h4,h5,_⟩:=zk6 hs ha hb hfe h
   rw [h1,Int.toNat_natCast]
   exact ⟨h2,h3,zja m t h5 h3⟩
  ·trivial
end
theorem zqW (s:ByteArray) (hs:s.size≤100000) (a b:Int) (c:Int) (j1:Int→List ByteArray→Option ((List ByteArray)×Int)) (E:List Nat):∀ (ts pre:List Nat) (f m:Nat) (out:List ByteArray),E=pre++ts→zvB (zah s).length f ts→ts.length<m→out.length≤pre.length→E.length≤100000 →
  zaF (fun _ _ _=>none) (zdr j1 (zfw s a b) (E.map (fun t=>((t:Nat):Int)),c)) m out (f:Int) (pre.length:Int)=j1 c (out++zgl s f ts)
 | [],pre,f,m,out,hE,_,hm,_,_=>by
  obtain ⟨m,rfl⟩:∃ q,m=q+1:=⟨m - 1,by simp at hm; omega⟩
  rw [zct]
  generalize zaF (fun _ _ _=>none) (zdr j1 (zfw s a b) (E.map (fun t=>((t:Nat):Int)),c)) m=ag
  unfold zdr
  refine zay (decide_eq_false (by rw [List.length_map,hE]; simp)) ?_
  show j1 c out=j1 c (out++[])
  rw [List.append_nil]
 | t::ts,pre,f,m,out,hE,hr,hm,ho,hl=>by
  obtain ⟨m,rfl⟩:∃ q,m=q+1:=⟨m - 1,by simp at hm; omega⟩
  obtain ⟨r1,r2,r3⟩:=hr
  have ih:=zqW s hs a b c j1 E ts (pre++[t]) t m (out++[zky s f t]) (by rw [hE]; simp) r3 (by simp at hm; omega) (by simp; omega) hl
  have hpl:pre.length<E.length:=by rw [hE]; simp
  rw [zct]
  generalize zaF (fun _ _ _=>none) (zdr j1 (zfw s a b) (E.map (fun t=>((t:Nat):Int)),c)) m=ag at ih ⊢
  have hg:(E.map (fun t=>((t:Nat):Int)))[pre.length]?=some (t:Int):=by rw [List.getElem?_map,hE]; simp
  rw [show (((pre++[t]).length:Nat):Int)=(pre.length:Int)+1 by simp] at ih
  unfold zdr
  refine zaz (zpa hg) (zaJ (zcE hg) (zaJ (zun hs f t r1 r2) (zbo (by omega) (zbo ⟨by omega,by omega⟩ ?_))))
  rw [ih,List.append_assoc]; rfl
theorem zmY {n:Nat}:∀ {ts:List Nat} {f:Nat},zvB n f ts→f+ts.length≤max n f
 | [],f,_=>by simp; omega
 | t::ts,f,h=>by
  obtain ⟨h1,h2,h3⟩:=h
  have:=zmY h3
  rw [List.length_cons]; omega
theorem zvO (s:ByteArray) (hs:s.size≤100000) (ind:Int) (l:Gapi_Layout) (h1:I64 (l.Width - ind)) (ha:0≤max 1 (l.Width - ind)∧max 1 (l.Width - ind)≤1000000) (hb:0≤l.Width - l.Turn∧l.Width - l.Turn≤1000000) :
  ze2 s ind l=some (zgl s 0 (zk9 s (max 1 (l.Width - ind)) (l.Width - l.Turn)),(TT s (max 1 (l.Width - ind)) (l.Width - l.Turn) 0).cost):=by
 unfold ze2
 refine zbs (zaJ (zo8 s hs ind l h1 ⟨by omega,by omega⟩) (zaJ (zuA hs ha hb) ?_))
 have hr:=zja hs ha hb (zah s).length 0 (zph hs ha hb) (Nat.zero_le _)
 have hl:0+(zk9 s (max 1 (l.Width - ind)) (l.Width - l.Turn)).length≤max (zah s).length 0:=zmY hr
 have hle:=zh4 hs
 have:=zqW s hs (max 1 (l.Width - ind)) (l.Width - l.Turn) (TT s (max 1 (l.Width - ind)) (l.Width - l.Turn) 0).cost (fun (cost1:Int) (out1:List ByteArray)=>some (out1,cost1)) (zk9 s (max 1 (l.Width - ind)) (l.Width - l.Turn)) (zk9 s (max 1 (l.Width - ind)) (l.Width - l.Turn)) [] 0 zbV [] rfl hr (by have:=zb8 (n:=(zah s).length) (by omega); omega) (Nat.le_refl _) (by omega)
 exact this
end Go.Proofs.YtbempdelckaccaaGreatDoor

namespace Go.Proofs.YtbempdelckaccaaGreatDoor
open Go.RowKit Go.Lib
set_option linter.unusedVariables false
set_option linter.unusedSimpArgs false
def zxb:List ByteArray→ByteArray
 | []=>⟨#[]⟩
 | x::xs=>x++zxb xs
section
variable {s:ByteArray} {a b:Int} (hs:s.size≤100000) (ha:0≤a∧a≤1000000) (hb:0≤b∧b≤1000000)
include hs ha hb
end
end Go.Proofs.YtbempdelckaccaaGreatDoor
