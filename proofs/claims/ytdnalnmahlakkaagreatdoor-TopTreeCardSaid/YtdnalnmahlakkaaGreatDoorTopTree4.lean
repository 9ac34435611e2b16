/-
  Texts laid together: LpR, LwJ, LwP, LwQ, LwR, LwS, LfF, LfG, LfP, LfT, LfR, LfU, LfW2, LfS. Nothing is assumed.
-/
import Derived.Test.YtdnalnmahlakkaaGreatDoorTopTree1
import Derived.Test.YtdnalnmahlakkaaGreatDoorTopTree2
import Derived.Test.YtdnalnmahlakkaaGreatDoorTopTree3
set_option maxRecDepth 100000
set_option maxHeartbeats 4000000
namespace Go.Proofs.YtdnalnmahlakkaaGreatDoor
abbrev zI (x : Int) : Value := .int .i64 x
abbrev zP (x : Nat) : Value := .pointer (some ⟨x, 0, none⟩)
end Go.Proofs.YtdnalnmahlakkaaGreatDoor
namespace Go.Proofs.YtdnalnmahlakkaaGreatDoor
open Go.RowKit Go.Lib
open Tryz
set_option linter.unusedVariables false
set_option linter.unusedSimpArgs false
theorem zbK {σ:List (Nat×Value)}:∀ {σ':List (Nat×Value)},σ'.map (fun p=>σ.lookup p.1)=σ'.map (fun p=>some p.2)→Sbs σ σ'
  | [],_=>zeQ
  | (t,v)::σ',h=>zb7 (List.cons.inj h).1 (zbK (List.cons.inj h).2)
theorem zsk {α:Type} {a0 a1:α} {l l':List α} (h:l=l'):a0::a1::l=a0::a1::l':=by rw [h]
theorem zhx {α:Type} {a0 a1 a2:α} {l l':List α} (h:l=l'):a0::a1::a2::l=a0::a1::a2::l':=by rw [h]
theorem zga {α:Type} {a0 a1 a2 a3:α} {l l':List α} (h:l=l'):a0::a1::a2::a3::l=a0::a1::a2::a3::l':=by rw [h]
theorem zhw {α:Type} {a0 a1 a2 a3 a4:α} {l l':List α} (h:l=l'):a0::a1::a2::a3::a4::l=a0::a1::a2::a3::a4::l':=by rw [h]
theorem zkM {α:Type} {a0 a1 a2 a3 a4 a5:α} {l l':List α} (h:l=l'):a0::a1::a2::a3::a4::a5::l=a0::a1::a2::a3::a4::a5::l':=by rw [h]
theorem zwU {α:Type} {a0 a1 a2 a3 a4 a5 a6:α} {l l':List α} (h:l=l'):a0::a1::a2::a3::a4::a5::a6::l=a0::a1::a2::a3::a4::a5::a6::l':=by rw [h]
theorem zxb {α:Type} {a0 a1 a2 a3 a4 a5 a6 a7:α} {l l':List α} (h:l=l'):a0::a1::a2::a3::a4::a5::a6::a7::l=a0::a1::a2::a3::a4::a5::a6::a7::l':=by rw [h]
theorem zkK {α:Type} {a0 a1 a2 a3 a4 a5 a6 a7 a8:α} {l l':List α} (h:l=l'):a0::a1::a2::a3::a4::a5::a6::a7::a8::l=a0::a1::a2::a3::a4::a5::a6::a7::a8::l':=by rw [h]
theorem zgb {α:Type} {a0 a1 a2 a3 a4 a5 a6 a7 a8 a9:α} {l l':List α} (h:l=l'):a0::a1::a2::a3::a4::a5::a6::a7::a8::a9::l=a0::a1::a2::a3::a4::a5::a6::a7::a8::a9::l':=by rw [h]
theorem zjc {α:Type} {a0 a1 a2 a3 a4 a5 a6 a7 a8 a9 a10:α} {l l':List α} (h:l=l'):a0::a1::a2::a3::a4::a5::a6::a7::a8::a9::a10::l=a0::a1::a2::a3::a4::a5::a6::a7::a8::a9::a10::l':=by rw [h]
theorem zsl {α:Type} {a0 a1 a2 a3 a4 a5 a6 a7 a8 a9 a10 a11:α} {l l':List α} (h:l=l'):a0::a1::a2::a3::a4::a5::a6::a7::a8::a9::a10::a11::l=a0::a1::a2::a3::a4::a5::a6::a7::a8::a9::a10::a11::l':=by rw [h]
theorem zwL {D:Nat→Prop} {i0 t0 i1 t1:Nat} {v0 v1:Value} {r r':List (Nat×Nat×Value)} (h:dl D r=dl D r'):dl D ((i0,t0,v0)::(i1,t1,v1)::r)=dl D ((i0,t0,v0)::(i1,t1,v1)::r'):=zaF (fun _=>rfl) (zaF (fun _=>rfl) h)
theorem znc {D:Nat→Prop} {i0 t0 i1 t1 i2 t2:Nat} {v0 v1 v2:Value} {r r':List (Nat×Nat×Value)} (h:dl D r=dl D r'):dl D ((i0,t0,v0)::(i1,t1,v1)::(i2,t2,v2)::r)=dl D ((i0,t0,v0)::(i1,t1,v1)::(i2,t2,v2)::r'):=zaF (fun _=>rfl) (zaF (fun _=>rfl) (zaF (fun _=>rfl) h))
theorem zxd {D:Nat→Prop} {i0 t0 i1 t1 i2 t2 i3 t3:Nat} {v0 v1 v2 v3:Value} {r r':List (Nat×Nat×Value)} (h:dl D r=dl D r'):dl D ((i0,t0,v0)::(i1,t1,v1)::(i2,t2,v2)::(i3,t3,v3)::r)=dl D ((i0,t0,v0)::(i1,t1,v1)::(i2,t2,v2)::(i3,t3,v3)::r'):=zaF (fun _=>rfl) (zaF (fun _=>rfl) (zaF (fun _=>rfl) (zaF (fun _=>rfl) h)))
theorem zxc {D:Nat→Prop} {i0 t0 i1 t1 i2 t2 i3 t3 i4 t4:Nat} {v0 v1 v2 v3 v4:Value} {r r':List (Nat×Nat×Value)} (h:dl D r=dl D r'):dl D ((i0,t0,v0)::(i1,t1,v1)::(i2,t2,v2)::(i3,t3,v3)::(i4,t4,v4)::r)=dl D ((i0,t0,v0)::(i1,t1,v1)::(i2,t2,v2)::(i3,t3,v3)::(i4,t4,v4)::r'):=zaF (fun _=>rfl) (zaF (fun _=>rfl) (zaF (fun _=>rfl) (zaF (fun _=>rfl) (zaF (fun _=>rfl) h))))
theorem zvn {D:Nat→Prop} {i0 t0 i1 t1 i2 t2 i3 t3 i4 t4 i5 t5:Nat} {v0 v1 v2 v3 v4 v5:Value} {r r':List (Nat×Nat×Value)} (h:dl D r=dl D r'):dl D ((i0,t0,v0)::(i1,t1,v1)::(i2,t2,v2)::(i3,t3,v3)::(i4,t4,v4)::(i5,t5,v5)::r)=dl D ((i0,t0,v0)::(i1,t1,v1)::(i2,t2,v2)::(i3,t3,v3)::(i4,t4,v4)::(i5,t5,v5)::r'):=zaF (fun _=>rfl) (zaF (fun _=>rfl) (zaF (fun _=>rfl) (zaF (fun _=>rfl) (zaF (fun _=>rfl) (zaF (fun _=>rfl) h)))))
theorem zvc {D:Nat→Prop} {i0 t0 i1 t1 i2 t2 i3 t3 i4 t4 i5 t5 i6 t6:Nat} {v0 v1 v2 v3 v4 v5 v6:Value} {r r':List (Nat×Nat×Value)} (h:dl D r=dl D r'):dl D ((i0,t0,v0)::(i1,t1,v1)::(i2,t2,v2)::(i3,t3,v3)::(i4,t4,v4)::(i5,t5,v5)::(i6,t6,v6)::r)=dl D ((i0,t0,v0)::(i1,t1,v1)::(i2,t2,v2)::(i3,t3,v3)::(i4,t4,v4)::(i5,t5,v5)::(i6,t6,v6)::r'):=zaF (fun _=>rfl) (zaF (fun _=>rfl) (zaF (fun _=>rfl) (zaF (fun _=>rfl) (zaF (fun _=>rfl) (zaF (fun _=>rfl) (zaF (fun _=>rfl) h))))))
theorem znQ {D:Nat→Prop} {i0 t0 i1 t1 i2 t2 i3 t3 i4 t4 i5 t5 i6 t6 i7 t7:Nat} {v0 v1 v2 v3 v4 v5 v6 v7:Value} {r r':List (Nat×Nat×Value)} (h:dl D r=dl D r'):dl D ((i0,t0,v0)::(i1,t1,v1)::(i2,t2,v2)::(i3,t3,v3)::(i4,t4,v4)::(i5,t5,v5)::(i6,t6,v6)::(i7,t7,v7)::r)=dl D ((i0,t0,v0)::(i1,t1,v1)::(i2,t2,v2)::(i3,t3,v3)::(i4,t4,v4)::(i5,t5,v5)::(i6,t6,v6)::(i7,t7,v7)::r'):=zaF (fun _=>rfl) (zaF (fun _=>rfl) (zaF (fun _=>rfl) (zaF (fun _=>rfl) (zaF (fun _=>rfl) (zaF (fun _=>rfl) (zaF (fun _=>rfl) (zaF (fun _=>rfl) h)))))))
theorem zsm {D:Nat→Prop} {i0 t0 i1 t1 i2 t2 i3 t3 i4 t4 i5 t5 i6 t6 i7 t7 i8 t8:Nat} {v0 v1 v2 v3 v4 v5 v6 v7 v8:Value} {r r':List (Nat×Nat×Value)} (h:dl D r=dl D r'):dl D ((i0,t0,v0)::(i1,t1,v1)::(i2,t2,v2)::(i3,t3,v3)::(i4,t4,v4)::(i5,t5,v5)::(i6,t6,v6)::(i7,t7,v7)::(i8,t8,v8)::r)=dl D ((i0,t0,v0)::(i1,t1,v1)::(i2,t2,v2)::(i3,t3,v3)::(i4,t4,v4)::(i5,t5,v5)::(i6,t6,v6)::(i7,t7,v7)::(i8,t8,v8)::r'):=zaF (fun _=>rfl) (zaF (fun _=>rfl) (zaF (fun _=>rfl) (zaF (fun _=>rfl) (zaF (fun _=>rfl) (zaF (fun _=>rfl) (zaF (fun _=>rfl) (zaF (fun _=>rfl) (zaF (fun _=>rfl) h))))))))
theorem zwW {D:Nat→Prop} {i0 t0 i1 t1 i2 t2 i3 t3 i4 t4 i5 t5 i6 t6 i7 t7 i8 t8 i9 t9:Nat} {v0 v1 v2 v3 v4 v5 v6 v7 v8 v9:Value} {r r':List (Nat×Nat×Value)} (h:dl D r=dl D r'):dl D ((i0,t0,v0)::(i1,t1,v1)::(i2,t2,v2)::(i3,t3,v3)::(i4,t4,v4)::(i5,t5,v5)::(i6,t6,v6)::(i7,t7,v7)::(i8,t8,v8)::(i9,t9,v9)::r)=dl D ((i0,t0,v0)::(i1,t1,v1)::(i2,t2,v2)::(i3,t3,v3)::(i4,t4,v4)::(i5,t5,v5)::(i6,t6,v6)::(i7,t7,v7)::(i8,t8,v8)::(i9,t9,v9)::r'):=zaF (fun _=>rfl) (zaF (fun _=>rfl) (zaF (fun _=>rfl) (zaF (fun _=>rfl) (zaF (fun _=>rfl) (zaF (fun _=>rfl) (zaF (fun _=>rfl) (zaF (fun _=>rfl) (zaF (fun _=>rfl) (zaF (fun _=>rfl) h)))))))))
theorem zwV {D:Nat→Prop} {i0 t0 i1 t1 i2 t2 i3 t3 i4 t4 i5 t5 i6 t6 i7 t7 i8 t8 i9 t9 i10 t10:Nat} {v0 v1 v2 v3 v4 v5 v6 v7 v8 v9 v10:Value} {r r':List (Nat×Nat×Value)} (h:dl D r=dl D r'):dl D ((i0,t0,v0)::(i1,t1,v1)::(i2,t2,v2)::(i3,t3,v3)::(i4,t4,v4)::(i5,t5,v5)::(i6,t6,v6)::(i7,t7,v7)::(i8,t8,v8)::(i9,t9,v9)::(i10,t10,v10)::r)=dl D ((i0,t0,v0)::(i1,t1,v1)::(i2,t2,v2)::(i3,t3,v3)::(i4,t4,v4)::(i5,t5,v5)::(i6,t6,v6)::(i7,t7,v7)::(i8,t8,v8)::(i9,t9,v9)::(i10,t10,v10)::r'):=zaF (fun _=>rfl) (zaF (fun _=>rfl) (zaF (fun _=>rfl) (zaF (fun _=>rfl) (zaF (fun _=>rfl) (zaF (fun _=>rfl) (zaF (fun _=>rfl) (zaF (fun _=>rfl) (zaF (fun _=>rfl) (zaF (fun _=>rfl) (zaF (fun _=>rfl) h))))))))))
theorem ziu {D:Nat→Prop} {i0 t0 i1 t1 i2 t2 i3 t3 i4 t4 i5 t5 i6 t6 i7 t7 i8 t8 i9 t9 i10 t10 i11 t11:Nat} {v0 v1 v2 v3 v4 v5 v6 v7 v8 v9 v10 v11:Value} {r r':List (Nat×Nat×Value)} (h:dl D r=dl D r'):dl D ((i0,t0,v0)::(i1,t1,v1)::(i2,t2,v2)::(i3,t3,v3)::(i4,t4,v4)::(i5,t5,v5)::(i6,t6,v6)::(i7,t7,v7)::(i8,t8,v8)::(i9,t9,v9)::(i10,t10,v10)::(i11,t11,v11)::r)=dl D ((i0,t0,v0)::(i1,t1,v1)::(i2,t2,v2)::(i3,t3,v3)::(i4,t4,v4)::(i5,t5,v5)::(i6,t6,v6)::(i7,t7,v7)::(i8,t8,v8)::(i9,t9,v9)::(i10,t10,v10)::(i11,t11,v11)::r'):=zaF (fun _=>rfl) (zaF (fun _=>rfl) (zaF (fun _=>rfl) (zaF (fun _=>rfl) (zaF (fun _=>rfl) (zaF (fun _=>rfl) (zaF (fun _=>rfl) (zaF (fun _=>rfl) (zaF (fun _=>rfl) (zaF (fun _=>rfl) (zaF (fun _=>rfl) (zaF (fun _=>rfl) h)))))))))))
def ztV (lk:Nat→Option Value):Operand→Option Value
  | .tmp t=>lk t
  | .const v=>some v
  | .func f=>some (.func (.func f) #[] #[])
  | .global _=>none
def zvd (lk:Nat→Option Value) (ops:Array Oper):Option (Nat×Bool)→Option Bool
  | none=>some true
  | some (j,b)=>match (ops[j]?).bind (·.dst) with
    | some t=>match lk t with
      | some (.bool c)=>some (c==b)
      | some (.tuple _)=>some false
      | _=>none
    | none=>none
def zt0 (lk:Nat→Option Value) (N:Nat) (ops:Array Oper) (o:Oper):Option (Nat×Value) :=
  match o.dst with
  | none=>none
  | some d=>match Nat.blt d N with
    | false=>none
    | true=>match zvd lk ops o.guard with
      | none=>none
      | some false=>some (d,undef)
      | some true=>match o.op with
        | .move x=>match ztV lk x with
          | some v=>some (d,v)
          | none=>none
        | .assign x=>match ztV lk x with
          | some v=>some (d,v)
          | none=>none
        | .pick x y z=>match ztV lk x with
          | some (.bool true)=>match ztV lk y with
            | some v=>some (d,v)
            | none=>none
          | some (.bool false)=>match ztV lk z with
            | some v=>some (d,v)
            | none=>none
          | _=>none
        | _=>none
theorem zjd {lk:Nat→Option Value} {S:List (Nat×Value)} (hl:∀ t v,lk t=some v→S.lookup t=some v) {x:Operand} {v:Value} (h:ztV lk x=some v):ev S x=some v:=by
  cases x with
  | tmp t=>exact hl t v h
  | const c=>exact h
  | func f=>exact h
  | global g=>exact h
theorem zsn {lk:Nat→Option Value} {S:List (Nat×Value)} {ops:Array Oper} (hl:∀ t v,lk t=some v→S.lookup t=some v) {g:Option (Nat×Bool)} {r:Bool} (h:zvd lk ops g=some r):gd ops S g=some r:=by
  cases g with
  | none=>exact h
  | some p =>
    obtain ⟨j,b⟩:=p
    unfold zvd at h; unfold gd
    dsimp only at h ⊢
    cases ht:(ops[j]?).bind (·.dst) with
    | none=>rw [ht] at h; cases h
    | some t =>
      rw [ht] at h; dsimp only at h ⊢
      cases hk:lk t with
      | none=>rw [hk] at h; cases h
      | some v=>rw [hk] at h; rw [hl t v hk]; exact h
theorem zly {F:Fence} [WideF F] {P:Program} {w0:World} {K:Nat→Prop} {N:Nat} {dfs:List Deferred} {ops:Array Oper} {Q:Exit→Act→World→Prop} {rest:List Oper} {lk:Nat→Option Value} {S:List (Nat×Value)} {L:List Asn} {o:Oper} {t:Nat} {v:Value}
    (hl:∀ t v,lk t=some v→S.lookup t=some v) (e:zt0 lk N ops o=some (t,v)) (h:TO F P w0 K N dfs ops Q rest ((t,v)::S) L):TO F P w0 K N dfs ops Q (o::rest) S L:=by
  obtain ⟨dst,op,ty,pos,aft,g⟩:=o
  unfold zt0 at e
  cases dst with
  | none=>cases e
  | some d =>
    dsimp only at e
    cases hb:Nat.blt d N with
    | false=>rw [hb] at e; cases e
    | true =>
    have hd:d<N:=Nat.lt_of_lt_of_le (Nat.lt_succ_self d) (Nat.le_of_ble_eq_true hb)
    rw [hb] at e; dsimp only at e
    cases hg:zvd lk ops g with
    | none=>rw [hg] at e; cases e
    | some gb =>
      rw [hg] at e
      have hg':=zsn hl hg
      cases gb with
      | false=>cases e; exact zaW hg' hd h
      | true =>
        cases op <;> dsimp only at e <;> first | (cases e; done) | skip
        · split at e
          · cases e; exact zaD hg' hd (zjd hl (by assumption)) h
          · cases e
        · split at e
          · cases e; exact zaw hg' hd (zjd hl (by assumption)) h
          · cases e
        · split at e
          · split at e
            · cases e; exact zbx (b:=true) hg' hd (zjd hl (by assumption)) (zjd hl (by assumption)) h
            · cases e
          · split at e
            · cases e; exact zbx (b:=false) hg' hd (zjd hl (by assumption)) (zjd hl (by assumption)) h
            · cases e
          · cases e
def zvo (N:Nat) (ops:Array Oper):Nat→List Oper→List (Nat×Value)→Option (List Oper×List (Nat×Value))
  | 0,r,σ=>some (r,σ)
  | n+1,o::r,σ=>match zt0 (fun t=>σ.lookup t) N ops o with
    | some p=>zvo N ops n r (p::σ)
    | none=>none
  | _+1,[],_=>none
theorem zyR {F:Fence} [WideF F] {P:Program} {w0:World} {K:Nat→Prop} {N:Nat} {dfs:List Deferred} {ops:Array Oper} {Q:Exit→Act→World→Prop} {L:List Asn} (n:Nat):∀ {rest rest':List Oper} {σ σ':List (Nat×Value)},
    zvo N ops n rest σ=some (rest',σ')→TO F P w0 K N dfs ops Q rest' σ' L→TO F P w0 K N dfs ops Q rest σ L:=by
  induction n with
  | zero=>intro rest rest' σ σ' e h; cases e; exact h
  | succ n ih =>
    intro rest rest' σ σ' e h
    cases rest with
    | nil=>cases e
    | cons o r =>
      simp only [zvo] at e
      split at e
      · exact zly (fun _ _ h=>h) (by assumption) (ih e h)
      · cases e
def zt1 (deps:List Nat) (σ:List (Nat×Value)) (t:Nat):List (Nat×Nat×Value)→Option Value
  | []=>σ.lookup t
  | (i,t',v)::r=>match Nat.beq t t' with
    | true=>match deps.contains i with
      | true=>some v
      | false=>none
    | false=>zt1 deps σ t r
theorem zlz {D:Nat→Prop} {deps:List Nat} {σ:List (Nat×Value)} (hd:∀ j∈deps,D j) (t:Nat) (v:Value):∀ {vals:List (Nat×Nat×Value)},zt1 deps σ t vals=some v→(dl D vals++σ).lookup t=some v
  | [],h=>h
  | (i,t',v')::r,h=>by
    unfold zt1 at h
    cases hb:Nat.beq t t' with
    | true =>
      rw [hb] at h; dsimp only at h
      have e:t=t':=Nat.eq_of_beq_eq_true hb
      subst e
      split at h
      · cases h
        have hD:D i:=hd i (by simpa using (by assumption:deps.contains i=true))
        simp only [dl]
        rw [if_pos hD]
        simp
      · cases h
    | false =>
      rw [hb] at h; dsimp only at h
      have ih:=zlz (σ:=σ) hd t v h
      have hn:(t==t')=false:=by
        have:t≠t':=Nat.ne_of_beq_eq_false hb
        simpa using this
      simp only [dl]
      split
      · simp only [List.cons_append,List.lookup,hn]; exact ih
      · exact ih
def zqA (N:Nat) (ops:Array Oper) (σ:List (Nat×Value)) (vals:List (Nat×Nat×Value)):Nat→List Oper→Nat→Option (List Oper×Nat×List (Nat×Nat×Value))
  | 0,r,i=>some (r,i,[])
  | n+1,o::r,i=>match zt0 (fun t=>zt1 (zdA o) σ t vals) N ops o with
    | some p=>match zqA N ops σ vals n r (i+1) with
      | some q=>some (q.1,q.2.1,(i,p.1,p.2)::q.2.2)
      | none=>none
    | none=>none
  | _+1,[],_=>none
section
variable {F:Fence} {P:Program} {w0:World} {K:Nat→Prop} {N:Nat} {dfs:List Deferred} {Q:Exit→Act→World→Prop} {σ:List (Nat×Value)} {L:List Asn} {ops:Array Oper}
theorem ziL {vals:List (Nat×Nat×Value)} {n m i i':Nat} {o:Oper} {r rest':List Oper} (e:zqA N ops σ vals (n+1) (o::r) i=some (rest',i',(vals.drop m).take (n+1))) :
    ∃ t v,zt0 (fun t=>zt1 (zdA o) σ t vals) N ops o=some (t,v)∧vals[m]?=some (i,t,v)∧zqA N ops σ vals n r (i+1)=some (rest',i',(vals.drop (m+1)).take n):=by
  simp only [zqA] at e
  split at e
  · rename_i p hp
    split at e
    · rename_i q hq
      obtain ⟨q1,q2,q3⟩:=q
      simp only [Option.some.injEq,Prod.mk.injEq] at e
      obtain ⟨rfl,rfl,e⟩:=e
      cases hdr:vals.drop m with
      | nil=>rw [hdr] at e; simp at e
      | cons x xs =>
        rw [hdr,List.take_succ_cons,List.cons.injEq] at e
        have hm:vals[m]?=some x:=by
          have:(vals.drop m)[0]?=some x:=by rw [hdr]; rfl
          simpa using this
        refine ⟨p.1,p.2,hp,by rw [hm,← e.1],?_⟩
        have:vals.drop (m+1)=xs:=by rw [← List.drop_drop,hdr]; rfl
        rw [this,← e.2]; exact hq
    · cases e
  · cases e
theorem zyP [WideF F] {vals:List (Nat×Nat×Value)} (n m:Nat):∀ {l rest':List Oper} {i i':Nat},zqA N ops σ vals n l i=some (rest',i',(vals.drop m).take n) →
    DrawPre F P w0 K N dfs Q ops σ L vals rest' i'→DrawPre F P w0 K N dfs Q ops σ L vals l i:=by
  induction n generalizing m with
  | zero=>intro l rest' i i' e h; cases e; exact h
  | succ n ih =>
    intro l rest' i i' e h
    cases l with
    | nil=>cases e
    | cons o r =>
      obtain ⟨t,v,h1,h2,h3⟩:=ziL e
      exact zae (fun D hn hd hcl hu hi=>zly (fun t v h=>zlz hd t v h) h1 (zbf m hu hi h2)) (ih (m+1) h3 h)
theorem zyE [WideF F] {vals:List (Nat×Nat×Value)} {x:Nat} (n m:Nat):∀ {l rest':List Oper} {i i':Nat},zqA N ops σ vals n l i=some (rest',i',(vals.drop m).take n) →
    DrawPreX F P w0 K N dfs Q ops σ L vals x rest' i'→DrawPreX F P w0 K N dfs Q ops σ L vals x l i:=by
  induction n generalizing m with
  | zero=>intro l rest' i i' e h; cases e; exact h
  | succ n ih =>
    intro l rest' i i' e h
    cases l with
    | nil=>cases e
    | cons o r =>
      obtain ⟨t,v,h1,h2,h3⟩:=ziL e
      exact zas (fun D hn hd hcl hu hi=>zly (fun t v h=>zlz hd t v h) h1 (zbf m hu hi h2)) (ih (m+1) h3 h)
def zyQ {β:Type} (S:List Nat) (LL:(Nat→Prop)→β→List Asn):Prop:=∀ i,S.contains i=false→∀ D b,LL (fun j=>D j∨j=i) b=LL D b
theorem ztU {D:Nat→Prop} {i:Nat} {base:Asn} {r:List (Nat×Asn)} {S:List Nat} (hs:(r.map Prod.fst).all (fun x=>S.contains x)=true) (h:S.contains i=false):eD (fun j=>D j∨j=i) base r=eD D base r:=by
  refine zbg ?_
  cases hc:(r.map Prod.fst).contains i with
  | false=>rfl
  | true =>
    have h1:i∈r.map Prod.fst:=by simpa using hc
    have h2:=List.all_eq_true.1 hs i h1
    have h3:S.contains i=true:=h2
    rw [h] at h3; cases h3
theorem zvp {β:Type} {vals:β→List (Nat×Nat×Value)} {LL:(Nat→Prop)→β→List Asn} (hb:¬ Nonempty β):∀ (l:List Oper) (i:Nat),DrawG F P w0 K N dfs Q ops σ vals LL l i
  | [],_=>trivial
  | o::r,i=>⟨fun D b=>absurd ⟨b⟩ hb,zvp hb r (i+1)⟩
theorem zyq {β:Type} {vals:β→List (Nat×Nat×Value)} {LL:(Nat→Prop)→β→List Asn} {S:List Nat} {o:Oper} {rest:List Oper} {i:Nat} (hq:zyQ S LL) (hs:S.contains i=false)
    (hu:∀ b,zdl ((vals b).map (fun p=>p.2.1))=true) (hi:∀ b,zdl ((vals b).map (fun p=>p.1))=true)
    (h:∀ (D:Nat→Prop) (b:β),¬ D i→(∀ j∈zdA o,D j)→Clo ops D→zdl ((vals b).map (fun p=>p.2.1))=true→zdl ((vals b).map (fun p=>p.1))=true →
      TO F P w0 K N dfs ops (Exit.then (fun a w=>At N dfs (dl (fun j=>D j∨j=i) (vals b)++σ) a∧Holds w0 K (LL D b) w) Q) [o] (dl D (vals b)++σ) (LL D b))
    (hr:DrawG F P w0 K N dfs Q ops σ vals LL rest (i+1)):DrawG F P w0 K N dfs Q ops σ vals LL (o::rest) i :=
  zbd (fun D b hn hd hcl a w ha hw=>by
    have h0:=h D b hn hd hcl (hu b) (hi b) a w ha hw
    exact zck (fun a' w' h2=>⟨b,h2.1,by rw [hq i hs D b]; exact h2.2⟩) h0) hr
theorem zvm [WideF F] {β:Type} {vals:β→List (Nat×Nat×Value)} {LL:(Nat→Prop)→β→List Asn} {S:List Nat} (hq:zyQ S LL)
    (hu:∀ b,zdl ((vals b).map (fun p=>p.2.1))=true) (hi:∀ b,zdl ((vals b).map (fun p=>p.1))=true) (n m:Nat):∀ {l rest':List Oper} {i i':Nat},
    (∀ b,zqA N ops σ (vals b) n l i=some (rest',i',((vals b).drop m).take n))→(List.range n).all (fun j=>!S.contains (i+j))=true →
    DrawG F P w0 K N dfs Q ops σ vals LL rest' i'→DrawG F P w0 K N dfs Q ops σ vals LL l i:=by
  induction n generalizing m with
  | zero =>
    intro l rest' i i' e hs h
    by_cases hb:Nonempty β
    · obtain ⟨b⟩:=hb
      have e:=e b
      simp only [zqA,Option.some.injEq,Prod.mk.injEq] at e
      obtain ⟨rfl,rfl,_⟩:=e
      exact h
    · exact zvp hb _ _
  | succ n ih =>
    intro l rest' i i' e hs h
    by_cases hb:Nonempty β
    · obtain ⟨b0⟩:=hb
      cases l with
      | nil=>exact absurd (e b0) (by simp [zqA])
      | cons o r =>
        have hs0:S.contains i=false:=by
          have:=List.all_eq_true.1 hs 0 (by simp)
          simpa using this
        have hs1:(List.range n).all (fun j=>!S.contains (i+1+j))=true:=by
          refine List.all_eq_true.2 fun j hj => ?_
          have:=List.all_eq_true.1 hs (j+1) (by simp at hj ⊢; omega)
          rwa [show i+(j+1)=i+1+j by omega] at this
        refine zyq hq hs0 hu hi (fun D b hn hd hcl hu' hi' => ?_) (ih (m+1) (fun b => ?_) hs1 h)
        · obtain ⟨t,v,h1,h2,h3⟩:=ziL (e b)
          exact zly (fun t v h=>zlz hd t v h) h1 (zbf m hu' hi' h2)
        · obtain ⟨t,v,h1,h2,h3⟩:=ziL (e b)
          exact h3
    · exact zvp hb _ _
end
section
variable {F:Fence} {P:Program} {w0:World} {K:Nat→Prop} {N:Nat} {dfs:List Deferred} {Q:Exit→Act→World→Prop} {σ:List (Nat×Value)} {L:List Asn} {ops:Array Oper}
theorem zsj {β:Type} {vals:β→List (Nat×Nat×Value)} {LL:(Nat→Prop)→β→List Asn} {S:List Nat} {o:Oper} {rest:List Oper} {i:Nat} (hq:zyQ S LL) (hs:S.contains i=false)
    (hu:∀ b,zdl ((vals b).map (fun p=>p.2.1))=true) (hi:∀ b,zdl ((vals b).map (fun p=>p.1))=true)
    (h:∀ (D:Nat→Prop) (b:β),¬ D i→(∀ j∈zdA o,D j)→Clo ops D→zdl ((vals b).map (fun p=>p.2.1))=true→zdl ((vals b).map (fun p=>p.1))=true→∃ L',LL D b=L' ∧
      TO F P w0 K N dfs ops (Exit.then (fun a w=>At N dfs (dl (fun j=>D j∨j=i) (vals b)++σ) a∧Holds w0 K L' w) Q) [o] (dl D (vals b)++σ) L')
    (hr:DrawG F P w0 K N dfs Q ops σ vals LL rest (i+1)):DrawG F P w0 K N dfs Q ops σ vals LL (o::rest) i :=
  zyq hq hs hu hi (fun D b hn hd hcl hu hi=>by obtain ⟨L',e,h0⟩:=h D b hn hd hcl hu hi; rw [e]; exact h0) hr
end
section
variable {R:Type} {F:Fence} {P:Program} {w0:World} {K:Nat→Prop} {N:Nat} {dfs:List Deferred} {ops:Array Oper} {Q:Exit→Act→World→Prop} {rest:List Oper} {σ:List (Nat×Value)} {L:List Asn} {x:Operand} {c c1 c2:Code} {p q:Option R} {r:R} {b:Bool}
theorem zyB (hc:ev σ x=some (.bool b)) (h:zaL b p q=some r) (ht:p=some r→TC F P w0 K N dfs Q c1 σ L) (hf:q=some r→TC F P w0 K N dfs Q c2 σ L):TC F P w0 K N dfs Q (.cond x c1 c2) σ L:=zbb hc (fun e=>ht (zg5 e h)) (fun e=>hf (zg6 e h))
theorem zbn [WideF F] {b:BinOp} {t yt ty:TypeId} {d:Nat} {pos:String} {aft:Array Edge} {g:Option (Nat×Bool)} {x y:Operand} {v v1 v2:Value} (e:(gd ops σ g,decide (d<N),ev σ x,ev σ y)=(some true,true,some v1,some v2))
    (hb:∀ w:World,(do eqGuard b t x y v1 v2; binOp b t v1 v2:Sem Value).run P w=.ok v w) (h:TO F P w0 K N dfs ops Q rest ((d,v)::σ) L) :
    TO F P w0 K N dfs ops Q (⟨some d,.binOp b t x y yt,ty,pos,aft,g⟩::rest) σ L:=by
  simp only [Prod.mk.injEq] at e
  exact zaX e.1 (of_decide_eq_true e.2.1) e.2.2.1 e.2.2.2 hb h
theorem zyN (h:TC F P w0 K N dfs Q c σ L):TO F P w0 K N dfs ops (Exit.then (c.wpIn F 0 P Q) Q) [] σ L:=zap (zag h)
theorem zyG {id:Nat} {l:List Oper} (h:TO F P w0 K N dfs l.toArray (Exit.then (c.wpIn F 0 P Q) Q) l σ L):TC F P w0 K N dfs Q (.seq (.region id l.toArray false) c) σ L:=zar (zad h)
theorem zyH {id:Nat} {l:List Oper} (h:TO F P w0 K N dfs l.toArray (Exit.then (c.wpIn F 0 P Q) Q) l σ L):TO F P w0 K N dfs ops (Exit.then ((Code.seq (.region id l.toArray false) c).wpIn F 0 P Q) Q) [] σ L:=zap (zag (zar (zad h)))
theorem zyS {s:Nat} (hs:σ.lookup s=some (.bool b)) (h:zaL b p q=some r) (ht:p=some r→TO F P w0 K N dfs ops Q rest ((s,.bool true)::σ) L) (hf:q=some r→TO F P w0 K N dfs ops Q rest ((s,.bool false)::σ) L):TO F P w0 K N dfs ops Q rest σ L:=zes hs (fun e=>ht (zg5 e h)) (fun e=>hf (zg6 e h))
theorem zyO (h:zaL b p q=some r) (ht:p=some r→TO F P w0 K N dfs ops Q rest σ L) (hf:q=some r→TO F P w0 K N dfs ops Q rest σ L):TO F P w0 K N dfs ops Q rest σ L:=zgh (b:=b) (fun e=>ht (zg5 e h)) (fun e=>hf (zg6 e h))
theorem zyC (h:zaL b p q=some r) (ht:p=some r→TC F P w0 K N dfs Q c σ L) (hf:q=some r→TC F P w0 K N dfs Q c σ L):TC F P w0 K N dfs Q c σ L:=zej (b:=b) (fun e=>ht (zg5 e h)) (fun e=>hf (zg6 e h))
abbrev zxe (F:Fence) (P:Program) (w0:World) (K:Nat→Prop) (N:Nat) (dfs:List Deferred) (ops:Array Oper) (Q:Exit→Act→World→Prop) (rest:List Oper) (σ:List (Nat×Value)) (L:List Asn):Prop:=TO F P w0 K N dfs ops Q rest σ L
end
abbrev zr0 (x:zbp):List Value:=[.string x.Name,.string x.Text]
abbrev zr1 (x:zaY):List Value:=[zI x.At,zI x.Width,.int .i32 x.Rune,.bool x.Broken]
abbrev zr2 (x:zbY):List Value:=[zI x.Err,zI x.At]
abbrev zr3 (x:zaO):List Value:=[zI x.Span_From,zI x.Span_To,zI x.Columns]
abbrev zv0 (v:Value):=vec zgA 9 1 v
abbrev zv1 (v:Value):=vec ze1 64 2 v
abbrev zv2 (v:Value):=vec zaq 70 2 v
abbrev zv3 (v:Value):=vec (zfH (.i64)) 3 1 v
abbrev zv4 (v:Value):=vec zam 62 1 v
abbrev zv5 (v:Value):=vec (zfH (.i32)) 21 1 v
abbrev zv6 (v:Value):=vec zaj 55 1 v
abbrev zv7 (v:Value):=vec zbo 140 5 v
abbrev zv8 (v:Value):=vec zbj 156 2 v
abbrev zv9 (v:Value):=vec enc_Gapi_Witness 30 2 v
def zft (r1:Int):Option Int := zcd (fun (j1:Option Int) => zaL ((r1:Int) != 65533) ( zaL (decide (Utf8.encode r1=(⟨#[239,191,189]⟩:zBA))) ( some 0
) ( j1
)
) ( j1
)
) ( some ((Utf8.encode r1).size:Int)
)
theorem zkS {r1:Int} {r:Int} (h:zft r1=some r):FnP prog 51 [.int .i32 r1] (zI r):=by
 unfold zft at h
 refine FnP.intro func51 rfl ntmps51 (by simp) ?_
 intro w0 K
 obtain ⟨j1,hj1,h⟩:=zcC h
 refine zbF (β:=Unit) 1 rfl (fun b=>j1=some r) (fun b=>[]) (fun b=>[(0,.int .i32 r1)]) (fun b=>[]) (fun cut => ?_) ?_
 ·
  refine zyG (zyR 1 rfl (zyN (cut (zyG (zyR 1 rfl (zbn rfl zdZ (zyR 1 rfl ?_)))))))
  refine zyS (s:=5) rfl h (fun h => ?_) (fun h => ?_)
  ·
   refine zyR 1 rfl (zf9 rfl dc rfl (zfa underlying21 underlying9) (zbn rfl zh6 (zyR 1 rfl (zyN ?_))))
   refine zyB rfl h (fun h => ?_) (fun h => ?_)
   ·
    refine zyG (zyR 1 rfl (zyN (zaE (zao ?_))))
    cases h
    exact zbN 2 results51
   refine zax ?_
   exact zaB () h rfl (zbK rfl) Splits.nil
  refine zyR 4 rfl (zyN (zaS rfl (zax ?_)))
  exact zaB () h rfl (zbK rfl) Splits.nil
 rintro _ h
 rw [hj1] at h
 refine zyG (zyR 1 rfl (zf9 rfl dc rfl (zfa underlying21 underlying9) (zdC rfl dc rfl underlying9 (zyR 1 rfl (zyN (zaE ?_))))))
 cases h
 exact zbN 2 results51
def zeV (s1:zBA) (at1:Int) (j1:Option zaY) (ag1:Option zaY):Option zaY := zaL (decide (0<(pcs (zgT s1 at1 (s1.size:Int)).data.toList).length)) ( zaA ((pcs (zgT s1 at1 (s1.size:Int)).data.toList)[0]?) fun (p1:Pc) => zcd (fun (j2:Int→Option zaY) => zaA (zft (p1.r:Int)) fun (r1:Int) => zaL (((p1.r:Int):Int)==65533) ( grd (I64 ((s1.size:Int) - at1)) <| zaL (decide ((((s1.size:Int) - at1):Int)<3)) ( some (⟨at1,1,65533,true⟩:zaY)
) ( grd (I64 (at1+3)) <| grd (0≤(at1:Int)∧(at1:Int)≤(at1+3)∧(at1+3:Int)≤(s1.size:Int)) <| zaL (!decide (zgT s1 at1 (at1+3)=(⟨#[239,191,189]⟩:zBA))) ( some (⟨at1,1,65533,true⟩:zaY)
) ( j2 r1
)
)
) ( j2 r1
)
) (fun (n2:Int) => some (⟨at1,n2,(p1.r:Int),false⟩:zaY)
)
) ( j1
)
def zeM (s1:zBA) (at1:Int):Option zaY := zcd (fun (j1:Option zaY) => grd (0≤(at1:Int)∧(at1:Int)≤(s1.size:Int)∧((s1.size:Int):Int)≤(s1.size:Int)) <| zbq none (zeV s1 at1 j1) zc9
) ( some (⟨0,0,0,false⟩:zaY)
)
theorem ziT {s1:zBA} {at1:Int} {r:zaY} (h:zeM s1 at1=some r):FnP prog 30 [.string s1,zI at1] (.agg (zr1 r).toArray):=by
 unfold zeM at h
 refine FnP.intro func30 rfl ntmps30 (by simp) ?_
 intro w0 K
 obtain ⟨j1,hj1,h⟩:=zcC h
 refine zbF (β:=Nat) 1 rfl (fun b=>j1=some r) (fun b=>[]) (fun b=>[(4,zP b)]) (fun b=>[cells b [zI 0,zI 0,.int .i32 0,.bool false] 47]) (fun cut => ?_) ?_
 ·
  refine zyG ?_
  refine za6 zje rfl dc (fun b2 => ?_)
  refine zyN (cut (zyG (zyR 2 rfl ?_)))
  obtain ⟨hg1,h⟩:=zcU h
  refine zeG rfl dc rfl rfl rfl (zek (i:=at1) (j:=(s1.size:Int)) underlying9 (.inr rfl) (.inl ⟨rfl,rfl⟩) hg1) ?_
  refine zea underlying9 rfl dc rfl (fun b3 => ?_)
  refine zyN (zaK ?_)
  refine zdy (β:=Nat) (fun b=>zbq none (zeV s1 at1 j1) b=some r) (fun b=>[]) (fun b=>[(0,.string s1),(1,zI at1),(4,zP b2),(11,zP b3)]) (fun b=>[cells b2 [zI 0,zI 0,.int .i32 0,.bool false] 47,obj b3 (.stringIter (zgT s1 at1 (s1.size:Int)) (zeW (zgT s1 at1 (s1.size:Int)) 0))]) (fun b=>b) zc9 h rfl (zbK rfl) (zaa [0,1] kr rfl) ?_
  rintro n1 h
  cases n1 with
  | zero=>exact zfG h
  | succ n1 =>
   obtain ⟨ag1,hag1⟩:∃ ag,ag=zbq none (zeV s1 at1 j1) n1:=⟨_,rfl⟩
   have h:zeV s1 at1 j1 ag1=some r:=by rw [hag1]; exact h
   unfold zeV at h
   refine zyG ?_
   refine zgh (b:=decide (0<(pcs (zgT s1 at1 (s1.size:Int)).data.toList).length)) (fun hb1 => ?_) (fun hb1 => ?_)
   ·
    have h:=zg5 hb1 h
    obtain ⟨p1,hq1,h⟩:=zcp h
    refine zex (k:=1) (m:=0) (p:=p1) rfl dc rfl rfl hq1 (zaJ rfl dc rfl rfl (zyN (zar (zbw rfl (zax (zag (zaK ?_)))))))
    obtain ⟨j2,hj2,h⟩:=zcC h
    refine zbF (β:=Int) 2 rfl (fun b=>j2 b=some r) (fun b=>[]) (fun b=>[(1,zI at1),(4,zP b2),(6,.int .i32 (p1.r:Int)),(7,zI b)]) (fun b=>[cells b2 [zI 0,zI 0,.int .i32 0,.bool false] 47]) (fun cut => ?_) ?_
    ·
     refine zyG (zaJ rfl dc rfl rfl (zyR 1 rfl (zyH (zyR 1 rfl ?_))))
     obtain ⟨r1,hq2,h⟩:=zcp h
     refine zbv (v:=zI r1) (vs:=[.int .i32 (p1.r:Int)]) rfl dc rfl rfl rfl zp2 (zkS hq2) (zyR 1 rfl (zyN (cut (zyG (zyR 1 rfl (zbn rfl zaP (zyR 1 rfl ?_)))))))
     refine zyS (s:=19) rfl h (fun h => ?_) (fun h => ?_)
     ·
      refine zyR 1 rfl (zdC rfl dc rfl underlying9 (zyR 1 rfl ?_))
      obtain ⟨hg2,h⟩:=zcU h
      refine zbn rfl (zfO (r:=(s1.size:Int) - at1) (IntWalk.i64_in _ hg2)) (zbn rfl zb4 (zyR 1 rfl ?_))
      refine zyS (s:=25) rfl h (fun h => ?_) (fun h => ?_)
      ·
       refine zyR 8 rfl (zyN (zbw rfl (zyG (zyR 1 rfl ?_))))
       refine zbB (v:=.agg #[zI at1,zI 1,.int .i32 65533,.bool true]) (ps:=[(0,.tmp 34),(1,.const (zI 1)),(2,.const (.int .i32 65533)),(3,.const (.bool true))]) rfl dc rfl (fun _=>by kernel_rfl) ?_
       refine za2 (k:=0) (vs:=[zI at1,zI 1,.int .i32 65533,.bool true]) (l':=[zI at1,zI 1,.int .i32 65533,.bool true]) zgE rfl rfl rfl rfl rfl (show _≤_ by simp) rfl rfl ?_
       refine zyN (zaE (zao (zau (zao (zau (zao ?_))))))
       cases h
       exact zbA (rs:=[.cell 4 47]) () (.inl rfl) results30 (.cons (.cells ze7 (k:=0) rfl rfl rfl) .nil) rfl Splits.nil
      refine zyR 3 rfl ?_
      obtain ⟨hg3,h⟩:=zcU h
      refine zbn rfl (zbs (r:=at1+3) (IntWalk.i64_in _ hg3)) ?_
      obtain ⟨hg4,h⟩:=zcU h
      refine zeG rfl dc rfl rfl rfl (zek (i:=at1) (j:=at1+3) underlying9 (.inr rfl) (.inr rfl) hg4) (zbn rfl zh5 (zyR 2 rfl (zyN ?_)))
      refine zyB rfl h (fun h => ?_) (fun h => ?_)
      ·
       refine zyG (zyR 1 rfl ?_)
       refine zbB (v:=.agg #[zI at1,zI 1,.int .i32 65533,.bool true]) (ps:=[(0,.tmp 34),(1,.const (zI 1)),(2,.const (.int .i32 65533)),(3,.const (.bool true))]) rfl dc rfl (fun _=>by kernel_rfl) ?_
       refine za2 (k:=0) (vs:=[zI at1,zI 1,.int .i32 65533,.bool true]) (l':=[zI at1,zI 1,.int .i32 65533,.bool true]) zgE rfl rfl rfl rfl rfl (show _≤_ by simp) rfl rfl ?_
       refine zyN (zaE (zao (zau (zao (zau (zao ?_))))))
       cases h
       exact zbA (rs:=[.cell 4 47]) () (.inl rfl) results30 (.cons (.cells ze7 (k:=0) rfl rfl rfl) .nil) rfl Splits.nil
      refine zax ?_
      exact zaB r1 h rfl (zbK rfl) (zaa [0] kr rfl)
     refine zyR 14 rfl ?_
     refine zyN (zaS rfl (zax ?_))
     exact zaB r1 h rfl (zbK rfl) (zaa [0] kr rfl)
    rintro n2 h
    rw [hj2] at h
    refine zyG (zyR 3 rfl ?_)
    refine zbB (v:=.agg #[zI at1,zI n2,.int .i32 (p1.r:Int),.bool false]) (ps:=[(0,.tmp 36),(1,.tmp 37),(2,.tmp 38)]) rfl dc rfl (fun _=>by kernel_rfl) ?_
    refine za2 (k:=0) (vs:=[zI at1,zI n2,.int .i32 (p1.r:Int),.bool false]) (l':=[zI at1,zI n2,.int .i32 (p1.r:Int),.bool false]) zgE rfl rfl rfl rfl rfl (show _≤_ by simp) rfl rfl (zyN (zaE (zau (zao (zau (zao ?_))))))
    cases h
    exact zbA (rs:=[.cell 4 47]) () (.inl rfl) results30 (.cons (.cells ze7 (k:=0) rfl rfl rfl) .nil) rfl Splits.nil
   have h:=zg6 hb1 h
   refine zgg (k:=1) (m:=0) rfl dc rfl rfl (Nat.le_of_not_lt (of_decide_eq_false hb1)) (zaJ rfl dc rfl rfl (zyN (zar (zaS rfl (zcy (zaV (zaV (zbh ?_))))))))
   exact zaB b2 h rfl (zbK rfl) (zaa [0] kr rfl)
 rintro b1 h
 rw [hj1] at h
 refine zyG ?_
 refine zbB (v:=.agg #[zI 0,zI 0,.int .i32 0,.bool false]) (ps:=[]) rfl dc rfl (fun _=>by kernel_rfl) ?_
 refine za2 (k:=0) (vs:=[zI 0,zI 0,.int .i32 0,.bool false]) (l':=[zI 0,zI 0,.int .i32 0,.bool false]) zgE rfl rfl rfl rfl rfl (show _≤_ by simp) rfl rfl (zyN (zaE ?_))
 cases h
 exact zbA (rs:=[.cell 4 47]) () (.inl rfl) results30 (.cons (.cells ze7 (k:=0) rfl rfl rfl) .nil) rfl Splits.nil
def zdg (c0:zBA) (ag1:Nat→Option (List zaY)) (m3:Nat):Option (List zaY) := zaL (decide (m3<(pcs c0.data.toList).length)) ( zaA ((pcs c0.data.toList)[m3]?) fun (p1:Pc) => zaA (zeM c0 (p1.i:Int)) fun (r1:zaY) => zhU r1 <| ag1 (m3+1)
) ( some []
)
def zc8 (c0:zBA):Option (List zaY) := zbq (fun _=>none) (zdg c0) zc9 0
theorem zeC {b_c0:Nat} {c0:zBA} {xs:(List zaY)} (h:zc8 c0=some xs):Itr prog 50 [zP b_c0] (fun q:zaY=>[.agg (zr1 q).toArray]) xs [(b_c0,.cells #[.string c0] 9 (0,0))]:=by
 unfold zc8 at h
 refine Itr.intro func50 rfl ntmps50 (by simp) ?_
 intro l w0 K I X hRo hy
 obtain ⟨r0,hx0⟩:∃ r,xs=[]++r:=⟨xs,rfl⟩
 have hr0:xs=r0:=hx0
 rw [hr0] at h
 refine zyG (zf2 (i:=0) hRo zhH rfl dc rfl rfl rfl ?_)
 refine zea underlying9 rfl dc rfl (fun b1 => ?_)
 refine zyN (zaK ?_)
 refine zdy (β:=Nat×Nat×(List zaY)×(List zaY)) (fun b=>zbq (fun _=>none) (zdg c0) b.1 b.2.1=some b.2.2.2∧xs=b.2.2.1++b.2.2.2) (fun b=>[]) (fun b=>[(0,.func (.yield l) #[] #[]),(1,zP b_c0),(5,zP b1)]) (fun b=>[I b.2.2.1,obj b1 (.stringIter c0 (zeW c0 b.2.1))]) (fun b=>b.1) (zc9,0,([]:List zaY),r0) ⟨h,hx0⟩ rfl (zbK rfl) (zaa [0,1] kr rfl) ?_
 rintro ⟨n1,m3,acc3,rr3⟩ ⟨h,hx3⟩
 cases n1 with
 | zero=>exact zfG h
 | succ n1 =>
  obtain ⟨ag1,hag1⟩:∃ ag,ag=zbq (fun _=>none) (zdg c0) n1:=⟨_,rfl⟩
  have h:zdg c0 ag1 m3=some rr3:=by rw [hag1]; exact h
  unfold zdg at h
  refine zyG ?_
  refine zgh (b:=decide (m3<(pcs c0.data.toList).length)) (fun hb1 => ?_) (fun hb1 => ?_)
  ·
   have h:=zg5 hb1 h
   obtain ⟨p1,hq1,h⟩:=zcp h
   refine zex (k:=1) (m:=m3) (p:=p1) rfl dc rfl rfl hq1 (zaJ rfl dc rfl rfl (zyN (zar (zbw rfl (zax (zag (zaK (zyG (zaJ rfl dc rfl rfl (zyR 1 rfl (zap ?_)))))))))))
   refine zag (zyG (zyR 1 rfl (zf2 (i:=0) hRo zhH rfl dc rfl rfl rfl (zyR 1 rfl ?_))))
   obtain ⟨r1,hq2,h⟩:=zcp h
   refine zbv (v:=.agg (zr1 r1).toArray) (vs:=[.string c0,zI (p1.i:Int)]) rfl dc rfl rfl rfl ztt (ziT hq2) ?_
   obtain ⟨rr4,hr1,h⟩:=zik h
   have hx4:xs=acc3++r1::rr4:=by rw [hx3,hr1]
   refine zcX hy rfl dc rfl hx4 rfl (k:=0) rfl ?_ ?_
   ·
    have hx5:xs=(acc3++[r1])++rr4:=by rw [hx4]; simp
    refine zdM rfl dc rfl zcA (zyN (zaS rfl (zax (zah ?_))))
    subst hag1
    exact zcM (n1,m3+1,acc3++[r1],rr4) ⟨h,hx5⟩ (Nat.lt_succ_self _) rfl (zbK rfl) (zaa [0,1] kr rfl)
   refine zdM rfl dc rfl zcA (zyN (zbw rfl (zaE (zau (zao (zau ?_))))))
   exact zfi (ds:=[]) acc3 r1 rr4 hx4 (.inl rfl) Splits.nil results50 (zaa [0] kr rfl)
  have h:=zg6 hb1 h
  refine zgg (k:=1) (m:=m3) rfl dc rfl rfl (Nat.le_of_not_lt (of_decide_eq_false hb1)) (zaJ rfl dc rfl rfl (zyN (zar (zaS rfl (zcy (zaV (zaV (zbh ?_))))))))
  cases h
  exact zfD (ds:=[]) (.inr rfl) Splits.nil results50 (congrArg I (hx3.trans (List.append_nil _))) (zaa [0] kr rfl)
def zew (s1:zBA):Option zBA := some s1
theorem zfu {s1:zBA} {r:zBA} (h:zew s1=some r):Fn prog 29 [.string s1] [] (fun v0:Nat=>.func (.func 50) #[] #[zP v0]) (fun v0=>[cells v0 [.string r] 9]):=by
 unfold zew at h
 refine Fn.intro func29 rfl ntmps29 (by simp) ?_
 intro w0 K
 refine zyG ?_
 refine zdN rfl dc rfl (fun b1 => ?_)
 refine zyR 1 rfl (zyH (zdH (x1:=[]) (x2:=[.tmp 1]) rfl dc rfl rfl (zyR 1 rfl (zyN (zaE ?_)))))
 cases h
 exact zbA (rs:=[.tmp 2]) b1 (.inl rfl) results29 (.cons (.tmp rfl) .nil) rfl (zaa [0] kr rfl)
def zcN (ek1:Int→Int→Option (Int×Int)) (x1:zaY) (ag1:Int→Int→Option (Int×Int)) (n4:Int) (many4:Int):Option (Int×Int) := zcd (fun (j2:Option (Int×Int)) => grd (I32 x1.Rune) <| zaL (((zdu x1.Broken x1.Rune):Int) != 1) ( zaL (((zdu x1.Broken x1.Rune):Int) != 3) ( ek1 n4 many4
) ( j2
)
) ( j2
)
) ( grd (I64 (x1.At+x1.Width)) <| grd (I64 (many4+1)) <| ag1 (x1.At+x1.Width) (many4+1)
)
def zdz (s1:zBA):Option (Int×Int) := zcd (fun (j1:Int→Int→Option (Int×Int)) => zaA (zew s1) fun (r1:zBA) => zaA (zc8 r1) fun (its1:(List zaY)) => zcd (fun (ek1:Int→Int→Option (Int×Int)) => zcd (fun (dn1:Int→Int→Option (Int×Int)) => zbZ dn1 (zcN ek1) its1 0 0
) (fun (n4:Int) (many4:Int) => j1 n4 many4
)
) (fun (n5:Int) (many5:Int) => j1 n5 many5
)
) (fun (n1:Int) (many1:Int) => some (n1,many1)
)
theorem zhh {s1:zBA} {r:(Int×Int)} (h:zdz s1=some r):FnP prog 17 [.string s1] (.tuple #[zI r.1,zI r.2]):=by
 unfold zdz at h
 refine FnP.intro func17 rfl ntmps17 (by simp) ?_
 intro w0 K
 refine ze3 ?_
 obtain ⟨j1,hj1,h⟩:=zcC h
 refine zbF (β:=Int×Int×Nat×Nat×(List Nat)) 2 rfl (fun b=>j1 b.1 b.2.1=some r) (fun b=>zcK b.2.2.2.2) (fun b=>[(4,zP b.2.2.1),(5,zP b.2.2.2.1)]) (fun b=>[cells b.2.2.1 [zI b.1] 3,cells b.2.2.2.1 [zI b.2.1] 3,zc0 ((b.2.2.2.2:List Nat).map zcu)]) (fun cut => ?_) ?_
 ·
  refine zyG (zyR 2 rfl (zyH ?_))
  refine za6 zo6 rfl dc (fun b3 => ?_)
  refine za6 zo6 rfl dc (fun b4 => ?_)
  refine zaG (k:=1) (l':=[zI 0]) zeR rfl rfl rfl rfl rfl (fun _ _=>rfl) rfl ?_
  refine zaG (k:=2) (l':=[zI 0]) zeR rfl rfl rfl rfl rfl (fun _ _=>rfl) rfl ?_
  refine zyN (cut (zyG (zyR 1 rfl ?_)))
  obtain ⟨r1,hq1,h⟩:=zcp h
  refine zdE (vs:=[.string s1]) rfl dc rfl rfl rfl zp4 (zfu hq1) Splits.nil ?_
  rintro b5
  refine zyN (zaK ?_)
  obtain ⟨its1,hq2,h⟩:=zcp h
  obtain ⟨ek1,hek1,h⟩:=zcC h
  obtain ⟨dn1,hdn1,h⟩:=zcC h
  refine zfF (α:=zaY) (β:=Int×Int) (γ:=(Int×Int)) (δ:=Nat) (ps:=[10]) Ro.nil rfl zp3 (zeC hq2) (fun pre b=>∀ post,its1=pre++post→zbZ dn1 (zcN ek1) post b.1 b.2=some r) (fun pre b=>[cells b3 [zI b.1] 3,cells b4 [zI b.2] 3]) (fun c pre g=>(fun g=>c=.exit 0∧ek1 g.1 g.2=some r) g) (fun c pre g=>(fun g=>[cells b3 [zI g.1] 3,cells b4 [zI g.2] 3]) g) (fun pre x b j=>[(2,zI 0),(3,zI 0),(4,zP b3),(5,zP b4),(9,.func (.func 50) #[] #[zP b5]),(6,zP j)]) (fun pre x b j=>[cells b3 [zI b.1] 3,cells b4 [zI b.2] 3,cells j (zr1 x) 47]) (0,0) (fun post e=>by rw [List.nil_append] at e; subst e; exact h) (zaa [1,2] kr rfl) ⟨.inl ⟨3,rfl⟩,trivial⟩ (fun _=>rfl) dc ?_ ?_ ?_ ?_
  ·
   rintro lp rc pre x1 post ⟨n4,many4⟩ w1 K1 hxs1 hext hro hinv
   refine zad ?_
   refine za6 zje rfl dc (fun b6 => ?_)
   refine za2 (k:=2) (vs:=(zr1 x1)) (l':=(zr1 x1)) zgE rfl rfl rfl rfl rfl (show _≤_ by simp) rfl rfl ?_
   refine zap ?_
   exact fun a w ha hw=>⟨b6,(zbK rfl) _ _ _ ha,hw.weaken (zaa [0,1,2] kr rfl)⟩
  ·
   rintro lp rc pre x1 post1 ⟨n4,many4⟩ jb1 w1 K1 hxs1 hext hro hinv
   have h:=hinv (x1::post1) hxs1
   obtain ⟨ag1,hag1⟩:∃ ag,ag=zbZ dn1 (zcN ek1) post1:=⟨_,rfl⟩
   have h:zcN ek1 x1 ag1 n4 many4=some r:=by have h2:=h; rw [zb3,← hag1] at h2; exact h2
   unfold zcN at h
   refine zaK ?_
   obtain ⟨j2,hj2,h⟩:=zcC h
   refine zbF (β:=Unit) 1 rfl (fun b=>j2=some r) (fun b=>[]) (fun b=>[(2,zI 0),(3,zI 0),(4,zP b3),(5,zP b4),(6,zP jb1),(9,.func (.func 50) #[] #[zP b5])]) (fun b=>[cells b3 [zI n4] 3,cells b4 [zI many4] 3,cells jb1 (zr1 x1) 47]) (fun cut => ?_) ?_
   ·
    refine zyG (zaZ (k:=2) (cs:=(zr1 x1)) ze7 rfl dc rfl rfl rfl rfl ?_)
    obtain ⟨hg1,h⟩:=zcU h
    refine zbv (v:=zI (zdu x1.Broken x1.Rune)) (vs:=[.agg (zr1 x1).toArray]) rfl dc rfl rfl rfl zlZ (zqZ x1.At x1.Width x1.Rune x1.Broken hg1.1 hg1.2) (zyR 1 rfl (zyN (cut (zyG (zyR 1 rfl (zbn rfl zdZ (zyR 1 rfl ?_)))))))
    refine zyS (s:=15) rfl h (fun h => ?_) (fun h => ?_)
    ·
     refine zyR 1 rfl (zbn rfl zdZ (zyR 1 rfl (zyN ?_)))
     refine zyB rfl h (fun h => ?_) (fun h => ?_)
     ·
      refine zcy (zaV (zfP dc ?_))
      exact zjL (n4,many4) (show _∧_ from ⟨rfl,h⟩) (zaa [0,1] kr rfl)
     refine zax ?_
     exact zaB () h rfl (zbK rfl) (zaa [0,1,2] kr rfl)
    refine zyR 3 rfl (zyN (zaS rfl (zax ?_)))
    exact zaB () h rfl (zbK rfl) (zaa [0,1,2] kr rfl)
   rintro _ h
   rw [hj2] at h
   refine zyG (zac zeo rfl dc rfl (show _=0 from rfl) (zat (k:=2) zdk rfl dc rfl rfl rfl (zac zgI rfl dc rfl (show _=1 from rfl) (zat (k:=2) zdk rfl dc rfl rfl rfl ?_))))
   obtain ⟨hg2,h⟩:=zcU h
   refine zbn rfl (zbs (r:=x1.At+x1.Width) (IntWalk.i64_in _ hg2)) ?_
   refine zaG (k:=0) (l':=[zI (x1.At+x1.Width)]) zeR rfl rfl rfl rfl rfl (fun _ _=>rfl) rfl ?_
   refine zyN (zad (zat (k:=1) zdk rfl dc rfl rfl rfl ?_))
   obtain ⟨hg3,h⟩:=zcU h
   refine zbn rfl (zbs (r:=many4+1) (IntWalk.i64_in _ hg3)) ?_
   refine zaG (k:=1) (l':=[zI (many4+1)]) zeR rfl rfl rfl rfl rfl (fun _ _=>rfl) rfl ?_
   refine zap (zah ?_)
   exact zcj (x1.At+x1.Width,many4+1) (fun post2 e2=>by have e9:=zcI hxs1 e2; subst e9; subst hag1; exact h) (zaa [0,1] kr rfl)
  ·
   rintro dm1 ⟨n4,many4⟩ hinv
   have h:dn1 n4 many4=some r:=hinv [] (List.append_nil _).symm
   rw [hdn1] at h
   show TX _ _ _ _ _ _ _ [zc0 ((([]:List Nat):List Nat).map zcu),emp,emp,cells b5 [.string r1] 9,cells b3 [zI n4] 3,cells b4 [zI many4] 3,zcu dm1]
   refine zds (k:=6) (j:=0) rfl rfl dc ?_
   refine zah ?_
   exact zaB (n4,many4,b3,b4,dm1::([]:List Nat)) h rfl (zbK rfl) (zaa [4,5,0] kr rfl)
  rintro dm1 c pre x1 post g hxs hX
  obtain ⟨rfl,h⟩:=(show _∧_ from hX)
  obtain ⟨n5,many5⟩:=g
  rw [hek1] at h
  show TC _ _ _ _ _ _ _ _ _ [zc0 ((([]:List Nat):List Nat).map zcu),emp,emp,cells b5 [.string r1] 9,cells b3 [zI n5] 3,cells b4 [zI many5] 3,zcu dm1]
  refine zfj (k:=6) (j:=0) rfl rfl dc ?_
  refine zcy (zbh ?_)
  exact zaB (n5,many5,b3,b4,dm1::([]:List Nat)) h rfl (zbK rfl) (zaa [4,5,0] kr rfl)
 rintro ⟨n1,many1,b1,b2,ds1⟩ h
 rw [hj1] at h
 refine zar ?_
 refine zbW 3 [(0,26,zI n1),(1,27,zI many1),(2,2,zI n1)] mixed kr kr dc (by rfl) kr kr (zae ?_ (zae ?_ (zyP 1 2 rfl DrawPre.nil))) ?_
 · exact fun D n d c u i=>zat (k:=0) zdk rfl dc (za3 (by rfl) rfl) rfl rfl (zaI 0 u i)
 · exact fun D n d c u i=>zat (k:=1) zdk rfl dc (za3 (by rfl) rfl) rfl rfl (zaI 1 u i)
 refine zyR 1 rfl (zyN (zaE ?_))
 cases h
 exact zcE (rs:=[.tmp 2,.tmp 3]) ds1 () (.inl rfl) (zaT (k:=2) rfl) results17 (.cons (.tmp rfl) (.cons (.tmp rfl) .nil)) rfl Splits.nil
def zbG (s1:List zBA) (v1:zBA) (j1:Option Int) (ag1:Int→Option Int) (x3:Int):Option Int := zaL (decide ((x3:Int)<(s1.length:Int))) ( zaA (zeD s1 x3) fun (q1:zBA) => zaL (decide (v1=q1)) ( some x3
) ( grd (I64 (x3+1)) <| ag1 (x3+1)
)
) ( j1
)
def zbu (s1:List zBA) (v1:zBA):Option Int := zcd (fun (j1:Option Int) => zbq (fun _=>none) (zbG s1 v1 j1) zc9 0
) ( some (-1)
)
theorem zdr {vvs1 vs1:Value} {Ls1:List zBA} {ks1:Nat} {s1:List zBA} (hws1:Vw vvs1 Ls1 1 ks1 vs1 s1) {v1:zBA} {r:Int} (h:zbu s1 v1=some r):FnR prog 38 [vs1,.string v1] [zcR zgA 1 vvs1 ks1 Ls1] [] (fun _:Unit=>(zI r)) (fun _=>[]):=by
 unfold zbu at h
 refine FnR.intro func38 rfl ntmps38 (by simp) ?_
 intro w0 K hrd
 obtain ⟨j1,hj1,h⟩:=zcC h
 refine zbF (β:=Unit) 1 rfl (fun b=>j1=some r) (fun b=>[]) (fun b=>[]) (fun b=>[]) (fun cut => ?_) ?_
 ·
  refine zyG (zyR 1 rfl (zyN (cut (zyG (zyR 1 rfl (zfe hws1 rfl dc rfl underlying55 (zyR 1 rfl (zyN (zaK ?_)))))))))
  refine zdy (β:=Nat×Int) (fun b=>zbq (fun _=>none) (zbG s1 v1 j1) b.1 b.2=some r) (fun b=>[]) (fun b=>[(0,vs1),(1,.string v1),(7,zI (s1.length:Int)),(8,zI b.2)]) (fun b=>[]) (fun b=>b.1) (zc9,0) h rfl (zbK rfl) Splits.nil ?_
  rintro ⟨n1,x3⟩ h
  cases n1 with
  | zero=>exact zfG h
  | succ n1 =>
   obtain ⟨ag1,hag1⟩:∃ ag,ag=zbq (fun _=>none) (zbG s1 v1 j1) n1:=⟨_,rfl⟩
   have h:zbG s1 v1 j1 ag1 x3=some r:=by rw [hag1]; exact h
   unfold zbG at h
   refine zyG (zbn rfl zb4 (zyN (zar ?_)))
   refine zyB rfl h (fun h => ?_) (fun h => ?_)
   ·
    refine zax (zag (zar (zaK (zyG (zyR 2 rfl (zyH (zyR 2 rfl ?_)))))))
    refine zyR 1 rfl ?_
    obtain ⟨q1,hq1,h⟩:=zcp h
    refine zcF hws1 hq1 underlying55 zrJ rfl dc rfl rfl rfl (zdj (n:=ks1+(x3:Int).toNat) (j:=0) (i:=0) (q:=q1) hrd rfl (by omega) zhH rfl dc rfl (Vw.get hws1 hq1) rfl rfl (zbn rfl zh6 (zyN ?_)))
    refine zyB rfl h (fun h => ?_) (fun h => ?_)
    ·
     refine zyG (zyR 2 rfl (zyN (zaE (zau (zao (zao (zau (zao ?_))))))))
     cases h
     exact zbN 4 results38
    refine zax (zah (zag (zad ?_)))
    obtain ⟨hg1,h⟩:=zcU h
    refine zbn rfl (zbs (r:=x3+1) (IntWalk.i64_in _ hg1)) (zyR 1 rfl (zap ?_))
    subst hag1
    exact zcM (n1,x3+1) h (Nat.lt_succ_self _) rfl (zbK rfl) Splits.nil
   refine zcy (zaV (zaV (zbh ?_)))
   exact zaB () h rfl (zeQ) Splits.nil
 rintro _ h
 rw [hj1] at h
 refine zyG (zyR 1 rfl (zyN (zaE ?_)))
 cases h
 exact zbN 4 results38
def zcB (s1:List zBA) (v1:zBA):Option Bool := zaA (zbu s1 v1) fun (r1:Int) => some (decide ((0:Int)≤r1))
theorem zfp {vvs1 vs1:Value} {Ls1:List zBA} {ks1:Nat} {s1:List zBA} (hws1:Vw vvs1 Ls1 1 ks1 vs1 s1) {v1:zBA} {r:Bool} (h:zcB s1 v1=some r):FnR prog 18 [vs1,.string v1] [zcR zgA 1 vvs1 ks1 Ls1] [] (fun _:Unit=>(.bool r)) (fun _=>[]):=by
 unfold zcB at h
 refine FnR.intro func18 rfl ntmps18 (by simp) ?_
 intro w0 K hrd
 refine zyG (zyR 1 rfl (zyH (zyR 2 rfl ?_)))
 obtain ⟨r1,hq1,h⟩:=zcp h
 refine zbm (v:=zI r1) (vs:=[vs1,.string v1]) hrd rfl dc rfl rfl rfl zts (zdr hws1 hq1) (.ro 0 rfl .nil) (zbn rfl zbV (zyR 1 rfl (zyN (zaE ?_))))
 cases h
 exact zbN 4 results18
def zb8 (t1_keys:List (List zBA)) (c1:zan) (wv1:Int) (k1:Int) (j1:Option Int) (ag1:Int→Option Int) (x3:Int):Option Int := zaL (decide ((x3:Int)<(c1.words.length:Int))) ( zcd (fun (j2:Option Int) => zaA (zeD c1.words x3) fun (q1:Int) => zaL (decide ((0:Int)≤q1)) ( zaA (zeD t1_keys x3) fun (x4:List zBA) => zaA (zeD x4 q1) fun (q2:zBA) => zaA (zeD t1_keys wv1) fun (x5:List zBA) => zaA (zeD x5 k1) fun (q3:zBA) => zaL (decide (q2=q3)) ( some 0
) ( j2
)
) ( j2
)
) ( grd (I64 (x3+1)) <| ag1 (x3+1)
)
) ( j1
)
def zbi (t1_keys:List (List zBA)) (c1:zan) (wv1:Int) (k1:Int):Option Int := zcd (fun (j1:Option Int) => zbq (fun _=>none) (zb8 t1_keys c1 wv1 k1 j1) zc9 0
) ( some 3
)
theorem zfW {bt1:Nat} {t1_h0 t1_h1 t1_h2 t1_h3 t1_h4:Hd} {t1_keys:List (List zBA)} {c1:zan} {c1_h0 c1_h1:Hd} {vvc10:Value} {kc10:Nat} {Lc10:List Int} (hwc10:Vw vvc10 Lc10 1 kc10 c1_h0.v c1.words) {vvc11:Value} {kc11:Nat} {Lc11:List Int} (hwc11:Vw vvc11 Lc11 1 kc11 c1_h1.v c1.readings) {wv1:Int} {k1:Int} {r:Int} (h:zbi t1_keys c1 wv1 k1=some r):FnR prog 40 [zP bt1,.agg #[c1_h0.v,c1_h1.v],zI wv1,zI k1] [cells bt1 [t1_h0.v,t1_h1.v,t1_h2.v,t1_h3.v,t1_h4.v] 60,zba zaj zal 55 1 t1_h3.v t1_keys,zcR (zfH (.i64)) 1 vvc10 kc10 Lc10,zcR (zfH (.i64)) 1 vvc11 kc11 Lc11] [] (fun _:Unit=>(zI r)) (fun _=>[]):=by
 unfold zbi at h
 refine FnR.intro func40 rfl ntmps40 (by simp) ?_
 intro w0 K hrd
 obtain ⟨j1,hj1,h⟩:=zcC h
 refine zbF (β:=Unit) 1 rfl (fun b=>j1=some r) (fun b=>[]) (fun b=>[]) (fun b=>[]) (fun cut => ?_) ?_
 ·
  refine zyG ?_
  refine zdN rfl dc rfl (fun b1 => ?_)
  refine zyR 1 rfl (zyN (cut (zyG (zac zlV rfl dc rfl (show _=0 from rfl) (zat (k:=0) zlK rfl dc rfl rfl rfl (zfe hwc10 rfl dc rfl underlying68 (zyR 1 rfl (zyN (zaK ?_)))))))))
  refine zdy (β:=Nat×Int) (fun b=>zbq (fun _=>none) (zb8 t1_keys c1 wv1 k1 j1) b.1 b.2=some r) (fun b=>[]) (fun b=>[(0,zP bt1),(2,zI wv1),(3,zI k1),(12,c1_h0.v),(13,zI (c1.words.length:Int)),(14,zI b.2)]) (fun b=>[]) (fun b=>b.1) (zc9,0) h rfl (zbK rfl) Splits.nil ?_
  rintro ⟨n1,x3⟩ h
  cases n1 with
  | zero=>exact zfG h
  | succ n1 =>
   obtain ⟨ag1,hag1⟩:∃ ag,ag=zbq (fun _=>none) (zb8 t1_keys c1 wv1 k1 j1) n1:=⟨_,rfl⟩
   have h:zb8 t1_keys c1 wv1 k1 j1 ag1 x3=some r:=by rw [hag1]; exact h
   unfold zb8 at h
   refine zyG (zbn rfl zb4 (zyN (zar ?_)))
   refine zyB rfl h (fun h => ?_) (fun h => ?_)
   ·
    refine zax (zag ?_)
    obtain ⟨j2,hj2,h⟩:=zcC h
    refine zbF (β:=Unit) 0 rfl (fun b=>j2=some r) (fun b=>[]) (fun b=>[(0,zP bt1),(2,zI wv1),(3,zI k1),(12,c1_h0.v),(13,zI (c1.words.length:Int)),(14,zI x3)]) (fun b=>[]) (fun cut => ?_) ?_
    ·
     refine cut (zaK (zyG (zyR 1 rfl ?_)))
     obtain ⟨q1,hq1,h⟩:=zcp h
     refine zcF hwc10 hq1 underlying68 zeR rfl dc rfl rfl rfl (zdj (n:=kc10+(x3:Int).toNat) (j:=0) (i:=2) (q:=q1) hrd rfl (by omega) zdk rfl dc rfl (Vw.get hwc10 hq1) rfl rfl (zyR 2 rfl (zyN (zar ?_))))
     refine zej (b:=decide ((0:Int)≤q1)) (fun hb2 => ?_) (fun hb2 => ?_)
     ·
      have h:=zg5 hb2 h
      obtain ⟨zs1,hz1,hV1,hrd⟩:=hrd.openN (i:=1) rfl ze2 zip
      replace hrd:Rd _ _ [cells bt1 [t1_h0.v,t1_h1.v,t1_h2.v,t1_h3.v,t1_h4.v] 60,zba zaj zal 55 1 t1_h3.v t1_keys,zcR (zfH (.i64)) 1 vvc10 kc10 Lc10,zcR (zfH (.i64)) 1 vvc11 kc11 Lc11,zcR zaj 1 t1_h3.v 0 zs1,zhu zcQ zs1]:=hrd
      obtain ⟨x4,hq2,h⟩:=zcp h
      obtain ⟨eh1,eq1⟩:=zgw hz1 hq2
      have hrd:Rd _ _ [cells bt1 [t1_h0.v,t1_h1.v,t1_h2.v,t1_h3.v,t1_h4.v] 60,zba zaj zal 55 1 t1_h3.v t1_keys,zcR (zfH (.i64)) 1 vvc10 kc10 Lc10,zcR (zfH (.i64)) 1 vvc11 kc11 Lc11,zcR zaj 1 t1_h3.v 0 zs1,zhu zcQ zs1,zjU zgA 1 eh1 x4]:=hrd.openEl (i:=5) (z:=(x4,eh1)) rfl (Vw.get hV1 eq1)
      obtain ⟨vv1,k2,L1,hV2,hrd⟩:=hrd.openSl (i:=6) rfl
      replace hrd:Rd _ _ [cells bt1 [t1_h0.v,t1_h1.v,t1_h2.v,t1_h3.v,t1_h4.v] 60,zba zaj zal 55 1 t1_h3.v t1_keys,zcR (zfH (.i64)) 1 vvc10 kc10 Lc10,zcR (zfH (.i64)) 1 vvc11 kc11 Lc11,zcR zaj 1 t1_h3.v 0 zs1,zhu zcQ zs1,zjU zgA 1 eh1 x4,zcR zgA 1 vv1 k2 L1]:=hrd
      obtain ⟨q2,hq3,h⟩:=zcp h
      obtain ⟨x5,hq4,h⟩:=zcp h
      obtain ⟨eh2,eq2⟩:=zgw hz1 hq4
      have hrd:Rd _ _ [cells bt1 [t1_h0.v,t1_h1.v,t1_h2.v,t1_h3.v,t1_h4.v] 60,zba zaj zal 55 1 t1_h3.v t1_keys,zcR (zfH (.i64)) 1 vvc10 kc10 Lc10,zcR (zfH (.i64)) 1 vvc11 kc11 Lc11,zcR zaj 1 t1_h3.v 0 zs1,zhu zcQ zs1,zjU zgA 1 eh1 x4,zcR zgA 1 vv1 k2 L1,zjU zgA 1 eh2 x5]:=hrd.openEl (i:=5) (z:=(x5,eh2)) rfl (Vw.get hV1 eq2)
      obtain ⟨vv2,k3,L2,hV3,hrd⟩:=hrd.openSl (i:=8) rfl
      replace hrd:Rd _ _ [cells bt1 [t1_h0.v,t1_h1.v,t1_h2.v,t1_h3.v,t1_h4.v] 60,zba zaj zal 55 1 t1_h3.v t1_keys,zcR (zfH (.i64)) 1 vvc10 kc10 Lc10,zcR (zfH (.i64)) 1 vvc11 kc11 Lc11,zcR zaj 1 t1_h3.v 0 zs1,zhu zcQ zs1,zjU zgA 1 eh1 x4,zcR zgA 1 vv1 k2 L1,zjU zgA 1 eh2 x5,zcR zgA 1 vv2 k3 L2]:=hrd
      obtain ⟨q3,hq5,h⟩:=zcp h
      refine zbW 23 [(0,19,zI q1),(1,20,.bool true),(2,21,.bool true),(3,22,zP bt1),(4,23,zP bt1),(5,24,.pointer (some ⟨bt1,3,none⟩)),(6,25,t1_h3.v),(7,26,zI x3),(8,27,.pointer (some ⟨zgc t1_h3.v,(0+(x3:Int).toNat)*1,none⟩)),(9,28,eh1.v),(10,29,zI q1),(11,30,.pointer (some ⟨zgc vv1,(k2+(q1:Int).toNat)*1,none⟩)),(12,31,.string q2),(13,32,zP bt1),(14,33,zP bt1),(15,34,.pointer (some ⟨bt1,3,none⟩)),(16,35,t1_h3.v),(17,36,zI wv1),(18,37,.pointer (some ⟨zgc t1_h3.v,(0+(wv1:Int).toNat)*1,none⟩)),(19,38,eh2.v),(20,39,zI k1),(21,40,.pointer (some ⟨zgc vv2,(k3+(k1:Int).toNat)*1,none⟩)),(22,41,.string q3)] mixed kr kr dc (by rfl) kr kr (zyP 1 0 rfl (zae ?_ (zyP 2 2 rfl (zae ?_ (zae ?_ (zae ?_ (zyP 1 7 rfl (zae ?_ (zae ?_ (zyP 1 10 rfl (zae ?_ (zae ?_ (zyP 1 13 rfl (zae ?_ (zae ?_ (zae ?_ (zyP 1 17 rfl (zae ?_ (zae ?_ (zyP 1 20 rfl (zae ?_ (zae ?_ DrawPre.nil)))))))))))))))))))))) ?_
      · exact fun D n d c u i=>zaX rfl dc (zaH 0 u d) rfl zbV (zdt (show Value.bool (decide ((0:Int)≤q1))=Value.bool true from congrArg Value.bool hb2) (zaI 1 u i))
      · exact fun D n d c u i=>zav (zeY rfl (zaH 2 u d)) dc (zaH 3 u d) (zaI 4 u i)
      · exact fun D n d c u i=>zac ziC (zeY rfl (zaH 2 u d)) dc (zaH 4 u d) (show _=3 from rfl) (zaI 5 u i)
      · exact fun D n d c u i=>zcf (i:=0) hrd rfl zoE (zeY rfl (zaH 2 u d)) dc (zaH 5 u d) rfl (zaI 6 u i)
      · exact fun D n d c u i=>zcF hV1 eq1 underlying57 zmk (zeY rfl (zaH 2 u d)) dc (zaH 6 u d) (zaH 7 u d) rfl (zaI 8 u i)
      · exact fun D n d c u i=>zdj (n:=0+(x3:Int).toNat) (j:=0) (i:=4) (q:=(x4,eh1)) hrd rfl (by omega) zic (zeY rfl (zaH 2 u d)) dc (zaH 8 u d) (Vw.get hV1 eq1) rfl rfl (zaI 9 u i)
      · exact fun D n d c u i=>zcF hV2 hq3 underlying55 zrJ (zeY rfl (zaH 2 u d)) dc (zaH 9 u d) (zaH 10 u d) rfl (zaI 11 u i)
      · exact fun D n d c u i=>zdj (n:=k2+(q1:Int).toNat) (j:=0) (i:=7) (q:=q2) hrd rfl (by omega) zhH (zeY rfl (zaH 2 u d)) dc (zaH 11 u d) (Vw.get hV2 hq3) rfl rfl (zaI 12 u i)
      · exact fun D n d c u i=>zav (zeY rfl (zaH 2 u d)) dc (zaH 13 u d) (zaI 14 u i)
      · exact fun D n d c u i=>zac ziC (zeY rfl (zaH 2 u d)) dc (zaH 14 u d) (show _=3 from rfl) (zaI 15 u i)
      · exact fun D n d c u i=>zcf (i:=0) hrd rfl zoE (zeY rfl (zaH 2 u d)) dc (zaH 15 u d) rfl (zaI 16 u i)
      · exact fun D n d c u i=>zcF hV1 eq2 underlying57 zmk (zeY rfl (zaH 2 u d)) dc (zaH 16 u d) (zaH 17 u d) rfl (zaI 18 u i)
      · exact fun D n d c u i=>zdj (n:=0+(wv1:Int).toNat) (j:=0) (i:=4) (q:=(x5,eh2)) hrd rfl (by omega) zic (zeY rfl (zaH 2 u d)) dc (zaH 18 u d) (Vw.get hV1 eq2) rfl rfl (zaI 19 u i)
      · exact fun D n d c u i=>zcF hV3 hq5 underlying55 zrJ (zeY rfl (zaH 2 u d)) dc (zaH 19 u d) (zaH 20 u d) rfl (zaI 21 u i)
      · exact fun D n d c u i=>zdj (n:=k3+(k1:Int).toNat) (j:=0) (i:=9) (q:=q3) hrd rfl (by omega) zhH (zeY rfl (zaH 2 u d)) dc (zaH 21 u d) (Vw.get hV3 hq5) rfl rfl (zaI 22 u i)
      refine zbn rfl zh6 (zyR 1 rfl (zyN ?_))
      refine zyB rfl h (fun h => ?_) (fun h => ?_)
      ·
       refine zyG (zyR 1 rfl (zyN (zaE (zau (zao (zao (zau (zao ?_))))))))
       cases h
       exact zbN 8 results40
      refine zax (zah ?_)
      exact zaB () h rfl (zbK rfl) Splits.nil
     have h:=zg6 hb2 h
     refine zbW 23 [(0,19,zI q1),(1,20,.bool false),(2,21,.bool false),(3,22,undef),(4,23,undef),(5,24,undef),(6,25,undef),(7,26,undef),(8,27,undef),(9,28,undef),(10,29,undef),(11,30,undef),(12,31,undef),(13,32,undef),(14,33,undef),(15,34,undef),(16,35,undef),(17,36,undef),(18,37,undef),(19,38,undef),(20,39,undef),(21,40,undef),(22,41,undef)] mixed kr kr dc (by rfl) kr kr (zyP 1 0 rfl (zae ?_ (zyP 21 2 rfl DrawPre.nil))) ?_
     · exact fun D n d c u i=>zaX rfl dc (zaH 0 u d) rfl zbV (zdt (show Value.bool (decide ((0:Int)≤q1))=Value.bool false from congrArg Value.bool hb2) (zaI 1 u i))
     refine zyR 2 rfl (zyN (zaS rfl (zax (zah ?_))))
     exact zaB () h rfl (zbK rfl) Splits.nil
    rintro _ h
    rw [hj2] at h
    refine zad ?_
    obtain ⟨hg1,h⟩:=zcU h
    refine zbn rfl (zbs (r:=x3+1) (IntWalk.i64_in _ hg1)) (zyR 1 rfl (zap ?_))
    subst hag1
    exact zcM (n1,x3+1) h (Nat.lt_succ_self _) rfl (zbK rfl) Splits.nil
   refine zcy (zaV (zaV (zbh ?_)))
   exact zaB () h rfl (zeQ) Splits.nil
 rintro _ h
 rw [hj1] at h
 refine zyG (zyR 1 rfl (zyN (zaE ?_)))
 cases h
 exact zbN 8 results40
def zbH (t1_keys:List (List zBA)) (c1:zan) (ag1:(List Int)→(List zBA)→Int→Option zan) (l3:List Int) (seen3:List zBA) (x3:Int):Option zan := zaL (decide ((x3:Int)<(c1.words.length:Int))) ( zcd (fun (j1:(List zBA)→Int→Option zan) => zaA (zeD c1.words x3) fun (q1:Int) => zaL (decide ((0:Int)≤q1)) ( zaA (zeD t1_keys x3) fun (x4:List zBA) => zaA (zeD x4 q1) fun (q2:zBA) => zaA (zbu seen3 q2) fun (r1:Int) => grd (I64 (r1+1)) <| zaL (((r1+1):Int)==0) ( zaA (zeD t1_keys x3) fun (x5:List zBA) => zaA (zeD x5 q1) fun (q3:zBA) => grd (seen3.length+1≤2147483648) <| j1 (seen3++[q3]) ((seen3++[q3]).length:Int)
) ( j1 seen3 (r1+1)
)
) ( j1 seen3 0
)
) (fun (seen4:List zBA) (n2:Int) => grd (l3.length+1≤2147483648) <| grd (I64 (x3+1)) <| ag1 (l3++[n2]) seen4 (x3+1)
)
) ( some (⟨c1.words,l3⟩:zan)
)
def zdX (t1_keys:List (List zBA)) (c1:zan):Option zan := zbq (fun _ _ _=>none) (zbH t1_keys c1) zc9 c1.readings ([]:List zBA) 0
theorem zgZ {bt1:Nat} {t1_h0 t1_h1 t1_h2 t1_h3 t1_h4:Hd} {t1_keys:List (List zBA)} {vc1:Value} {zc1:List (zan×Hd×Hd)} {ic1:Nat} {c1:zan} {c1_h0 c1_h1:Hd} (hic1:zc1[ic1]?=some (c1,(c1_h0,c1_h1))) {r:zan} (h:zdX t1_keys c1=some r):FnR prog 20 [zP bt1,.pointer (some ⟨zgc vc1,ic1*2,none⟩)] [cells bt1 [t1_h0.v,t1_h1.v,t1_h2.v,t1_h3.v,t1_h4.v] 60,zba zaj zal 55 1 t1_h3.v t1_keys] [zv2 vc1 zc1,zv3 c1_h0.v c1.words,zv3 c1_h1.v c1.readings] (fun b:Hd×Hd=>.tuple #[]) (fun b=>[zv2 vc1 (zc1.set ic1 (r,(b.1,b.2))),zv3 b.1.v r.words,zv3 b.2.v r.readings]):=by
 unfold zdX at h
 refine FnR.intro func20 rfl ntmps20 (by simp) ?_
 intro w0 K hrd
 refine ztP (k:=0) (A':=zv2 vc1 (zc1.set ic1 (c1,(c1_h0,c1_h1)))) rfl (congrArg (zv2 vc1) (zlI hic1).symm) ?_
 refine zyG (zyR 1 rfl (zyH (zyR 1 rfl (zav rfl dc rfl (zac zlV rfl dc rfl (show _=ic1*2 from rfl) (zdo (i:=ic1) (j:=0) (k:=0) (q:=(c1,(c1_h0,c1_h1))) zlK zbz rfl dc rfl rfl (zke hic1) rfl dc rfl (zgr (k:=1) rfl dc rfl rfl underlying68 (zyR 1 rfl (zap ?_)))))))))
 refine zag (zaK (zfd (enc:=zgA) (e:=9) (size:=1) ?_))
 refine zdy (β:=Nat×(List Int)×(List zBA)×Int×Hd×Hd) (fun b=>zbq (fun _ _ _=>none) (zbH t1_keys c1) b.1 b.2.1 b.2.2.1 b.2.2.2.1=some r) (fun b=>[]) (fun b=>[(0,zP bt1),(1,.pointer (some ⟨zgc vc1,ic1*2,none⟩)),(4,b.2.2.2.2.2.v),(11,c1_h0.v),(12,zI (c1.words.length:Int)),(13,zI b.2.2.2.1)]) (fun b=>[zv2 vc1 (zc1.set ic1 ((⟨c1.words,b.2.1⟩:zan),(c1_h0,b.2.2.2.2.1))),zv3 c1_h0.v c1.words,zv3 b.2.2.2.2.1.v b.2.1,zv0 b.2.2.2.2.2.v b.2.2.1]) (fun b=>b.1) (zc9,c1.readings,([]:List zBA),0,c1_h1,Hd.nil) h rfl (zbK rfl) (zaa [0,1,2,3] kr rfl) ?_
 rintro ⟨n1,l3,seen3,x3,hd5,hd6⟩ h
 cases n1 with
 | zero=>exact zfG h
 | succ n1 =>
  obtain ⟨ag1,hag1⟩:∃ ag,ag=zbq (fun _ _ _=>none) (zbH t1_keys c1) n1:=⟨_,rfl⟩
  have h:zbH t1_keys c1 ag1 l3 seen3 x3=some r:=by rw [hag1]; exact h
  unfold zbH at h
  refine zyG (zbn rfl zb4 (zyN (zar ?_)))
  refine zyB rfl h (fun h => ?_) (fun h => ?_)
  ·
   refine zax (zag (zar (zaK ?_)))
   obtain ⟨j1,hj1,h⟩:=zcC h
   refine zbF (β:=(List zBA)×Int×Hd) 2 rfl (fun b=>j1 b.1 b.2.1=some r) (fun b=>[]) (fun b=>[(0,zP bt1),(1,.pointer (some ⟨zgc vc1,ic1*2,none⟩)),(4,b.2.2.v),(7,zI b.2.1),(11,c1_h0.v),(12,zI (c1.words.length:Int)),(13,zI x3)]) (fun b=>[zv2 vc1 (zc1.set ic1 ((⟨c1.words,l3⟩:zan),(c1_h0,hd5))),zv3 c1_h0.v c1.words,zv3 hd5.v l3,zv0 b.2.2.v b.1]) (fun cut => ?_) ?_
   ·
    refine zyG (zyR 1 rfl ?_)
    obtain ⟨q1,hq1,h⟩:=zcp h
    refine zdD (k:=1) hq1 underlying68 zeR rfl dc rfl rfl rfl rfl (zdo (i:=(x3:Int).toNat) (j:=0) (k:=1) (q:=q1) zdk zci rfl dc rfl rfl (zca hq1) rfl dc rfl (zyR 2 rfl (zyH (zyR 1 rfl (zyN (cut (zyG ?_)))))))
    refine zyR 1 rfl (zbn rfl zbV (zyN ?_))
    refine zyB rfl h (fun h => ?_) (fun h => ?_)
    ·
     refine zyG (zyR 2 rfl (zav rfl dc rfl (zac ziC rfl dc rfl (show _=3 from rfl) (zcf (i:=0) hrd rfl zoE rfl dc rfl rfl ?_))))
     obtain ⟨zs1,hz1,hV1,hrd⟩:=hrd.openN (i:=1) rfl ze2 zip
     replace hrd:Rd _ _ [cells bt1 [t1_h0.v,t1_h1.v,t1_h2.v,t1_h3.v,t1_h4.v] 60,zba zaj zal 55 1 t1_h3.v t1_keys,zcR zaj 1 t1_h3.v 0 zs1,zhu zcQ zs1]:=hrd
     refine zyR 1 rfl ?_
     obtain ⟨x4,hq2,h⟩:=zcp h
     obtain ⟨eh1,eq1⟩:=zgw hz1 hq2
     have hrd:Rd _ _ [cells bt1 [t1_h0.v,t1_h1.v,t1_h2.v,t1_h3.v,t1_h4.v] 60,zba zaj zal 55 1 t1_h3.v t1_keys,zcR zaj 1 t1_h3.v 0 zs1,zhu zcQ zs1,zjU zgA 1 eh1 x4]:=hrd.openEl (i:=3) (z:=(x4,eh1)) rfl (Vw.get hV1 eq1)
     obtain ⟨vv1,k1,L1,hV2,hrd⟩:=hrd.openSl (i:=4) rfl
     replace hrd:Rd _ _ [cells bt1 [t1_h0.v,t1_h1.v,t1_h2.v,t1_h3.v,t1_h4.v] 60,zba zaj zal 55 1 t1_h3.v t1_keys,zcR zaj 1 t1_h3.v 0 zs1,zhu zcQ zs1,zjU zgA 1 eh1 x4,zcR zgA 1 vv1 k1 L1]:=hrd
     refine zcF hV1 eq1 underlying57 zmk rfl dc rfl rfl rfl (zdj (n:=0+(x3:Int).toNat) (j:=0) (i:=2) (q:=(x4,eh1)) hrd rfl (by omega) zic rfl dc rfl (Vw.get hV1 eq1) rfl rfl (zyR 1 rfl ?_))
     obtain ⟨q2,hq3,h⟩:=zcp h
     refine zcF hV2 hq3 underlying55 zrJ rfl dc rfl rfl rfl (zdj (n:=k1+(q1:Int).toNat) (j:=0) (i:=5) (q:=q2) hrd rfl (by omega) zhH rfl dc rfl (Vw.get hV2 hq3) rfl rfl ?_)
     refine zd5 (k:=3) rfl (fun hw1 => ?_)
     obtain ⟨r1,hq4,h⟩:=zcp h
     refine zbm (v:=zI r1) (vs:=[hd6.v,.string q2]) hrd rfl dc rfl rfl rfl zts (zdr hw1 hq4) (.own (As:=[zv0 hd6.v seen3]) (zaa [3] kr rfl) (fun _ _ h=>zdW zeF (sepL.one1.1 h)) .nil) ?_
     obtain ⟨hg1,h⟩:=zcU h
     refine zbn rfl (zbs (r:=r1+1) (IntWalk.i64_in _ hg1)) (zyR 1 rfl (zyH (zyR 1 rfl (zbn rfl zaP (zyN ?_)))))
     refine zyB rfl h (fun h => ?_) (fun h => ?_)
     ·
      refine zyG (zyR 2 rfl (zav rfl dc rfl (zac ziC rfl dc rfl (show _=3 from rfl) (zcf (i:=0) hrd rfl zoE rfl dc rfl rfl (zyR 1 rfl ?_)))))
      obtain ⟨x5,hq5,h⟩:=zcp h
      obtain ⟨eh2,eq2⟩:=zgw hz1 hq5
      have hrd:Rd _ _ [cells bt1 [t1_h0.v,t1_h1.v,t1_h2.v,t1_h3.v,t1_h4.v] 60,zba zaj zal 55 1 t1_h3.v t1_keys,zcR zaj 1 t1_h3.v 0 zs1,zhu zcQ zs1,zjU zgA 1 eh1 x4,zcR zgA 1 vv1 k1 L1,zjU zgA 1 eh2 x5]:=hrd.openEl (i:=3) (z:=(x5,eh2)) rfl (Vw.get hV1 eq2)
      obtain ⟨vv2,k2,L2,hV3,hrd⟩:=hrd.openSl (i:=6) rfl
      replace hrd:Rd _ _ [cells bt1 [t1_h0.v,t1_h1.v,t1_h2.v,t1_h3.v,t1_h4.v] 60,zba zaj zal 55 1 t1_h3.v t1_keys,zcR zaj 1 t1_h3.v 0 zs1,zhu zcQ zs1,zjU zgA 1 eh1 x4,zcR zgA 1 vv1 k1 L1,zjU zgA 1 eh2 x5,zcR zgA 1 vv2 k2 L2]:=hrd
      refine zcF hV1 eq2 underlying57 zmk rfl dc rfl rfl rfl (zdj (n:=0+(x3:Int).toNat) (j:=0) (i:=2) (q:=(x5,eh2)) hrd rfl (by omega) zic rfl dc rfl (Vw.get hV1 eq2) rfl rfl (zyR 1 rfl ?_))
      obtain ⟨q3,hq6,h⟩:=zcp h
      refine zcF hV3 hq6 underlying55 zrJ rfl dc rfl rfl rfl (zdj (n:=k2+(q1:Int).toNat) (j:=0) (i:=7) (q:=q3) hrd rfl (by omega) zhH rfl dc rfl (Vw.get hV3 hq6) rfl rfl ?_)
      refine zby (cs:=[.string q3]) (te:=9) (ps:=[(0,.tmp 45)]) rfl dc rfl (fun _=>by kernel_rfl) (fun b1 => ?_)
      obtain ⟨hg2,h⟩:=zcU h
      refine zbR (k:=3) (k2:=4) (ys:=[q3]) underlying55 zvj zeF zj3 rfl dc rfl rfl rfl rfl rfl rfl hg2 (fun v1 => ?_)
      refine zc7 (k:=3) rfl (fun hd8 he1 => ?_)
      subst he1
      refine zyR 1 rfl (zyN (zad (zyR 1 rfl (zgr (k:=3) rfl dc rfl rfl underlying55 (zyR 1 rfl (zap ?_))))))
      exact zaB (seen3++[q3],((seen3++[q3]).length:Int),hd8) h rfl (zbK rfl) (zaa [0,1,2,3] kr rfl)
     refine zax ?_
     exact zaB (seen3,r1+1,hd6) h rfl (zbK rfl) (zaa [0,1,2,3] kr rfl)
    refine zax ?_
    exact zaB (seen3,0,hd6) h rfl (zbK rfl) (zaa [0,1,2,3] kr rfl)
   rintro ⟨seen4,n2,hd7⟩ h
   rw [hj1] at h
   refine zad (zyR 2 rfl (zav rfl dc rfl (zac zku rfl dc rfl (show _=ic1*2+1 from rfl) (zdo (i:=ic1) (j:=1) (k:=0) (q:=((⟨c1.words,l3⟩:zan),(c1_h0,hd5))) zlK zbz rfl dc rfl rfl (zke hic1) rfl dc rfl (zyR 1 rfl ?_)))))
   refine zby (cs:=[zI n2]) (te:=3) (ps:=[(0,.tmp 55)]) rfl dc rfl (fun _=>by kernel_rfl) (fun b2 => ?_)
   obtain ⟨hg3,h⟩:=zcU h
   refine zbR (k:=2) (k2:=4) (ys:=[n2]) underlying68 ztX zci zgB rfl dc rfl rfl rfl rfl rfl rfl hg3 (fun v2 => ?_)
   refine zc7 (k:=2) rfl (fun hd9 he2 => ?_)
   subst he2
   refine zav rfl dc rfl (zac zku rfl dc rfl (show _=ic1*2+1 from rfl) ?_)
   refine zg9 (i:=ic1) (j:=1) (k:=0) (q:=((⟨c1.words,l3⟩:zan),(c1_h0,hd5))) (q':=((⟨c1.words,l3++[n2]⟩:zan),(c1_h0,hd9))) zuf zbz rfl rfl rfl rfl (zke hic1) rfl dc rfl (fun _ _=>rfl) ?_
   refine zqo (k:=0) rfl (congrArg (zv2 vc1) (List.set_set ..)) ?_
   refine zap (zah (zag (zad ?_)))
   obtain ⟨hg4,h⟩:=zcU h
   refine zbn rfl (zbs (r:=x3+1) (IntWalk.i64_in _ hg4)) (zyR 1 rfl (zap ?_))
   subst hag1
   exact zcM (n1,l3++[n2],seen4,x3+1,hd9,hd7) h (Nat.lt_succ_self _) rfl (zbK rfl) (zaa [0,1,2,3] kr rfl)
  refine zcy (zaV (zaV (zbh ?_)))
  cases h
  exact zbA (rs:=[]) (c1_h0,hd5) (.inr rfl) results20 .nil rfl (zaa [0,1,2] kr rfl)
def za9 (i1:Int) (k1:Int) (xc0:List Int) (xc1:Int):Option Int := grd (I64 (xc1+1)) <| grd (I64 (i1*(xc1+1))) <| grd (I64 ((i1*(xc1+1))+k1)) <| zaA (zeD xc0 ((i1*(xc1+1))+k1)) fun (q1:Int) => some ((i1*(xc1+1))+k1)
theorem zcx {i1:Int} {k1:Int} {bc0:Nat} {vvc0 vc0:Value} {Lc0:List Int} {kc0:Nat} {xc0:List Int} (hwc0:Vw vvc0 Lc0 1 kc0 vc0 xc0) {bc1:Nat} {xc1:Int} {r:Int} (h:za9 i1 k1 xc0 xc1=some r):FnR prog 39 [zI i1,zI k1,zP bc0,zP bc1] [cells bc0 [vc0] 68,zcR (zfH (.i64)) 1 vvc0 kc0 Lc0,cells bc1 [zI xc1] 3] [] (fun _:Unit=>(.pointer (some ⟨zgc vvc0,(kc0+(r:Int).toNat)*1,none⟩))) (fun _=>[]):=by
 unfold za9 at h
 refine FnR.intro func39 rfl ntmps39 (by simp) ?_
 intro w0 K hrd
 refine zyG (zyR 1 rfl (zyH (zcf (i:=0) hrd rfl zlK rfl dc rfl rfl (zyR 1 rfl (zcf (i:=2) hrd rfl zdk rfl dc rfl rfl ?_)))))
 obtain ⟨hg1,h⟩:=zcU h
 refine zbn rfl (zbs (r:=xc1+1) (IntWalk.i64_in _ hg1)) ?_
 obtain ⟨hg2,h⟩:=zcU h
 refine zbn rfl (znI (r:=i1*(xc1+1)) (IntWalk.i64_in _ hg2)) (zyR 1 rfl ?_)
 obtain ⟨hg3,h⟩:=zcU h
 refine zbn rfl (zbs (r:=(i1*(xc1+1))+k1) (IntWalk.i64_in _ hg3)) ?_
 obtain ⟨q1,hq1,h⟩:=zcp h
 refine zcF hwc0 hq1 underlying68 zeR rfl dc rfl rfl rfl (zyR 1 rfl (zyN (zaE ?_)))
 cases h
 exact zbN 6 results39
def zcg (t1:zai) (wv1:Int) (x1:List zBA) (i3:Int) (j2:(List Int)→Option zai) (ag2:(List Int)→Int→Option zai) (at8:List Int) (k3:Int):Option zai := zaL (decide ((0:Int)≤k3)) ( zcd (fun (j3:Int→Option zai) => grd (I64 ((t1.columns.length:Int) - i3)) <| grd (I64 (((t1.columns.length:Int) - i3)+(x1.length:Int))) <| grd (I64 ((((t1.columns.length:Int) - i3)+(x1.length:Int)) - k3)) <| grd (I64 (2*((((t1.columns.length:Int) - i3)+(x1.length:Int)) - k3))) <| zaL (decide ((i3:Int)<(t1.columns.length:Int))) ( zaL (decide ((k3:Int)<(x1.length:Int))) ( zaA (zeD t1.columns i3) fun (x2:zan) => zaA (zbi t1.keys x2 wv1 k3) fun (r1:Int) => grd (I64 (i3+1)) <| grd (I64 (k3+1)) <| zaA (za9 (i3+1) (k3+1) at8 (x1.length:Int)) fun (r2:Int) => zaA (zeD at8 r2) fun (q1:Int) => grd (I64 (r1+q1)) <| j3 (min (2*((((t1.columns.length:Int) - i3)+(x1.length:Int)) - k3)) (r1+q1))
) ( j3 (2*((((t1.columns.length:Int) - i3)+(x1.length:Int)) - k3))
)
) ( j3 (2*((((t1.columns.length:Int) - i3)+(x1.length:Int)) - k3))
)
) (fun (best1:Int) => zcd (fun (j4:Int→Option zai) => zaL (decide ((i3:Int)<(t1.columns.length:Int))) ( grd (I64 (i3+1)) <| zaA (za9 (i3+1) k3 at8 (x1.length:Int)) fun (r3:Int) => zaA (zeD at8 r3) fun (q2:Int) => grd (I64 (2+q2)) <| j4 (min best1 (2+q2))
) ( j4 best1
)
) (fun (best2:Int) => zcd (fun (j5:Int→Option zai) => zaL (decide ((k3:Int)<(x1.length:Int))) ( grd (I64 (k3+1)) <| zaA (za9 i3 (k3+1) at8 (x1.length:Int)) fun (r4:Int) => zaA (zeD at8 r4) fun (q3:Int) => grd (I64 (2+q3)) <| j5 (min best2 (2+q3))
) ( j5 best2
)
) (fun (best3:Int) => zaA (za9 i3 k3 at8 (x1.length:Int)) fun (r5:Int) => zaA (zeD at8 r5) fun (q4:Int) => grd (I64 (k3 - 1)) <| ag2 (at8.set (r5:Int).toNat best3) (k3 - 1)
)
)
)
) ( j2 at8
)
def zch (t1:zai) (wv1:Int) (x1:List zBA) (j1:(List Int)→Option zai) (ag1:(List Int)→Int→Option zai) (at4:List Int) (i3:Int):Option zai := zaL (decide ((0:Int)≤i3)) ( zcd (fun (j2:(List Int)→Option zai) => zbq (fun _ _=>none) (zcg t1 wv1 x1 i3 j2) zc9 at4 (x1.length:Int)
) (fun (at5:List Int) => grd (I64 (i3 - 1)) <| ag1 at5 (i3 - 1)
)
) ( j1 at4
)
def zbS (wv1:Int) (j10:(List Int)→Option zai) (ag4:(List Int)→Int→Option zai) (words4:List Int) (x10:Int):Option zai := zaL (decide ((x10:Int)<wv1)) ( grd (words4.length+1≤2147483648) <| grd (I64 (x10+1)) <| ag4 (words4++[(-1)]) (x10+1)
) ( j10 words4
)
def zbT (t1:zai) (wv1:Int) (x1:List zBA) (at1:List Int) (j6:Nat→(List zan)→Option zai) (ag3:Nat→(List zan)→Int→Int→Option zai) (d4:Nat) (out4:List zan) (i6:Int) (k6:Int):Option zai := zcd (fun (j7:Option zai) => zaL (decide ((i6:Int)<(t1.columns.length:Int))) ( j7
) ( zaL (decide ((k6:Int)<(x1.length:Int))) ( j7
) ( j6 d4 out4
)
)
) ( zaA (za9 i6 k6 at1 (x1.length:Int)) fun (r6:Int) => zaA (zeD at1 r6) fun (q5:Int) => zcd (fun (j8:Bool→Option zai) => zaL (decide ((i6:Int)<(t1.columns.length:Int))) ( zaL (decide ((k6:Int)<(x1.length:Int))) ( zaA (zeD t1.columns i6) fun (x4:zan) => grd (d4=(i6:Int).toNat) <| zaA (zbi t1.keys x4 wv1 k6) fun (r7:Int) => grd (I64 (i6+1)) <| grd (I64 (k6+1)) <| zaA (za9 (i6+1) (k6+1) at1 (x1.length:Int)) fun (r8:Int) => zaA (zeD at1 r8) fun (q6:Int) => grd (I64 (r7+q6)) <| j8 ((q5:Int)==(r7+q6))
) ( j8 false
)
) ( j8 false
)
) (fun (x3:Bool) => zaL (x3) ( zaA (zeD t1.columns i6) fun (x5:zan) => grd (d4=(i6:Int).toNat) <| grd (x5.words.length+1≤2147483648) <| grd (out4.length+1≤2147483648) <| grd (I64 (i6+1)) <| grd (I64 (k6+1)) <| ag3 (d4+1) (out4++[(⟨x5.words++[k6],([]:List Int)⟩:zan)]) (i6+1) (k6+1)
) ( zcd (fun (j9:Bool→Option zai) => zaL (decide ((i6:Int)<(t1.columns.length:Int))) ( grd (I64 (i6+1)) <| zaA (za9 (i6+1) k6 at1 (x1.length:Int)) fun (r9:Int) => zaA (zeD at1 r9) fun (q7:Int) => grd (I64 (2+q7)) <| j9 ((q5:Int)==(2+q7))
) ( j9 false
)
) (fun (x6:Bool) => zaL (x6) ( zaA (zeD t1.columns i6) fun (x7:zan) => grd (d4=(i6:Int).toNat) <| grd (x7.words.length+1≤2147483648) <| grd (out4.length+1≤2147483648) <| grd (I64 (i6+1)) <| ag3 (d4+1) (out4++[(⟨x7.words++[(-1)],([]:List Int)⟩:zan)]) (i6+1) k6
) ( zcd (fun (j10:(List Int)→Option zai) => zbq (fun _ _=>none) (zbS wv1 j10) zc9 ([]:List Int) 0
) (fun (words1:List Int) => grd (words1.length+1≤2147483648) <| grd (out4.length+1≤2147483648) <| grd (I64 (k6+1)) <| ag3 d4 (out4++[(⟨words1++[k6],([]:List Int)⟩:zan)]) i6 (k6+1)
)
)
)
)
)
)
def zdV (t1:zai) (wv1:Int):Option zai := zaA (zeD t1.keys wv1) fun (x1:List zBA) => zcd (fun (j1:(List Int)→Option zai) => grd (I64 ((t1.columns.length:Int)+1)) <| grd (I64 ((x1.length:Int)+1)) <| grd (I64 (((t1.columns.length:Int)+1)*((x1.length:Int)+1))) <| grd (0≤(((t1.columns.length:Int)+1)*((x1.length:Int)+1))∧(((t1.columns.length:Int)+1)*((x1.length:Int)+1))≤2147483648) <| zbq (fun _ _=>none) (zch t1 wv1 x1 j1) zc9 (List.replicate (((t1.columns.length:Int)+1)*((x1.length:Int)+1):Int).toNat 0:List Int) (t1.columns.length:Int)
) (fun (at1:List Int) => zcd (fun (j6:Nat→(List zan)→Option zai) => zbq (fun _ _ _ _=>none) (zbT t1 wv1 x1 at1 j6) zc9 0 ([]:List zan) 0 0
) (fun (d1:Nat) (out1:List zan) => some (⟨t1.names,t1.texts,t1.spans,t1.keys,out1⟩:zai)
)
)
theorem zib {bt1:Nat} {t1:zai} {t1_h0 t1_h1 t1_h2 t1_h3 t1_h4:Hd} {wv1:Int} {r:zai} (h:zdV t1 wv1=some r):Fn prog 19 [zP bt1,zI wv1] [cells bt1 [t1_h0.v,t1_h1.v,t1_h2.v,t1_h3.v,t1_h4.v] 60,zv0 t1_h0.v t1.names,zv0 t1_h1.v t1.texts,zba zam zaf 62 1 t1_h2.v t1.spans,zba zaj zal 55 1 t1_h3.v t1.keys,zba zaq zak 70 2 t1_h4.v t1.columns] (fun b:Hd×Hd×Hd×Hd×Hd=>.tuple #[]) (fun b=>[cells bt1 [b.1.v,b.2.1.v,b.2.2.1.v,b.2.2.2.1.v,b.2.2.2.2.v] 60,zv0 b.1.v r.names,zv0 b.2.1.v r.texts,zba zam zaf 62 1 b.2.2.1.v r.spans,zba zaj zal 55 1 b.2.2.2.1.v r.keys,zba zaq zak 70 2 b.2.2.2.2.v r.columns]):=by
 unfold zdV at h
 refine Fn.intro func19 rfl ntmps19 (by simp) ?_
 intro w0 K
 refine zar ?_
 refine zh7 (k:=3) rfl zi0 (fun zs1 hz1 => ?_)
 refine zh7 (k:=4) rfl zi0 (fun zs2 hz2 => ?_)
 refine zh7 (k:=5) rfl zi0 (fun zs3 hz3 => ?_)
 obtain ⟨x1,hq1,h⟩:=zcp h
 obtain ⟨eh1,eq1⟩:=zgw hz2 hq1
 refine zh7 (k:=7) rfl (znl (zca eq1)) (fun _ _ => ?_)
 refine zlw 1 ?_
 refine let vals1:(Nat)→List (Nat×Nat×Value):=fun b=>[(0,16,zP bt1),(1,17,zP bt1),(2,18,.pointer (some ⟨bt1,4,none⟩)),(3,19,t1_h4.v),(4,20,zI (t1.columns.length:Int)),(5,21,zP bt1),(6,22,zP bt1),(7,23,.pointer (some ⟨bt1,3,none⟩)),(8,24,t1_h3.v),(9,25,zI wv1),(10,26,.pointer (some ⟨zgc t1_h3.v,(wv1:Int).toNat*1,none⟩)),(11,27,eh1.v),(12,28,zI (x1.length:Int)),(13,5,zP b),(14,4,zI (t1.columns.length:Int))]; let LL1:(Nat→Prop)→(Nat)→List Asn:=fun D b=>[cells bt1 [t1_h0.v,t1_h1.v,t1_h2.v,t1_h3.v,t1_h4.v] 60,zv0 t1_h0.v t1.names,zv0 t1_h1.v t1.texts,zv4 t1_h2.v zs1,zv6 t1_h3.v zs2,zv2 t1_h4.v zs3,own zaf zs1,own zal (zs2.eraseIdx ((wv1:Int).toNat)),own zak zs3,zv0 eh1.v x1,eD D emp [(13,cells b [zI 0] 3)]]; ?_
 refine zhd (β:=Nat) 15 (0:Nat) vals1 LL1 mixed kr kr dc (fun _=>rfl) (zgb (zay ze5 rfl)) (zbd ?_ (zbd ?_ (zbd ?_ (zbd ?_ (zbd ?_ (zbd ?_ (zbd ?_ (zbd ?_ (zbd ?_ (zbd ?_ (zbd ?_ (zbd ?_ (zbd ?_ (zbd ?_ (zbd ?_ DrawG.nil))))))))))))))) ?_
 ·
  intro D b hn hd hcl
  revert b; intro b1
  refine zbM (zjc rfl) (zaD rfl dc (za3 (by rfl) rfl) ?_)
  exact zcb b1 0 (by rfl) (by rfl) rfl (znc (ziu rfl)) (zgb (zay (zbg (by rfl)) rfl))
 ·
  intro D b hn hd hcl
  revert b; intro b1
  refine zbM (zjc rfl) (zav rfl dc (zaU (m:=0) rfl rfl (hd 0 dc)) ?_)
  exact zcb b1 1 (by rfl) (by rfl) rfl (znc (ziu rfl)) (zgb (zay (zbg (by rfl)) rfl))
 ·
  intro D b hn hd hcl
  revert b; intro b1
  refine zbM (zjc rfl) (zac zgH rfl dc (zaU (m:=1) rfl rfl (hd 1 dc)) (show _=4 from rfl) ?_)
  exact zcb b1 2 (by rfl) (by rfl) rfl (znc (ziu rfl)) (zgb (zay (zbg (by rfl)) rfl))
 ·
  intro D b hn hd hcl
  revert b; intro b1
  refine zbM (zjc rfl) (zat (k:=0) zlL rfl dc (zaU (m:=2) rfl rfl (hd 2 dc)) rfl rfl ?_)
  exact zcb b1 3 (by rfl) (by rfl) rfl (znc (ziu rfl)) (zgb (zay (zbg (by rfl)) rfl))
 ·
  intro D b hn hd hcl
  revert b; intro b1
  refine zbM (zjc rfl) (zo3 (k:=5) hz3 rfl dc (zaU (m:=3) rfl rfl (hd 3 dc)) rfl underlying58 ?_)
  exact zcb b1 4 (by rfl) (by rfl) rfl (znc (ziu rfl)) (zgb (zay (zbg (by rfl)) rfl))
 ·
  intro D b hn hd hcl
  revert b; intro b1
  refine zbM (zjc rfl) (zaD rfl dc (za3 (by rfl) rfl) ?_)
  exact zcb b1 5 (by rfl) (by rfl) rfl (znc (ziu rfl)) (zgb (zay (zbg (by rfl)) rfl))
 ·
  intro D b hn hd hcl
  revert b; intro b1
  refine zbM (zjc rfl) (zav rfl dc (zaU (m:=5) rfl rfl (hd 5 dc)) ?_)
  exact zcb b1 6 (by rfl) (by rfl) rfl (znc (ziu rfl)) (zgb (zay (zbg (by rfl)) rfl))
 ·
  intro D b hn hd hcl
  revert b; intro b1
  refine zbM (zjc rfl) (zac ziC rfl dc (zaU (m:=6) rfl rfl (hd 6 dc)) (show _=3 from rfl) ?_)
  exact zcb b1 7 (by rfl) (by rfl) rfl (znc (ziu rfl)) (zgb (zay (zbg (by rfl)) rfl))
 ·
  intro D b hn hd hcl
  revert b; intro b1
  refine zbM (zjc rfl) (zat (k:=0) zoE rfl dc (zaU (m:=7) rfl rfl (hd 7 dc)) rfl rfl ?_)
  exact zcb b1 8 (by rfl) (by rfl) rfl (znc (ziu rfl)) (zgb (zay (zbg (by rfl)) rfl))
 ·
  intro D b hn hd hcl
  revert b; intro b1
  refine zbM (zjc rfl) (zaD rfl dc (za3 (by rfl) rfl) ?_)
  exact zcb b1 9 (by rfl) (by rfl) rfl (znc (ziu rfl)) (zgb (zay (zbg (by rfl)) rfl))
 ·
  intro D b hn hd hcl
  revert b; intro b1
  refine zbM (zjc rfl) (zdD (k:=4) eq1 underlying57 zmk rfl dc (zaU (m:=8) rfl rfl (hd 8 dc)) (zaU (m:=9) rfl rfl (hd 9 dc)) rfl rfl ?_)
  exact zcb b1 10 (by rfl) (by rfl) rfl (znc (ziu rfl)) (zgb (zay (zbg (by rfl)) rfl))
 ·
  intro D b hn hd hcl
  revert b; intro b1
  refine zbM (zjc rfl) (zdo (i:=(wv1:Int).toNat) (j:=0) (k:=4) (q:=(x1,eh1)) zic ze2 rfl dc (zaU (m:=10) rfl rfl (hd 10 dc)) rfl (zca eq1) rfl dc rfl ?_)
  exact zcb b1 11 (by rfl) (by rfl) rfl (znc (ziu rfl)) (zgb (zay (zbg (by rfl)) rfl))
 ·
  intro D b hn hd hcl
  revert b; intro b1
  refine zbM (zjc rfl) (zgr (k:=9) rfl dc (zaU (m:=11) rfl rfl (hd 11 dc)) rfl underlying55 ?_)
  exact zcb b1 12 (by rfl) (by rfl) rfl (znc (ziu rfl)) (zgb (zay (zbg (by rfl)) rfl))
 ·
  intro D b hn hd hcl
  revert b; intro _b
  refine zbM (zgb (zay (za5 hn zbr) rfl)) ?_
  refine za6 zo6 rfl dc (fun b1 => ?_)
  refine zhb 10 rfl rfl ?_
  exact zcb b1 13 (by rfl) (by rfl) rfl (zaF (fun _=>rfl) (ziu (zaF (fun hD=>absurd hD hn) (zaF (fun _=>rfl) rfl)))) (zgb (zay (zda (Or.inr rfl) rfl) rfl))
 ·
  intro D b hn hd hcl
  revert b; intro b1
  refine zbM (zgb (zay (zda (hd 13 dc) rfl) rfl)) (zaw rfl dc (zaU (m:=4) rfl rfl (hd 4 dc)) ?_)
  exact zcb b1 14 (by rfl) (by rfl) rfl (znc (ziu rfl)) (zgb (zay ((zbg (by rfl)).trans (zda (hd 13 dc) rfl)) rfl))
 intro D b hall
 revert b; intro b1
 refine zbM (zgb (zay (zda (hall 13 dc) rfl) rfl)) ?_
 refine zaG (k:=10) (l':=[zI (x1.length:Int)]) zeR rfl rfl rfl rfl rfl (fun _ _=>rfl) rfl ?_
 refine zyN ?_
 obtain ⟨j1,hj1,h⟩:=zcC h
 refine zbF (β:=(List Int)×Nat×Value) 2 rfl (fun b=>j1 b.1=some r) (fun b=>[]) (fun b=>[(0,zP bt1),(1,zI wv1),(4,zI (t1.columns.length:Int)),(5,zP b1),(7,.func (.func 39) #[] #[zP b.2.1,zP b1])]) (fun b=>[cells bt1 [t1_h0.v,t1_h1.v,t1_h2.v,t1_h3.v,t1_h4.v] 60,zv0 t1_h0.v t1.names,zv0 t1_h1.v t1.texts,zv4 t1_h2.v zs1,own zaf zs1,zba zaj zal 55 1 t1_h3.v t1.keys,zv2 t1_h4.v zs3,own zak zs3,cells b1 [zI (x1.length:Int)] 3,cells b.2.1 [b.2.2] 68,zv3 b.2.2 b.1]) (fun cut => ?_) ?_
 ·
  refine zyG (zyR 1 rfl ?_)
  obtain ⟨hg1,h⟩:=zcU h
  refine zbn rfl (zbs (r:=(t1.columns.length:Int)+1) (IntWalk.i64_in _ hg1)) (zat (k:=10) zdk rfl dc rfl rfl rfl ?_)
  obtain ⟨hg2,h⟩:=zcU h
  refine zbn rfl (zbs (r:=(x1.length:Int)+1) (IntWalk.i64_in _ hg2)) ?_
  obtain ⟨hg3,h⟩:=zcU h
  refine zbn rfl (znI (r:=((t1.columns.length:Int)+1)*((x1.length:Int)+1)) (IntWalk.i64_in _ hg3)) ?_
  obtain ⟨hg4,h⟩:=zcU h
  refine zo2 (z:=0) underlying68 ztX zo6 zci rfl dc rfl hg4 (fun v2 => ?_)
  refine za6 zvt rfl dc (fun b3 => ?_)
  refine zaG (k:=12) (l':=[v2]) zuf rfl rfl rfl rfl rfl (fun _ h=>znp h (k:=11) rfl) rfl ?_
  refine zyH (zdH (x1:=[]) (x2:=[.tmp 6,.tmp 5]) rfl dc rfl rfl (zyR 1 rfl (zyN (cut (zyG (zyR 2 rfl (zap ?_)))))))
  refine zag (zaK (zme (k:=7) rfl (zaa [9] kr rfl) rfl (zlN (nest:=zal) (zca eq1) rfl) ?_))
  refine zme (k:=4) rfl (zaa [7] kr rfl) rfl (zgU (enc:=zaj) (nest:=zal) hz2) ?_
  refine zdy (β:=Nat×(List Int)×Int) (fun b=>zbq (fun _ _=>none) (zch t1 wv1 x1 j1) b.1 b.2.1 b.2.2=some r) (fun b=>[]) (fun b=>[(0,zP bt1),(1,zI wv1),(4,zI (t1.columns.length:Int)),(5,zP b1),(7,.func (.func 39) #[] #[zP b3,zP b1]),(8,zI b.2.2)]) (fun b=>[cells bt1 [t1_h0.v,t1_h1.v,t1_h2.v,t1_h3.v,t1_h4.v] 60,zv0 t1_h0.v t1.names,zv0 t1_h1.v t1.texts,zv4 t1_h2.v zs1,own zaf zs1,zba zaj zal 55 1 t1_h3.v t1.keys,zv2 t1_h4.v zs3,own zak zs3,cells b1 [zI (x1.length:Int)] 3,cells b3 [v2] 68,zv3 v2 b.2.1]) (fun b=>b.1) (zc9,(List.replicate (((t1.columns.length:Int)+1)*((x1.length:Int)+1):Int).toNat 0:List Int),(t1.columns.length:Int)) (by exact h) rfl (zbK rfl) (zaa [0,1,2,3,6,4,5,8,10,12,11] kr rfl) ?_
  rintro ⟨n1,at4,i3⟩ h
  cases n1 with
  | zero=>exact zfG h
  | succ n1 =>
   obtain ⟨ag1,hag1⟩:∃ ag,ag=zbq (fun _ _=>none) (zch t1 wv1 x1 j1) n1:=⟨_,rfl⟩
   have h:zch t1 wv1 x1 j1 ag1 at4 i3=some r:=by rw [hag1]; exact h
   unfold zch at h
   refine zar (zyG (zyR 1 rfl (zbn rfl zbV (zyN ?_))))
   refine zyB rfl h (fun h => ?_) (fun h => ?_)
   ·
    refine zax (zag ?_)
    obtain ⟨j2,hj2,h⟩:=zcC h
    refine zbF (β:=(List Int)) 0 rfl (fun b=>j2 b=some r) (fun b=>[]) (fun b=>[(0,zP bt1),(1,zI wv1),(4,zI (t1.columns.length:Int)),(5,zP b1),(7,.func (.func 39) #[] #[zP b3,zP b1]),(8,zI i3)]) (fun b=>[cells bt1 [t1_h0.v,t1_h1.v,t1_h2.v,t1_h3.v,t1_h4.v] 60,zv0 t1_h0.v t1.names,zv0 t1_h1.v t1.texts,zv4 t1_h2.v zs1,own zaf zs1,zba zaj zal 55 1 t1_h3.v t1.keys,zv2 t1_h4.v zs3,own zak zs3,cells b1 [zI (x1.length:Int)] 3,cells b3 [v2] 68,zv3 v2 b]) (fun cut => ?_) ?_
    ·
     refine cut (zaK (zyG (zat (k:=8) zdk rfl dc rfl rfl rfl (zyR 1 rfl (zyN (zaK ?_))))))
     refine zdy (β:=Nat×(List Int)×Int) (fun b=>zbq (fun _ _=>none) (zcg t1 wv1 x1 i3 j2) b.1 b.2.1 b.2.2=some r) (fun b=>[]) (fun b=>[(0,zP bt1),(1,zI wv1),(4,zI (t1.columns.length:Int)),(5,zP b1),(7,.func (.func 39) #[] #[zP b3,zP b1]),(8,zI i3),(9,zI b.2.2)]) (fun b=>[cells bt1 [t1_h0.v,t1_h1.v,t1_h2.v,t1_h3.v,t1_h4.v] 60,zv0 t1_h0.v t1.names,zv0 t1_h1.v t1.texts,zv4 t1_h2.v zs1,own zaf zs1,zba zaj zal 55 1 t1_h3.v t1.keys,zv2 t1_h4.v zs3,own zak zs3,cells b1 [zI (x1.length:Int)] 3,cells b3 [v2] 68,zv3 v2 b.2.1]) (fun b=>b.1) (zc9,at4,(x1.length:Int)) h rfl (zbK rfl) (zaa [0,1,2,3,4,5,6,7,8,9,10] kr rfl) ?_
     rintro ⟨n2,at8,k3⟩ h
     cases n2 with
     | zero=>exact zfG h
     | succ n2 =>
      obtain ⟨ag2,hag2⟩:∃ ag,ag=zbq (fun _ _=>none) (zcg t1 wv1 x1 i3 j2) n2:=⟨_,rfl⟩
      have h:zcg t1 wv1 x1 i3 j2 ag2 at8 k3=some r:=by rw [hag2]; exact h
      unfold zcg at h
      refine zar (zyG (zyR 1 rfl (zbn rfl zbV (zyN ?_))))
      refine zyB rfl h (fun h => ?_) (fun h => ?_)
      ·
       refine zax (zag (zar (zaK ?_)))
       obtain ⟨j3,hj3,h⟩:=zcC h
       refine zbF (β:=Int) 1 rfl (fun b=>j3 b=some r) (fun b=>[]) (fun b=>[(0,zP bt1),(1,zI wv1),(4,zI (t1.columns.length:Int)),(5,zP b1),(7,.func (.func 39) #[] #[zP b3,zP b1]),(8,zI i3),(9,zI k3),(10,zI b)]) (fun b=>[cells bt1 [t1_h0.v,t1_h1.v,t1_h2.v,t1_h3.v,t1_h4.v] 60,zv0 t1_h0.v t1.names,zv0 t1_h1.v t1.texts,zv4 t1_h2.v zs1,own zaf zs1,zba zaj zal 55 1 t1_h3.v t1.keys,zv2 t1_h4.v zs3,own zak zs3,cells b1 [zI (x1.length:Int)] 3,cells b3 [v2] 68,zv3 v2 at8]) (fun cut => ?_) ?_
       ·
        refine zyG (zyR 2 rfl ?_)
        obtain ⟨hg5,h⟩:=zcU h
        refine zbn rfl (zfO (r:=(t1.columns.length:Int) - i3) (IntWalk.i64_in _ hg5)) (zat (k:=8) zdk rfl dc rfl rfl rfl ?_)
        obtain ⟨hg6,h⟩:=zcU h
        refine zbn rfl (zbs (r:=((t1.columns.length:Int) - i3)+(x1.length:Int)) (IntWalk.i64_in _ hg6)) (zyR 1 rfl ?_)
        obtain ⟨hg7,h⟩:=zcU h
        refine zbn rfl (zfO (r:=(((t1.columns.length:Int) - i3)+(x1.length:Int)) - k3) (IntWalk.i64_in _ hg7)) ?_
        obtain ⟨hg8,h⟩:=zcU h
        refine zbn rfl (znI (r:=2*((((t1.columns.length:Int) - i3)+(x1.length:Int)) - k3)) (IntWalk.i64_in _ hg8)) (zyR 1 rfl (zyN (cut (zyG (zyR 2 rfl (zbn rfl zb4 (zyR 1 rfl ?_)))))))
        refine zyS (s:=57) rfl h (fun h => ?_) (fun h => ?_)
        ·
         refine zyR 1 rfl (zat (k:=8) zdk rfl dc rfl rfl rfl (zbn rfl zb4 (zyR 1 rfl (zyN ?_))))
         refine zyB rfl h (fun h => ?_) (fun h => ?_)
         ·
          refine zad (zyR 3 rfl (zav rfl dc rfl (zac zgH rfl dc rfl (show _=4 from rfl) (zat (k:=0) zlL rfl dc rfl rfl rfl (zyR 1 rfl ?_)))))
          obtain ⟨x2,hq2,h⟩:=zcp h
          obtain ⟨⟨eh2,eh3⟩,eq2⟩:=zgw hz3 hq2
          refine zdD (k:=6) eq2 underlying58 znh rfl dc rfl rfl rfl rfl (zgq (i:=(i3:Int).toNat) (j:=0) (k:=6) (q:=(x2,(eh2,eh3))) (cs:=[eh2.v,eh3.v]) zqO zbz rfl dc rfl rfl (zca eq2) rfl rfl rfl (zyR 2 rfl ?_))
          refine zc5 (k:=7) rfl (znl (zca eq2)) (fun _ _ => ?_)
          refine zd5 (k:=11) rfl (fun hw1 => ?_)
          refine zd5 (k:=12) rfl (fun hw2 => ?_)
          obtain ⟨r1,hq3,h⟩:=zcp h
          refine zbm (v:=zI r1) (vs:=[zP bt1,.agg #[eh2.v,eh3.v],zI wv1,zI k3]) (Rd.nil:Rd _ _ []) rfl dc rfl rfl rfl zuN (zfW (t1_keys:=t1.keys) (bt1:=bt1) (t1_h0:=t1_h0) (t1_h1:=t1_h1) (t1_h2:=t1_h2) (t1_h3:=t1_h3) (t1_h4:=t1_h4) (c1_h0:=eh2) (c1_h1:=eh3) (c1:=x2) hw1 hw2 hq3) (.own (zaa [0] kr rfl) (fun _ _ h=>sepL.one1.1 h) (.own (zaa [5] kr rfl) (fun _ _ h=>sepL.one1.1 h) (.own (As:=[zv3 eh2.v x2.words]) (zaa [11] kr rfl) (fun _ _ h=>zh0 zci (sepL.one1.1 h)) (.own (As:=[zv3 eh3.v x2.readings]) (zaa [12] kr rfl) (fun _ _ h=>zh0 zci (sepL.one1.1 h)) .nil)))) ?_
          refine zyR 2 rfl ?_
          obtain ⟨hg9,h⟩:=zcU h
          refine zbn rfl (zbs (r:=i3+1) (IntWalk.i64_in _ hg9)) (zyR 1 rfl ?_)
          obtain ⟨hg10,h⟩:=zcU h
          refine zbn rfl (zbs (r:=k3+1) (IntWalk.i64_in _ hg10)) ?_
          refine zd5 (k:=10) rfl (fun hw3 => ?_)
          obtain ⟨r2,hq4,h⟩:=zcp h
          obtain ⟨q1,hq5,h⟩:=zcp h
          refine zbm (v:=.pointer (some ⟨zgc v2,(r2:Int).toNat*1,none⟩)) (vs:=[zI (i3+1),zI (k3+1)]) (Rd.nil:Rd _ _ []) rfl dc rfl rfl rfl znE (zhf (zcx (bc0:=b3) (bc1:=b1) (xc1:=(x1.length:Int)) hw3 hq4)) (.own (zaa [9] kr rfl) (fun _ _ h=>sepL.one1.1 h) (.own (As:=[zv3 v2 at8]) (zaa [10] kr rfl) (fun _ _ h=>zdW zci (sepL.one1.1 h)) (.own (zaa [8] kr rfl) (fun _ _ h=>sepL.one1.1 h) .nil))) ?_
          refine zav rfl dc rfl (zdo (i:=(r2:Int).toNat) (j:=0) (k:=10) (q:=q1) zdk zci rfl dc rfl rfl (zca hq5) rfl dc rfl ?_)
          obtain ⟨hg11,h⟩:=zcU h
          refine zbn rfl (zbs (r:=r1+q1) (IntWalk.i64_in _ hg11)) (znM rfl dc rfl rfl (zyR 1 rfl (zap (zfT (k:=7) rfl (zaa [11,12] kr rfl) rfl (zlN (nest:=zak) (zca eq2) rfl) ?_))))
          exact zaB (min (2*((((t1.columns.length:Int) - i3)+(x1.length:Int)) - k3)) (r1+q1)) h rfl (zbK rfl) (zaa [0,1,2,3,4,5,6,7,8,9,10] kr rfl)
         refine zax ?_
         exact zaB (2*((((t1.columns.length:Int) - i3)+(x1.length:Int)) - k3)) h rfl (zbK rfl) (zaa [0,1,2,3,4,5,6,7,8,9,10] kr rfl)
        refine zyR 4 rfl (zyN (zaS rfl (zax ?_)))
        exact zaB (2*((((t1.columns.length:Int) - i3)+(x1.length:Int)) - k3)) h rfl (zbK rfl) (zaa [0,1,2,3,4,5,6,7,8,9,10] kr rfl)
       rintro best1 h
       rw [hj3] at h
       obtain ⟨j4,hj4,h⟩:=zcC h
       refine zbF (β:=Int) 0 rfl (fun b=>j4 b=some r) (fun b=>[]) (fun b=>[(0,zP bt1),(1,zI wv1),(4,zI (t1.columns.length:Int)),(5,zP b1),(7,.func (.func 39) #[] #[zP b3,zP b1]),(8,zI i3),(9,zI k3),(10,zI b)]) (fun b=>[cells bt1 [t1_h0.v,t1_h1.v,t1_h2.v,t1_h3.v,t1_h4.v] 60,zv0 t1_h0.v t1.names,zv0 t1_h1.v t1.texts,zv4 t1_h2.v zs1,own zaf zs1,zba zaj zal 55 1 t1_h3.v t1.keys,zv2 t1_h4.v zs3,own zak zs3,cells b1 [zI (x1.length:Int)] 3,cells b3 [v2] 68,zv3 v2 at8]) (fun cut => ?_) ?_
       ·
        refine cut (zyG (zyR 2 rfl (zbn rfl zb4 (zyN ?_))))
        refine zyB rfl h (fun h => ?_) (fun h => ?_)
        ·
         refine zad (zyR 3 rfl ?_)
         obtain ⟨hg12,h⟩:=zcU h
         refine zbn rfl (zbs (r:=i3+1) (IntWalk.i64_in _ hg12)) (zyR 1 rfl ?_)
         refine zd5 (k:=10) rfl (fun hw4 => ?_)
         obtain ⟨r3,hq6,h⟩:=zcp h
         obtain ⟨q2,hq7,h⟩:=zcp h
         refine zbm (v:=.pointer (some ⟨zgc v2,(r3:Int).toNat*1,none⟩)) (vs:=[zI (i3+1),zI k3]) (Rd.nil:Rd _ _ []) rfl dc rfl rfl rfl znE (zhf (zcx (bc0:=b3) (bc1:=b1) (xc1:=(x1.length:Int)) hw4 hq6)) (.own (zaa [9] kr rfl) (fun _ _ h=>sepL.one1.1 h) (.own (As:=[zv3 v2 at8]) (zaa [10] kr rfl) (fun _ _ h=>zdW zci (sepL.one1.1 h)) (.own (zaa [8] kr rfl) (fun _ _ h=>sepL.one1.1 h) .nil))) ?_
         refine zav rfl dc rfl (zdo (i:=(r3:Int).toNat) (j:=0) (k:=10) (q:=q2) zdk zci rfl dc rfl rfl (zca hq7) rfl dc rfl ?_)
         obtain ⟨hg13,h⟩:=zcU h
         refine zbn rfl (zbs (r:=2+q2) (IntWalk.i64_in _ hg13)) (znM rfl dc rfl rfl (zyR 1 rfl (zap ?_)))
         exact zaB (min best1 (2+q2)) h rfl (zbK rfl) (zaa [0,1,2,3,4,5,6,7,8,9,10] kr rfl)
        refine zax ?_
        exact zaB best1 h rfl (zbK rfl) (zaa [0,1,2,3,4,5,6,7,8,9,10] kr rfl)
       rintro best2 h
       rw [hj4] at h
       obtain ⟨j5,hj5,h⟩:=zcC h
       refine zbF (β:=Int) 0 rfl (fun b=>j5 b=some r) (fun b=>[]) (fun b=>[(0,zP bt1),(1,zI wv1),(4,zI (t1.columns.length:Int)),(5,zP b1),(7,.func (.func 39) #[] #[zP b3,zP b1]),(8,zI i3),(9,zI k3),(10,zI b)]) (fun b=>[cells bt1 [t1_h0.v,t1_h1.v,t1_h2.v,t1_h3.v,t1_h4.v] 60,zv0 t1_h0.v t1.names,zv0 t1_h1.v t1.texts,zv4 t1_h2.v zs1,own zaf zs1,zba zaj zal 55 1 t1_h3.v t1.keys,zv2 t1_h4.v zs3,own zak zs3,cells b1 [zI (x1.length:Int)] 3,cells b3 [v2] 68,zv3 v2 at8]) (fun cut => ?_) ?_
       ·
        refine cut (zyG (zyR 1 rfl (zat (k:=8) zdk rfl dc rfl rfl rfl (zbn rfl zb4 (zyN ?_)))))
        refine zyB rfl h (fun h => ?_) (fun h => ?_)
        ·
         refine zad (zyR 4 rfl ?_)
         obtain ⟨hg14,h⟩:=zcU h
         refine zbn rfl (zbs (r:=k3+1) (IntWalk.i64_in _ hg14)) ?_
         refine zd5 (k:=10) rfl (fun hw5 => ?_)
         obtain ⟨r4,hq8,h⟩:=zcp h
         obtain ⟨q3,hq9,h⟩:=zcp h
         refine zbm (v:=.pointer (some ⟨zgc v2,(r4:Int).toNat*1,none⟩)) (vs:=[zI i3,zI (k3+1)]) (Rd.nil:Rd _ _ []) rfl dc rfl rfl rfl znE (zhf (zcx (bc0:=b3) (bc1:=b1) (xc1:=(x1.length:Int)) hw5 hq8)) (.own (zaa [9] kr rfl) (fun _ _ h=>sepL.one1.1 h) (.own (As:=[zv3 v2 at8]) (zaa [10] kr rfl) (fun _ _ h=>zdW zci (sepL.one1.1 h)) (.own (zaa [8] kr rfl) (fun _ _ h=>sepL.one1.1 h) .nil))) ?_
         refine zav rfl dc rfl (zdo (i:=(r4:Int).toNat) (j:=0) (k:=10) (q:=q3) zdk zci rfl dc rfl rfl (zca hq9) rfl dc rfl ?_)
         obtain ⟨hg15,h⟩:=zcU h
         refine zbn rfl (zbs (r:=2+q3) (IntWalk.i64_in _ hg15)) (znM rfl dc rfl rfl (zyR 1 rfl (zap ?_)))
         exact zaB (min best2 (2+q3)) h rfl (zbK rfl) (zaa [0,1,2,3,4,5,6,7,8,9,10] kr rfl)
        refine zax ?_
        exact zaB best2 h rfl (zbK rfl) (zaa [0,1,2,3,4,5,6,7,8,9,10] kr rfl)
       rintro best3 h
       rw [hj5] at h
       refine zad (zyR 3 rfl ?_)
       refine zd5 (k:=10) rfl (fun hw6 => ?_)
       obtain ⟨r5,hq10,h⟩:=zcp h
       obtain ⟨q4,hq11,h⟩:=zcp h
       refine zbm (v:=.pointer (some ⟨zgc v2,(r5:Int).toNat*1,none⟩)) (vs:=[zI i3,zI k3]) (Rd.nil:Rd _ _ []) rfl dc rfl rfl rfl znE (zhf (zcx (bc0:=b3) (bc1:=b1) (xc1:=(x1.length:Int)) hw6 hq10)) (.own (zaa [9] kr rfl) (fun _ _ h=>sepL.one1.1 h) (.own (As:=[zv3 v2 at8]) (zaa [10] kr rfl) (fun _ _ h=>zdW zci (sepL.one1.1 h)) (.own (zaa [8] kr rfl) (fun _ _ h=>sepL.one1.1 h) .nil))) ?_
       refine zyR 1 rfl (zav rfl dc rfl ?_)
       refine zg9 (i:=(r5:Int).toNat) (j:=0) (k:=10) (q:=q4) (q':=best3) zeR zci rfl rfl rfl rfl (zca hq11) rfl dc rfl (fun _ _=>rfl) ?_
       refine zap (zah (zag (zad (zyR 1 rfl ?_))))
       obtain ⟨hg16,h⟩:=zcU h
       refine zbn rfl (zfO (r:=k3 - 1) (IntWalk.i64_in _ hg16)) (zyR 1 rfl (zap ?_))
       subst hag2
       exact zcM (n2,at8.set (r5:Int).toNat best3,k3 - 1) h (Nat.lt_succ_self _) rfl (zbK rfl) (zaa [0,1,2,3,4,5,6,7,8,9,10] kr rfl)
      refine zcy (zaV (zaV (zbh (zah ?_))))
      exact zaB at8 h rfl (zbK rfl) (zaa [0,1,2,3,4,5,6,7,8,9,10] kr rfl)
    rintro at5 h
    rw [hj2] at h
    refine zad (zyR 1 rfl ?_)
    obtain ⟨hg17,h⟩:=zcU h
    refine zbn rfl (zfO (r:=i3 - 1) (IntWalk.i64_in _ hg17)) (zyR 1 rfl (zap ?_))
    subst hag1
    exact zcM (n1,at5,i3 - 1) h (Nat.lt_succ_self _) rfl (zbK rfl) (zaa [0,1,2,3,4,5,6,7,8,9,10] kr rfl)
   refine zcy (zaV (zaV (zbh ?_)))
   exact zaB (at4,b3,v2) h rfl (zbK rfl) (zaa [0,1,2,3,4,5,6,7,8,9,10] kr rfl)
 rintro ⟨at1,b2,v1⟩ h
 rw [hj1] at h
 obtain ⟨j6,hj6,h⟩:=zcC h
 refine zbF (β:=Nat×(List zan)×Hd) 2 rfl (fun b=>j6 b.1 b.2.1=some r) (fun b=>[]) (fun b=>[(0,zP bt1),(11,b.2.2.v)]) (fun b=>[cells bt1 [t1_h0.v,t1_h1.v,t1_h2.v,t1_h3.v,t1_h4.v] 60,zv0 t1_h0.v t1.names,zv0 t1_h1.v t1.texts,zv4 t1_h2.v zs1,own zaf zs1,zba zaj zal 55 1 t1_h3.v t1.keys,zv2 t1_h4.v zs3,own zak (zs3.drop b.1),zba zaq zak 70 2 b.2.2.v b.2.1]) (fun cut => ?_) ?_
 ·
  refine zyG (zyR 1 rfl (zyH (zyR 2 rfl (zyN (cut (zaK (zkH (enc:=zaq) (nest:=zak) (e:=70) (size:=2) ?_)))))))
  refine zdy (β:=Nat×Nat×(List zan)×Int×Int×Hd) (fun b=>zbq (fun _ _ _ _=>none) (zbT t1 wv1 x1 at1 j6) b.1 b.2.1 b.2.2.1 b.2.2.2.1 b.2.2.2.2.1=some r) (fun b=>[]) (fun b=>[(0,zP bt1),(1,zI wv1),(4,zI (t1.columns.length:Int)),(5,zP b1),(7,.func (.func 39) #[] #[zP b2,zP b1]),(11,b.2.2.2.2.2.v),(12,zI b.2.2.2.1),(13,zI b.2.2.2.2.1)]) (fun b=>[cells bt1 [t1_h0.v,t1_h1.v,t1_h2.v,t1_h3.v,t1_h4.v] 60,zv0 t1_h0.v t1.names,zv0 t1_h1.v t1.texts,zv4 t1_h2.v zs1,own zaf zs1,zba zaj zal 55 1 t1_h3.v t1.keys,zv2 t1_h4.v zs3,own zak (zs3.drop b.2.1),cells b1 [zI (x1.length:Int)] 3,cells b2 [v1] 68,zv3 v1 at1,zba zaq zak 70 2 b.2.2.2.2.2.v b.2.2.1]) (fun b=>b.1) (zc9,0,([]:List zan),0,0,Hd.nil) (by exact h) rfl (zbK rfl) (zaa [0,1,2,3,4,5,6,7,8,9,10,11] kr rfl) ?_
  rintro ⟨n3,d4,out4,i6,k6,hd4⟩ h
  cases n3 with
  | zero=>exact zfG h
  | succ n3 =>
   obtain ⟨ag3,hag3⟩:∃ ag,ag=zbq (fun _ _ _ _=>none) (zbT t1 wv1 x1 at1 j6) n3:=⟨_,rfl⟩
   have h:zbT t1 wv1 x1 at1 j6 ag3 d4 out4 i6 k6=some r:=by rw [hag3]; exact h
   unfold zbT at h
   obtain ⟨j7,hj7,h⟩:=zcC h
   refine zbF (β:=Unit) 0 rfl (fun b=>j7=some r) (fun b=>[]) (fun b=>[(0,zP bt1),(1,zI wv1),(4,zI (t1.columns.length:Int)),(5,zP b1),(7,.func (.func 39) #[] #[zP b2,zP b1]),(11,hd4.v),(12,zI i6),(13,zI k6)]) (fun b=>[cells bt1 [t1_h0.v,t1_h1.v,t1_h2.v,t1_h3.v,t1_h4.v] 60,zv0 t1_h0.v t1.names,zv0 t1_h1.v t1.texts,zv4 t1_h2.v zs1,own zaf zs1,zba zaj zal 55 1 t1_h3.v t1.keys,zv2 t1_h4.v zs3,own zak (zs3.drop d4),cells b1 [zI (x1.length:Int)] 3,cells b2 [v1] 68,zv3 v1 at1,zba zaq zak 70 2 hd4.v out4]) (fun cut => ?_) ?_
   ·
    refine cut (zyG (zyR 2 rfl (zbn rfl zb4 (zyR 1 rfl ?_))))
    refine zyS (s:=119) rfl h (fun h => ?_) (fun h => ?_)
    ·
     refine zyR 4 rfl (zyN (zbw rfl (zax ?_)))
     exact zaB () h rfl (zbK rfl) (zaa [0,1,2,3,4,5,6,7,8,9,10,11] kr rfl)
    refine zyR 1 rfl (zat (k:=8) zdk rfl dc rfl rfl rfl (zbn rfl zb4 (zyR 1 rfl (zyN ?_))))
    refine zyB rfl h (fun h => ?_) (fun h => ?_)
    ·
     refine zax ?_
     exact zaB () h rfl (zbK rfl) (zaa [0,1,2,3,4,5,6,7,8,9,10,11] kr rfl)
    refine zcy (zaV (zaV (zbh ?_)))
    exact zaB (d4,out4,hd4) h rfl (zbK rfl) (zaa [0,1,2,3,4,5,6,7,11] kr rfl)
   rintro _ h
   rw [hj7] at h
   refine zaK (zyG (zyR 3 rfl ?_))
   refine zd5 (k:=10) rfl (fun hw7 => ?_)
   obtain ⟨r6,hq12,h⟩:=zcp h
   obtain ⟨q5,hq13,h⟩:=zcp h
   refine zbm (v:=.pointer (some ⟨zgc v1,(r6:Int).toNat*1,none⟩)) (vs:=[zI i6,zI k6]) (Rd.nil:Rd _ _ []) rfl dc rfl rfl rfl znE (zhf (zcx (bc0:=b2) (bc1:=b1) (xc1:=(x1.length:Int)) hw7 hq12)) (.own (zaa [9] kr rfl) (fun _ _ h=>sepL.one1.1 h) (.own (As:=[zv3 v1 at1]) (zaa [10] kr rfl) (fun _ _ h=>zdW zci (sepL.one1.1 h)) (.own (zaa [8] kr rfl) (fun _ _ h=>sepL.one1.1 h) .nil))) ?_
   refine zav rfl dc rfl (zdo (i:=(r6:Int).toNat) (j:=0) (k:=10) (q:=q5) zdk zci rfl dc rfl rfl (zca hq13) rfl dc rfl (zyR 1 rfl (zyN (zaK ?_))))
   obtain ⟨j8,hj8,h⟩:=zcC h
   refine zbF (β:=Bool) 0 rfl (fun b=>j8 b=some r) (fun b=>[]) (fun b=>[(0,zP bt1),(1,zI wv1),(4,zI (t1.columns.length:Int)),(5,zP b1),(7,.func (.func 39) #[] #[zP b2,zP b1]),(11,hd4.v),(12,zI i6),(13,zI k6),(14,zI q5),(147,.bool b)]) (fun b=>[cells bt1 [t1_h0.v,t1_h1.v,t1_h2.v,t1_h3.v,t1_h4.v] 60,zv0 t1_h0.v t1.names,zv0 t1_h1.v t1.texts,zv4 t1_h2.v zs1,own zaf zs1,zba zaj zal 55 1 t1_h3.v t1.keys,zv2 t1_h4.v zs3,own zak (zs3.drop d4),cells b1 [zI (x1.length:Int)] 3,cells b2 [v1] 68,zv3 v1 at1,zba zaq zak 70 2 hd4.v out4]) (fun cut => ?_) ?_
   ·
    refine cut (zad (zyR 2 rfl (zbn rfl zb4 (zyR 1 rfl ?_))))
    refine zyS (s:=151) rfl h (fun h => ?_) (fun h => ?_)
    ·
     refine zyR 1 rfl (zat (k:=8) zdk rfl dc rfl rfl rfl (zbn rfl zb4 (zyR 2 rfl ?_)))
     refine zyS (s:=156) rfl h (fun h => ?_) (fun h => ?_)
     ·
      refine zyR 3 rfl (zav rfl dc rfl (zac zgH rfl dc rfl (show _=4 from rfl) (zat (k:=0) zlL rfl dc rfl rfl rfl (zyR 1 rfl ?_))))
      obtain ⟨x4,hq14,h⟩:=zcp h
      obtain ⟨⟨eh4,eh5⟩,eq3⟩:=zgw hz3 hq14
      refine zdD (k:=6) eq3 underlying58 znh rfl dc rfl rfl rfl rfl (zgq (i:=(i6:Int).toNat) (j:=0) (k:=6) (q:=(x4,(eh4,eh5))) (cs:=[eh4.v,eh5.v]) zqO zbz rfl dc rfl rfl (zca eq3) rfl rfl rfl (zyR 2 rfl ?_))
      obtain ⟨hg18,h⟩:=zcU h
      refine zc5 (k:=7) rfl (zsK (zca eq3) hg18) (fun _ _ => ?_)
      refine zd5 (k:=12) rfl (fun hw8 => ?_)
      refine zd5 (k:=13) rfl (fun hw9 => ?_)
      obtain ⟨r7,hq15,h⟩:=zcp h
      refine zbm (v:=zI r7) (vs:=[zP bt1,.agg #[eh4.v,eh5.v],zI wv1,zI k6]) (Rd.nil:Rd _ _ []) rfl dc rfl rfl rfl zuN (zfW (t1_keys:=t1.keys) (bt1:=bt1) (t1_h0:=t1_h0) (t1_h1:=t1_h1) (t1_h2:=t1_h2) (t1_h3:=t1_h3) (t1_h4:=t1_h4) (c1_h0:=eh4) (c1_h1:=eh5) (c1:=x4) hw8 hw9 hq15) (.own (zaa [0] kr rfl) (fun _ _ h=>sepL.one1.1 h) (.own (zaa [5] kr rfl) (fun _ _ h=>sepL.one1.1 h) (.own (As:=[zv3 eh4.v x4.words]) (zaa [12] kr rfl) (fun _ _ h=>zh0 zci (sepL.one1.1 h)) (.own (As:=[zv3 eh5.v x4.readings]) (zaa [13] kr rfl) (fun _ _ h=>zh0 zci (sepL.one1.1 h)) .nil)))) ?_
      refine zyR 2 rfl ?_
      obtain ⟨hg19,h⟩:=zcU h
      refine zbn rfl (zbs (r:=i6+1) (IntWalk.i64_in _ hg19)) (zyR 1 rfl ?_)
      obtain ⟨hg20,h⟩:=zcU h
      refine zbn rfl (zbs (r:=k6+1) (IntWalk.i64_in _ hg20)) ?_
      refine zd5 (k:=10) rfl (fun hw10 => ?_)
      obtain ⟨r8,hq16,h⟩:=zcp h
      obtain ⟨q6,hq17,h⟩:=zcp h
      refine zbm (v:=.pointer (some ⟨zgc v1,(r8:Int).toNat*1,none⟩)) (vs:=[zI (i6+1),zI (k6+1)]) (Rd.nil:Rd _ _ []) rfl dc rfl rfl rfl znE (zhf (zcx (bc0:=b2) (bc1:=b1) (xc1:=(x1.length:Int)) hw10 hq16)) (.own (zaa [9] kr rfl) (fun _ _ h=>sepL.one1.1 h) (.own (As:=[zv3 v1 at1]) (zaa [10] kr rfl) (fun _ _ h=>zdW zci (sepL.one1.1 h)) (.own (zaa [8] kr rfl) (fun _ _ h=>sepL.one1.1 h) .nil))) ?_
      refine zav rfl dc rfl (zdo (i:=(r8:Int).toNat) (j:=0) (k:=10) (q:=q6) zdk zci rfl dc rfl rfl (zca hq17) rfl dc rfl ?_)
      obtain ⟨hg21,h⟩:=zcU h
      refine zbn rfl (zbs (r:=r7+q6) (IntWalk.i64_in _ hg21)) (zbn rfl zaP (zyR 2 rfl (zap (zfT (k:=7) rfl (zaa [12,13] kr rfl) rfl (zvL (nest:=zak) (zca eq3) hg18) ?_))))
      exact zaB ((q5:Int)==(r7+q6)) h rfl (zbK rfl) (zaa [0,1,2,3,4,5,6,7,8,9,10,11] kr rfl)
     refine zyR 14 rfl ?_
     refine zyR 10 rfl (zap ?_)
     exact zaB false h rfl (zbK rfl) (zaa [0,1,2,3,4,5,6,7,8,9,10,11] kr rfl)
    refine zyR 14 rfl ?_
    refine zyR 14 rfl ?_
    refine zyR 1 rfl (zap ?_)
    exact zaB false h rfl (zbK rfl) (zaa [0,1,2,3,4,5,6,7,8,9,10,11] kr rfl)
   rintro x3 h
   rw [hj8] at h
   refine zyB rfl h (fun h => ?_) (fun h => ?_)
   ·
    refine zyG (zyR 2 rfl (zav rfl dc rfl (zac zgH rfl dc rfl (show _=4 from rfl) (zat (k:=0) zlL rfl dc rfl rfl rfl (zyR 1 rfl ?_)))))
    obtain ⟨x5,hq18,h⟩:=zcp h
    obtain ⟨⟨eh6,eh7⟩,eq4⟩:=zgw hz3 hq18
    refine zdD (k:=6) eq4 underlying58 znh rfl dc rfl rfl rfl rfl (zac zlV rfl dc rfl (show _=((i6:Int).toNat)*2 from rfl) (zdo (i:=(i6:Int).toNat) (j:=0) (k:=6) (q:=(x5,(eh6,eh7))) zlK zbz rfl dc rfl rfl (zca eq4) rfl dc rfl (zyR 1 rfl ?_)))
    refine zby (cs:=[zI k6]) (te:=3) (ps:=[(0,.tmp 189)]) rfl dc rfl (fun _=>by kernel_rfl) (fun b4 => ?_)
    obtain ⟨hg22,h⟩:=zcU h
    refine zc5 (k:=7) rfl (zsK (zca eq4) hg22) (fun _ _ => ?_)
    obtain ⟨hg23,h⟩:=zcU h
    refine zbR (k:=13) (k2:=12) (ys:=[k6]) underlying68 ztX zci zgB rfl dc rfl rfl rfl rfl rfl rfl hg23 (fun v3 => ?_)
    refine zc7 (k:=13) rfl (fun hd5 he1 => ?_)
    subst he1
    refine zbB (v:=.agg #[hd5.v,.slice none 0 0]) (ps:=[(0,.tmp 191)]) rfl dc rfl (fun _=>by kernel_rfl) ?_
    refine zby (cs:=[hd5.v,.slice none 0 0]) (te:=70) (ps:=[(0,.tmp 192)]) rfl dc rfl (fun _=>by kernel_rfl) (fun b5 => ?_)
    refine zf1 (enc:=(zfH (.i64))) (e:=3) (size:=1) ?_
    refine zc5 (k:=11) rfl zi0 (fun zs4 hz4 => ?_)
    obtain ⟨hg24,h⟩:=zcU h
    refine zbR (k:=11) (k2:=15) (ys:=[((⟨x5.words++[k6],([]:List Int)⟩:zan),(hd5,Hd.nil))]) underlying58 ztw zbz zeg rfl dc rfl rfl rfl rfl rfl rfl (by rw [zqB hz4]; exact hg24) (fun v4 => ?_)
    refine zc7 (k:=11) rfl (fun hd6 he2 => ?_)
    subst he2
    refine zed (k:=17) rfl (zaa [13,16] kr rfl) rfl (zkn (nest:=zak) (zs:=zs4) (z:=((⟨x5.words++[k6],([]:List Int)⟩:zan),(hd5,Hd.nil)))) ?_
    refine zed (k:=11) rfl (zaa [17] kr rfl) rfl (zgU (enc:=zaq) (nest:=zak) (zsp hz4)) ?_
    refine zb6 (L':=[cells bt1 [t1_h0.v,t1_h1.v,t1_h2.v,t1_h3.v,t1_h4.v] 60,zv0 t1_h0.v t1.names,zv0 t1_h1.v t1.texts,zv4 t1_h2.v zs1,own zaf zs1,zba zaj zal 55 1 t1_h3.v t1.keys,zv2 t1_h4.v zs3,own zak (zs3.drop (d4+1)),cells b1 [zI (x1.length:Int)] 3,cells b2 [v1] 68,zv3 v1 at1,zba zaq zak 70 2 hd6.v (out4++[(⟨x5.words++[k6],([]:List Int)⟩:zan)]),cells b4 [zI k6] 3,emp,zv3 eh7.v x5.readings,cells b5 [hd5.v,.slice none 0 0] 70]) (zaa [0,1,2,3,4,5,6,7,8,9,10,11,12,13,14,15] kr rfl) (zyR 1 rfl (zyH (zyR 1 rfl ?_)))
    obtain ⟨hg25,h⟩:=zcU h
    refine zbn rfl (zbs (r:=i6+1) (IntWalk.i64_in _ hg25)) (zyR 1 rfl (zyN (zad (zyR 1 rfl ?_))))
    obtain ⟨hg26,h⟩:=zcU h
    refine zbn rfl (zbs (r:=k6+1) (IntWalk.i64_in _ hg26)) (zyR 1 rfl (zap (zah (zah ?_))))
    subst hag3
    exact zcM (n3,d4+1,out4++[(⟨x5.words++[k6],([]:List Int)⟩:zan)],i6+1,k6+1,hd6) h (Nat.lt_succ_self _) rfl (zbK rfl) (zaa [0,1,2,3,4,5,6,7,8,9,10,11] kr rfl)
   obtain ⟨j9,hj9,h⟩:=zcC h
   refine zbF (β:=Bool) 0 rfl (fun b=>j9 b=some r) (fun b=>[]) (fun b=>[(0,zP bt1),(1,zI wv1),(4,zI (t1.columns.length:Int)),(5,zP b1),(7,.func (.func 39) #[] #[zP b2,zP b1]),(11,hd4.v),(12,zI i6),(13,zI k6),(199,.bool b)]) (fun b=>[cells bt1 [t1_h0.v,t1_h1.v,t1_h2.v,t1_h3.v,t1_h4.v] 60,zv0 t1_h0.v t1.names,zv0 t1_h1.v t1.texts,zv4 t1_h2.v zs1,own zaf zs1,zba zaj zal 55 1 t1_h3.v t1.keys,zv2 t1_h4.v zs3,own zak (zs3.drop d4),cells b1 [zI (x1.length:Int)] 3,cells b2 [v1] 68,zv3 v1 at1,zba zaq zak 70 2 hd4.v out4]) (fun cut => ?_) ?_
   ·
    refine cut (zad (zyR 2 rfl (zbn rfl zb4 (zyR 1 rfl ?_))))
    refine zyS (s:=203) rfl h (fun h => ?_) (fun h => ?_)
    ·
     refine zyR 3 rfl ?_
     obtain ⟨hg27,h⟩:=zcU h
     refine zbn rfl (zbs (r:=i6+1) (IntWalk.i64_in _ hg27)) (zyR 1 rfl ?_)
     refine zd5 (k:=10) rfl (fun hw11 => ?_)
     obtain ⟨r9,hq19,h⟩:=zcp h
     obtain ⟨q7,hq20,h⟩:=zcp h
     refine zbm (v:=.pointer (some ⟨zgc v1,(r9:Int).toNat*1,none⟩)) (vs:=[zI (i6+1),zI k6]) (Rd.nil:Rd _ _ []) rfl dc rfl rfl rfl znE (zhf (zcx (bc0:=b2) (bc1:=b1) (xc1:=(x1.length:Int)) hw11 hq19)) (.own (zaa [9] kr rfl) (fun _ _ h=>sepL.one1.1 h) (.own (As:=[zv3 v1 at1]) (zaa [10] kr rfl) (fun _ _ h=>zdW zci (sepL.one1.1 h)) (.own (zaa [8] kr rfl) (fun _ _ h=>sepL.one1.1 h) .nil))) ?_
     refine zav rfl dc rfl (zdo (i:=(r9:Int).toNat) (j:=0) (k:=10) (q:=q7) zdk zci rfl dc rfl rfl (zca hq20) rfl dc rfl ?_)
     obtain ⟨hg28,h⟩:=zcU h
     refine zbn rfl (zbs (r:=2+q7) (IntWalk.i64_in _ hg28)) (zbn rfl zaP (zyR 2 rfl (zap ?_)))
     exact zaB ((q5:Int)==(2+q7)) h rfl (zbK rfl) (zaa [0,1,2,3,4,5,6,7,8,9,10,11] kr rfl)
    refine zyR 12 rfl (zap ?_)
    exact zaB false h rfl (zbK rfl) (zaa [0,1,2,3,4,5,6,7,8,9,10,11] kr rfl)
   rintro x6 h
   rw [hj9] at h
   refine zyB rfl h (fun h => ?_) (fun h => ?_)
   ·
    refine zyG (zyR 2 rfl (zav rfl dc rfl (zac zgH rfl dc rfl (show _=4 from rfl) (zat (k:=0) zlL rfl dc rfl rfl rfl (zyR 1 rfl ?_)))))
    obtain ⟨x7,hq21,h⟩:=zcp h
    obtain ⟨⟨eh8,eh9⟩,eq5⟩:=zgw hz3 hq21
    refine zdD (k:=6) eq5 underlying58 znh rfl dc rfl rfl rfl rfl (zac zlV rfl dc rfl (show _=((i6:Int).toNat)*2 from rfl) (zdo (i:=(i6:Int).toNat) (j:=0) (k:=6) (q:=(x7,(eh8,eh9))) zlK zbz rfl dc rfl rfl (zca eq5) rfl dc rfl ?_))
    refine zby (cs:=[zI (-1)]) (te:=3) (ps:=[(0,.const (zI (-1)))]) rfl dc rfl (fun _=>by kernel_rfl) (fun b6 => ?_)
    obtain ⟨hg29,h⟩:=zcU h
    refine zc5 (k:=7) rfl (zsK (zca eq5) hg29) (fun _ _ => ?_)
    obtain ⟨hg30,h⟩:=zcU h
    refine zbR (k:=13) (k2:=12) (ys:=[(-1)]) underlying68 ztX zci zgB rfl dc rfl rfl rfl rfl rfl rfl hg30 (fun v5 => ?_)
    refine zc7 (k:=13) rfl (fun hd7 he3 => ?_)
    subst he3
    refine zbB (v:=.agg #[hd7.v,.slice none 0 0]) (ps:=[(0,.tmp 225)]) rfl dc rfl (fun _=>by kernel_rfl) ?_
    refine zby (cs:=[hd7.v,.slice none 0 0]) (te:=70) (ps:=[(0,.tmp 226)]) rfl dc rfl (fun _=>by kernel_rfl) (fun b7 => ?_)
    refine zf1 (enc:=(zfH (.i64))) (e:=3) (size:=1) ?_
    refine zc5 (k:=11) rfl zi0 (fun zs5 hz5 => ?_)
    obtain ⟨hg31,h⟩:=zcU h
    refine zbR (k:=11) (k2:=15) (ys:=[((⟨x7.words++[(-1)],([]:List Int)⟩:zan),(hd7,Hd.nil))]) underlying58 ztw zbz zeg rfl dc rfl rfl rfl rfl rfl rfl (by rw [zqB hz5]; exact hg31) (fun v6 => ?_)
    refine zc7 (k:=11) rfl (fun hd8 he4 => ?_)
    subst he4
    refine zed (k:=17) rfl (zaa [13,16] kr rfl) rfl (zkn (nest:=zak) (zs:=zs5) (z:=((⟨x7.words++[(-1)],([]:List Int)⟩:zan),(hd7,Hd.nil)))) ?_
    refine zed (k:=11) rfl (zaa [17] kr rfl) rfl (zgU (enc:=zaq) (nest:=zak) (zsp hz5)) ?_
    refine zb6 (L':=[cells bt1 [t1_h0.v,t1_h1.v,t1_h2.v,t1_h3.v,t1_h4.v] 60,zv0 t1_h0.v t1.names,zv0 t1_h1.v t1.texts,zv4 t1_h2.v zs1,own zaf zs1,zba zaj zal 55 1 t1_h3.v t1.keys,zv2 t1_h4.v zs3,own zak (zs3.drop (d4+1)),cells b1 [zI (x1.length:Int)] 3,cells b2 [v1] 68,zv3 v1 at1,zba zaq zak 70 2 hd8.v (out4++[(⟨x7.words++[(-1)],([]:List Int)⟩:zan)]),cells b6 [zI (-1)] 3,emp,zv3 eh9.v x7.readings,cells b7 [hd7.v,.slice none 0 0] 70]) (zaa [0,1,2,3,4,5,6,7,8,9,10,11,12,13,14,15] kr rfl) (zyR 1 rfl (zyN (zad (zyR 1 rfl ?_))))
    obtain ⟨hg32,h⟩:=zcU h
    refine zbn rfl (zbs (r:=i6+1) (IntWalk.i64_in _ hg32)) (zyR 1 rfl (zap (zah (zah ?_))))
    subst hag3
    exact zcM (n3,d4+1,out4++[(⟨x7.words++[(-1)],([]:List Int)⟩:zan)],i6+1,k6,hd8) h (Nat.lt_succ_self _) rfl (zbK rfl) (zaa [0,1,2,3,4,5,6,7,8,9,10,11] kr rfl)
   obtain ⟨j10,hj10,h⟩:=zcC h
   refine zbF (β:=(List Int)×Hd) 1 rfl (fun b=>j10 b.1=some r) (fun b=>[]) (fun b=>[(0,zP bt1),(1,zI wv1),(4,zI (t1.columns.length:Int)),(5,zP b1),(7,.func (.func 39) #[] #[zP b2,zP b1]),(11,hd4.v),(12,zI i6),(13,zI k6),(15,b.2.v)]) (fun b=>[cells bt1 [t1_h0.v,t1_h1.v,t1_h2.v,t1_h3.v,t1_h4.v] 60,zv0 t1_h0.v t1.names,zv0 t1_h1.v t1.texts,zv4 t1_h2.v zs1,own zaf zs1,zba zaj zal 55 1 t1_h3.v t1.keys,zv2 t1_h4.v zs3,own zak (zs3.drop d4),cells b1 [zI (x1.length:Int)] 3,cells b2 [v1] 68,zv3 v1 at1,zba zaq zak 70 2 hd4.v out4,zv3 b.2.v b.1]) (fun cut => ?_) ?_
   ·
    refine zyG (zyR 1 rfl (zyN (cut (zyG (zyR 2 rfl (zyN (zaK (zfd (enc:=(zfH (.i64))) (e:=3) (size:=1) ?_))))))))
    refine zdy (β:=Nat×(List Int)×Int×Hd) (fun b=>zbq (fun _ _=>none) (zbS wv1 j10) b.1 b.2.1 b.2.2.1=some r) (fun b=>[]) (fun b=>[(0,zP bt1),(1,zI wv1),(4,zI (t1.columns.length:Int)),(5,zP b1),(7,.func (.func 39) #[] #[zP b2,zP b1]),(11,hd4.v),(12,zI i6),(13,zI k6),(15,b.2.2.2.v),(130,zI wv1),(131,zI b.2.2.1)]) (fun b=>[cells bt1 [t1_h0.v,t1_h1.v,t1_h2.v,t1_h3.v,t1_h4.v] 60,zv0 t1_h0.v t1.names,zv0 t1_h1.v t1.texts,zv4 t1_h2.v zs1,own zaf zs1,zba zaj zal 55 1 t1_h3.v t1.keys,zv2 t1_h4.v zs3,own zak (zs3.drop d4),cells b1 [zI (x1.length:Int)] 3,cells b2 [v1] 68,zv3 v1 at1,zba zaq zak 70 2 hd4.v out4,zv3 b.2.2.2.v b.2.1]) (fun b=>b.1) (zc9,([]:List Int),0,Hd.nil) h rfl (zbK rfl) (zaa [0,1,2,3,4,5,6,7,8,9,10,11,12] kr rfl) ?_
    rintro ⟨n4,words4,x10,hd12⟩ h
    cases n4 with
    | zero=>exact zfG h
    | succ n4 =>
     obtain ⟨ag4,hag4⟩:∃ ag,ag=zbq (fun _ _=>none) (zbS wv1 j10) n4:=⟨_,rfl⟩
     have h:zbS wv1 j10 ag4 words4 x10=some r:=by rw [hag4]; exact h
     unfold zbS at h
     refine zyG (zbn rfl zb4 (zyN (zar ?_)))
     refine zyB rfl h (fun h => ?_) (fun h => ?_)
     ·
      refine zax (zag (zar (zaK (zad (zyR 1 rfl ?_)))))
      refine zby (cs:=[zI (-1)]) (te:=3) (ps:=[(0,.const (zI (-1)))]) rfl dc rfl (fun _=>by kernel_rfl) (fun b8 => ?_)
      obtain ⟨hg33,h⟩:=zcU h
      refine zbR (k:=12) (k2:=13) (ys:=[(-1)]) underlying68 ztX zci zgB rfl dc rfl rfl rfl rfl rfl rfl hg33 (fun v7 => ?_)
      refine zc7 (k:=12) rfl (fun hd13 he5 => ?_)
      subst he5
      refine zyR 1 rfl (zap (zah (zag (zad ?_))))
      obtain ⟨hg34,h⟩:=zcU h
      refine zbn rfl (zbs (r:=x10+1) (IntWalk.i64_in _ hg34)) (zyR 1 rfl (zap ?_))
      subst hag4
      exact zcM (n4,words4++[(-1)],x10+1,hd13) h (Nat.lt_succ_self _) rfl (zbK rfl) (zaa [0,1,2,3,4,5,6,7,8,9,10,11,12] kr rfl)
     refine zcy (zaV (zaV (zbh ?_)))
     exact zaB (words4,hd12) h rfl (zbK rfl) (zaa [0,1,2,3,4,5,6,7,8,9,10,11,12] kr rfl)
   rintro ⟨words1,hd9⟩ h
   rw [hj10] at h
   refine zyG (zyR 3 rfl ?_)
   refine zby (cs:=[zI k6]) (te:=3) (ps:=[(0,.tmp 139)]) rfl dc rfl (fun _=>by kernel_rfl) (fun b9 => ?_)
   obtain ⟨hg35,h⟩:=zcU h
   refine zbR (k:=12) (k2:=13) (ys:=[k6]) underlying68 ztX zci zgB rfl dc rfl rfl rfl rfl rfl rfl hg35 (fun v8 => ?_)
   refine zc7 (k:=12) rfl (fun hd14 he6 => ?_)
   subst he6
   refine zbB (v:=.agg #[hd14.v,.slice none 0 0]) (ps:=[(0,.tmp 141)]) rfl dc rfl (fun _=>by kernel_rfl) ?_
   refine zby (cs:=[hd14.v,.slice none 0 0]) (te:=70) (ps:=[(0,.tmp 142)]) rfl dc rfl (fun _=>by kernel_rfl) (fun b10 => ?_)
   refine zf1 (enc:=(zfH (.i64))) (e:=3) (size:=1) ?_
   refine zc5 (k:=11) rfl zi0 (fun zs6 hz6 => ?_)
   obtain ⟨hg36,h⟩:=zcU h
   refine zbR (k:=11) (k2:=14) (ys:=[((⟨words1++[k6],([]:List Int)⟩:zan),(hd14,Hd.nil))]) underlying58 ztw zbz zeg rfl dc rfl rfl rfl rfl rfl rfl (by rw [zqB hz6]; exact hg36) (fun v9 => ?_)
   refine zc7 (k:=11) rfl (fun hd15 he7 => ?_)
   subst he7
   refine zed (k:=16) rfl (zaa [12,15] kr rfl) rfl (zkn (nest:=zak) (zs:=zs6) (z:=((⟨words1++[k6],([]:List Int)⟩:zan),(hd14,Hd.nil)))) ?_
   refine zed (k:=11) rfl (zaa [16] kr rfl) rfl (zgU (enc:=zaq) (nest:=zak) (zsp hz6)) ?_
   refine zb6 (L':=[cells bt1 [t1_h0.v,t1_h1.v,t1_h2.v,t1_h3.v,t1_h4.v] 60,zv0 t1_h0.v t1.names,zv0 t1_h1.v t1.texts,zv4 t1_h2.v zs1,own zaf zs1,zba zaj zal 55 1 t1_h3.v t1.keys,zv2 t1_h4.v zs3,own zak (zs3.drop d4),cells b1 [zI (x1.length:Int)] 3,cells b2 [v1] 68,zv3 v1 at1,zba zaq zak 70 2 hd15.v (out4++[(⟨words1++[k6],([]:List Int)⟩:zan)]),emp,cells b9 [zI k6] 3,cells b10 [hd14.v,.slice none 0 0] 70]) (zaa [0,1,2,3,4,5,6,7,8,9,10,11,12,13,14] kr rfl) (zyR 1 rfl (zyN (zad (zyR 1 rfl ?_))))
   obtain ⟨hg37,h⟩:=zcU h
   refine zbn rfl (zbs (r:=k6+1) (IntWalk.i64_in _ hg37)) (zyR 1 rfl (zap (zah (zah ?_))))
   subst hag3
   exact zcM (n3,d4,out4++[(⟨words1++[k6],([]:List Int)⟩:zan)],i6,k6+1,hd15) h (Nat.lt_succ_self _) rfl (zbK rfl) (zaa [0,1,2,3,4,5,6,7,8,9,10,11] kr rfl)
 rintro ⟨d1,out1,hd1⟩ h
 rw [hj6] at h
 refine zad (zyR 2 rfl (zav rfl dc rfl (zac zgH rfl dc rfl (show _=4 from rfl) ?_)))
 refine zaG (k:=0) (l':=[t1_h0.v,t1_h1.v,t1_h2.v,t1_h3.v,hd1.v]) zvC rfl rfl rfl rfl rfl (fun _ _=>rfl) rfl ?_
 refine zap (zfT (k:=3) rfl (zaa [4] kr rfl) rfl (zgU (enc:=zam) (nest:=zaf) hz1) ?_)
 cases h
 exact zbA (rs:=[]) (t1_h0,t1_h1,t1_h2,t1_h3,hd1) (.inr rfl) results19 .nil rfl (zaa [0,1,2,3,5,8] kr rfl)
end Go.Proofs.YtdnalnmahlakkaaGreatDoor


namespace Go.Proofs.YtdnalnmahlakkaaGreatDoor
open Go.RowKit Go.Lib
open Tryz
set_option linter.unusedVariables false
set_option linter.unusedSimpArgs false
abbrev zLit0:zBA:=⟨#[195,159,115,115,32,195,166,97,101,32,195,184,111,32,195,176,100,32,195,190,116,104,32,196,145,100,32,196,167,104,32,196,177,105,32,196,179,105,106,32,196,184,113,32,197,128,108,32,197,130,108,32,197,137,110,32,197,139,110,103,32,197,147,111,101,32,197,167,116,32,197,191,115,32,207,130,207,131,32]⟩
def zgR (r1:Int):Option Bool := zcd (fun (j1:Bool→Option Bool) => zaL (decide ((790:Int)≤r1)) ( zaL (decide ((r1:Int)≤793)) ( j1 (decide ((r1:Int)≤793))
) ( zaL (decide ((796:Int)≤r1)) ( zaL (decide ((r1:Int)≤800)) ( j1 (decide ((r1:Int)≤800))
) ( zaL (decide ((803:Int)≤r1)) ( zaL (decide ((r1:Int)≤819)) ( j1 (decide ((r1:Int)≤819))
) ( zaL (decide ((825:Int)≤r1)) ( zaL (decide ((r1:Int)≤828)) ( j1 (decide ((r1:Int)≤828))
) ( zaL (decide ((837:Int)≤r1)) ( j1 (decide ((r1:Int)≤841))
) ( j1 false
)
)
) ( zaL (decide ((837:Int)≤r1)) ( j1 (decide ((r1:Int)≤841))
) ( j1 false
)
)
)
) ( zaL (decide ((825:Int)≤r1)) ( zaL (decide ((r1:Int)≤828)) ( j1 (decide ((r1:Int)≤828))
) ( zaL (decide ((837:Int)≤r1)) ( j1 (decide ((r1:Int)≤841))
) ( j1 false
)
)
) ( zaL (decide ((837:Int)≤r1)) ( j1 (decide ((r1:Int)≤841))
) ( j1 false
)
)
)
)
) ( zaL (decide ((803:Int)≤r1)) ( zaL (decide ((r1:Int)≤819)) ( j1 (decide ((r1:Int)≤819))
) ( zaL (decide ((825:Int)≤r1)) ( zaL (decide ((r1:Int)≤828)) ( j1 (decide ((r1:Int)≤828))
) ( zaL (decide ((837:Int)≤r1)) ( j1 (decide ((r1:Int)≤841))
) ( j1 false
)
)
) ( zaL (decide ((837:Int)≤r1)) ( j1 (decide ((r1:Int)≤841))
) ( j1 false
)
)
)
) ( zaL (decide ((825:Int)≤r1)) ( zaL (decide ((r1:Int)≤828)) ( j1 (decide ((r1:Int)≤828))
) ( zaL (decide ((837:Int)≤r1)) ( j1 (decide ((r1:Int)≤841))
) ( j1 false
)
)
) ( zaL (decide ((837:Int)≤r1)) ( j1 (decide ((r1:Int)≤841))
) ( j1 false
)
)
)
)
)
) ( zaL (decide ((796:Int)≤r1)) ( zaL (decide ((r1:Int)≤800)) ( j1 (decide ((r1:Int)≤800))
) ( zaL (decide ((803:Int)≤r1)) ( zaL (decide ((r1:Int)≤819)) ( j1 (decide ((r1:Int)≤819))
) ( zaL (decide ((825:Int)≤r1)) ( zaL (decide ((r1:Int)≤828)) ( j1 (decide ((r1:Int)≤828))
) ( zaL (decide ((837:Int)≤r1)) ( j1 (decide ((r1:Int)≤841))
) ( j1 false
)
)
) ( zaL (decide ((837:Int)≤r1)) ( j1 (decide ((r1:Int)≤841))
) ( j1 false
)
)
)
) ( zaL (decide ((825:Int)≤r1)) ( zaL (decide ((r1:Int)≤828)) ( j1 (decide ((r1:Int)≤828))
) ( zaL (decide ((837:Int)≤r1)) ( j1 (decide ((r1:Int)≤841))
) ( j1 false
)
)
) ( zaL (decide ((837:Int)≤r1)) ( j1 (decide ((r1:Int)≤841))
) ( j1 false
)
)
)
)
) ( zaL (decide ((803:Int)≤r1)) ( zaL (decide ((r1:Int)≤819)) ( j1 (decide ((r1:Int)≤819))
) ( zaL (decide ((825:Int)≤r1)) ( zaL (decide ((r1:Int)≤828)) ( j1 (decide ((r1:Int)≤828))
) ( zaL (decide ((837:Int)≤r1)) ( j1 (decide ((r1:Int)≤841))
) ( j1 false
)
)
) ( zaL (decide ((837:Int)≤r1)) ( j1 (decide ((r1:Int)≤841))
) ( j1 false
)
)
)
) ( zaL (decide ((825:Int)≤r1)) ( zaL (decide ((r1:Int)≤828)) ( j1 (decide ((r1:Int)≤828))
) ( zaL (decide ((837:Int)≤r1)) ( j1 (decide ((r1:Int)≤841))
) ( j1 false
)
)
) ( zaL (decide ((837:Int)≤r1)) ( j1 (decide ((r1:Int)≤841))
) ( j1 false
)
)
)
)
)
) (fun (x1:Bool) => zaL (x1) ( some true
) ( zcd (fun (j2:Bool→Option Bool) => zaL (decide ((845:Int)≤r1)) ( zaL (decide ((r1:Int)≤846)) ( j2 (decide ((r1:Int)≤846))
) ( zaL (decide ((851:Int)≤r1)) ( zaL (decide ((r1:Int)≤854)) ( j2 (decide ((r1:Int)≤854))
) ( zaL (decide ((857:Int)≤r1)) ( j2 (decide ((r1:Int)≤858))
) ( j2 false
)
)
) ( zaL (decide ((857:Int)≤r1)) ( j2 (decide ((r1:Int)≤858))
) ( j2 false
)
)
)
) ( zaL (decide ((851:Int)≤r1)) ( zaL (decide ((r1:Int)≤854)) ( j2 (decide ((r1:Int)≤854))
) ( zaL (decide ((857:Int)≤r1)) ( j2 (decide ((r1:Int)≤858))
) ( j2 false
)
)
) ( zaL (decide ((857:Int)≤r1)) ( j2 (decide ((r1:Int)≤858))
) ( j2 false
)
)
)
) (fun (x2:Bool) => zaL (x2) ( some true
) ( some false
)
)
)
)
theorem znx {r1:Int} {r:Bool} (h:zgR r1=some r):FnP prog 83 [.int .i32 r1] (.bool r):=by
 unfold zgR at h
 refine FnP.intro func83 rfl ntmps83 (by simp) ?_
 intro w0 K
 refine zyG (zyR 1 rfl (zyN (zar (zaK ?_))))
 obtain ⟨j1,hj1,h⟩:=zcC h
 refine zbF (β:=Bool) 0 rfl (fun b=>j1 b=some r) (fun b=>[]) (fun b=>[(0,.int .i32 r1),(3,.bool b)]) (fun b=>[]) (fun cut => ?_) ?_
 ·
  refine cut (zyG (zyR 1 rfl (zbn rfl zbV (zyR 1 rfl ?_))))
  refine zyS (s:=6) rfl h (fun h => ?_) (fun h => ?_)
  ·
   refine zyR 1 rfl (zbn rfl zcr (zyR 2 rfl (zyN ?_)))
   refine zyB rfl h (fun h => ?_) (fun h => ?_)
   ·
    refine zax ?_
    exact zaB (decide ((r1:Int)≤793)) h rfl (zbK rfl) Splits.nil
   refine zyG (zyR 1 rfl (zbn rfl zbV (zyR 1 rfl ?_)))
   refine zyS (s:=12) rfl h (fun h => ?_) (fun h => ?_)
   ·
    refine zyR 1 rfl (zbn rfl zcr (zyR 2 rfl (zyN ?_)))
    refine zyB rfl h (fun h => ?_) (fun h => ?_)
    ·
     refine zax ?_
     exact zaB (decide ((r1:Int)≤800)) h rfl (zbK rfl) Splits.nil
    refine zyG (zyR 1 rfl (zbn rfl zbV (zyR 1 rfl ?_)))
    refine zyS (s:=18) rfl h (fun h => ?_) (fun h => ?_)
    ·
     refine zyR 1 rfl (zbn rfl zcr (zyR 2 rfl (zyN ?_)))
     refine zyB rfl h (fun h => ?_) (fun h => ?_)
     ·
      refine zax ?_
      exact zaB (decide ((r1:Int)≤819)) h rfl (zbK rfl) Splits.nil
     refine zyG (zyR 1 rfl (zbn rfl zbV (zyR 1 rfl ?_)))
     refine zyS (s:=24) rfl h (fun h => ?_) (fun h => ?_)
     ·
      refine zyR 1 rfl (zbn rfl zcr (zyR 2 rfl (zyN ?_)))
      refine zyB rfl h (fun h => ?_) (fun h => ?_)
      ·
       refine zax ?_
       exact zaB (decide ((r1:Int)≤828)) h rfl (zbK rfl) Splits.nil
      refine zad (zyR 1 rfl (zbn rfl zbV (zyR 1 rfl ?_)))
      refine zyS (s:=30) rfl h (fun h => ?_) (fun h => ?_)
      ·
       refine zyR 1 rfl (zbn rfl zcr (zyR 2 rfl (zap ?_)))
       exact zaB (decide ((r1:Int)≤841)) h rfl (zbK rfl) Splits.nil
      refine zyR 4 rfl (zap ?_)
      exact zaB false h rfl (zbK rfl) Splits.nil
     refine zyR 4 rfl (zyN (zaS rfl (zad (zyR 1 rfl (zbn rfl zbV (zyR 1 rfl ?_))))))
     refine zyS (s:=30) rfl h (fun h => ?_) (fun h => ?_)
     ·
      refine zyR 1 rfl (zbn rfl zcr (zyR 2 rfl (zap ?_)))
      exact zaB (decide ((r1:Int)≤841)) h rfl (zbK rfl) Splits.nil
     refine zyR 4 rfl (zap ?_)
     exact zaB false h rfl (zbK rfl) Splits.nil
    refine zyR 4 rfl (zyN (zaS rfl (zyG (zyR 1 rfl (zbn rfl zbV (zyR 1 rfl ?_))))))
    refine zyS (s:=24) rfl h (fun h => ?_) (fun h => ?_)
    ·
     refine zyR 1 rfl (zbn rfl zcr (zyR 2 rfl (zyN ?_)))
     refine zyB rfl h (fun h => ?_) (fun h => ?_)
     ·
      refine zax ?_
      exact zaB (decide ((r1:Int)≤828)) h rfl (zbK rfl) Splits.nil
     refine zad (zyR 1 rfl (zbn rfl zbV (zyR 1 rfl ?_)))
     refine zyS (s:=30) rfl h (fun h => ?_) (fun h => ?_)
     ·
      refine zyR 1 rfl (zbn rfl zcr (zyR 2 rfl (zap ?_)))
      exact zaB (decide ((r1:Int)≤841)) h rfl (zbK rfl) Splits.nil
     refine zyR 4 rfl (zap ?_)
     exact zaB false h rfl (zbK rfl) Splits.nil
    refine zyR 4 rfl (zyN (zaS rfl (zad (zyR 1 rfl (zbn rfl zbV (zyR 1 rfl ?_))))))
    refine zyS (s:=30) rfl h (fun h => ?_) (fun h => ?_)
    ·
     refine zyR 1 rfl (zbn rfl zcr (zyR 2 rfl (zap ?_)))
     exact zaB (decide ((r1:Int)≤841)) h rfl (zbK rfl) Splits.nil
    refine zyR 4 rfl (zap ?_)
    exact zaB false h rfl (zbK rfl) Splits.nil
   refine zyR 4 rfl (zyN (zaS rfl (zyG (zyR 1 rfl (zbn rfl zbV (zyR 1 rfl ?_))))))
   refine zyS (s:=18) rfl h (fun h => ?_) (fun h => ?_)
   ·
    refine zyR 1 rfl (zbn rfl zcr (zyR 2 rfl (zyN ?_)))
    refine zyB rfl h (fun h => ?_) (fun h => ?_)
    ·
     refine zax ?_
     exact zaB (decide ((r1:Int)≤819)) h rfl (zbK rfl) Splits.nil
    refine zyG (zyR 1 rfl (zbn rfl zbV (zyR 1 rfl ?_)))
    refine zyS (s:=24) rfl h (fun h => ?_) (fun h => ?_)
    ·
     refine zyR 1 rfl (zbn rfl zcr (zyR 2 rfl (zyN ?_)))
     refine zyB rfl h (fun h => ?_) (fun h => ?_)
     ·
      refine zax ?_
      exact zaB (decide ((r1:Int)≤828)) h rfl (zbK rfl) Splits.nil
     refine zad (zyR 1 rfl (zbn rfl zbV (zyR 1 rfl ?_)))
     refine zyS (s:=30) rfl h (fun h => ?_) (fun h => ?_)
     ·
      refine zyR 1 rfl (zbn rfl zcr (zyR 2 rfl (zap ?_)))
      exact zaB (decide ((r1:Int)≤841)) h rfl (zbK rfl) Splits.nil
     refine zyR 4 rfl (zap ?_)
     exact zaB false h rfl (zbK rfl) Splits.nil
    refine zyR 4 rfl (zyN (zaS rfl (zad (zyR 1 rfl (zbn rfl zbV (zyR 1 rfl ?_))))))
    refine zyS (s:=30) rfl h (fun h => ?_) (fun h => ?_)
    ·
     refine zyR 1 rfl (zbn rfl zcr (zyR 2 rfl (zap ?_)))
     exact zaB (decide ((r1:Int)≤841)) h rfl (zbK rfl) Splits.nil
    refine zyR 4 rfl (zap ?_)
    exact zaB false h rfl (zbK rfl) Splits.nil
   refine zyR 4 rfl (zyN (zaS rfl (zyG (zyR 1 rfl (zbn rfl zbV (zyR 1 rfl ?_))))))
   refine zyS (s:=24) rfl h (fun h => ?_) (fun h => ?_)
   ·
    refine zyR 1 rfl (zbn rfl zcr (zyR 2 rfl (zyN ?_)))
    refine zyB rfl h (fun h => ?_) (fun h => ?_)
    ·
     refine zax ?_
     exact zaB (decide ((r1:Int)≤828)) h rfl (zbK rfl) Splits.nil
    refine zad (zyR 1 rfl (zbn rfl zbV (zyR 1 rfl ?_)))
    refine zyS (s:=30) rfl h (fun h => ?_) (fun h => ?_)
    ·
     refine zyR 1 rfl (zbn rfl zcr (zyR 2 rfl (zap ?_)))
     exact zaB (decide ((r1:Int)≤841)) h rfl (zbK rfl) Splits.nil
    refine zyR 4 rfl (zap ?_)
    exact zaB false h rfl (zbK rfl) Splits.nil
   refine zyR 4 rfl (zyN (zaS rfl (zad (zyR 1 rfl (zbn rfl zbV (zyR 1 rfl ?_))))))
   refine zyS (s:=30) rfl h (fun h => ?_) (fun h => ?_)
   ·
    refine zyR 1 rfl (zbn rfl zcr (zyR 2 rfl (zap ?_)))
    exact zaB (decide ((r1:Int)≤841)) h rfl (zbK rfl) Splits.nil
   refine zyR 4 rfl (zap ?_)
   exact zaB false h rfl (zbK rfl) Splits.nil
  refine zyR 4 rfl (zyN (zaS rfl (zyG (zyR 1 rfl (zbn rfl zbV (zyR 1 rfl ?_))))))
  refine zyS (s:=12) rfl h (fun h => ?_) (fun h => ?_)
  ·
   refine zyR 1 rfl (zbn rfl zcr (zyR 2 rfl (zyN ?_)))
   refine zyB rfl h (fun h => ?_) (fun h => ?_)
   ·
    refine zax ?_
    exact zaB (decide ((r1:Int)≤800)) h rfl (zbK rfl) Splits.nil
   refine zyG (zyR 1 rfl (zbn rfl zbV (zyR 1 rfl ?_)))
   refine zyS (s:=18) rfl h (fun h => ?_) (fun h => ?_)
   ·
    refine zyR 1 rfl (zbn rfl zcr (zyR 2 rfl (zyN ?_)))
    refine zyB rfl h (fun h => ?_) (fun h => ?_)
    ·
     refine zax ?_
     exact zaB (decide ((r1:Int)≤819)) h rfl (zbK rfl) Splits.nil
    refine zyG (zyR 1 rfl (zbn rfl zbV (zyR 1 rfl ?_)))
    refine zyS (s:=24) rfl h (fun h => ?_) (fun h => ?_)
    ·
     refine zyR 1 rfl (zbn rfl zcr (zyR 2 rfl (zyN ?_)))
     refine zyB rfl h (fun h => ?_) (fun h => ?_)
     ·
      refine zax ?_
      exact zaB (decide ((r1:Int)≤828)) h rfl (zbK rfl) Splits.nil
     refine zad (zyR 1 rfl (zbn rfl zbV (zyR 1 rfl ?_)))
     refine zyS (s:=30) rfl h (fun h => ?_) (fun h => ?_)
     ·
      refine zyR 1 rfl (zbn rfl zcr (zyR 2 rfl (zap ?_)))
      exact zaB (decide ((r1:Int)≤841)) h rfl (zbK rfl) Splits.nil
     refine zyR 4 rfl (zap ?_)
     exact zaB false h rfl (zbK rfl) Splits.nil
    refine zyR 4 rfl (zyN (zaS rfl (zad (zyR 1 rfl (zbn rfl zbV (zyR 1 rfl ?_))))))
    refine zyS (s:=30) rfl h (fun h => ?_) (fun h => ?_)
    ·
     refine zyR 1 rfl (zbn rfl zcr (zyR 2 rfl (zap ?_)))
     exact zaB (decide ((r1:Int)≤841)) h rfl (zbK rfl) Splits.nil
    refine zyR 4 rfl (zap ?_)
    exact zaB false h rfl (zbK rfl) Splits.nil
   refine zyR 4 rfl (zyN (zaS rfl (zyG (zyR 1 rfl (zbn rfl zbV (zyR 1 rfl ?_))))))
   refine zyS (s:=24) rfl h (fun h => ?_) (fun h => ?_)
   ·
    refine zyR 1 rfl (zbn rfl zcr (zyR 2 rfl (zyN ?_)))
    refine zyB rfl h (fun h => ?_) (fun h => ?_)
    ·
     refine zax ?_
     exact zaB (decide ((r1:Int)≤828)) h rfl (zbK rfl) Splits.nil
    refine zad (zyR 1 rfl (zbn rfl zbV (zyR 1 rfl ?_)))
    refine zyS (s:=30) rfl h (fun h => ?_) (fun h => ?_)
    ·
     refine zyR 1 rfl (zbn rfl zcr (zyR 2 rfl (zap ?_)))
     exact zaB (decide ((r1:Int)≤841)) h rfl (zbK rfl) Splits.nil
    refine zyR 4 rfl (zap ?_)
    exact zaB false h rfl (zbK rfl) Splits.nil
   refine zyR 4 rfl (zyN (zaS rfl (zad (zyR 1 rfl (zbn rfl zbV (zyR 1 rfl ?_))))))
   refine zyS (s:=30) rfl h (fun h => ?_) (fun h => ?_)
   ·
    refine zyR 1 rfl (zbn rfl zcr (zyR 2 rfl (zap ?_)))
    exact zaB (decide ((r1:Int)≤841)) h rfl (zbK rfl) Splits.nil
   refine zyR 4 rfl (zap ?_)
   exact zaB false h rfl (zbK rfl) Splits.nil
  refine zyR 4 rfl (zyN (zaS rfl (zyG (zyR 1 rfl (zbn rfl zbV (zyR 1 rfl ?_))))))
  refine zyS (s:=18) rfl h (fun h => ?_) (fun h => ?_)
  ·
   refine zyR 1 rfl (zbn rfl zcr (zyR 2 rfl (zyN ?_)))
   refine zyB rfl h (fun h => ?_) (fun h => ?_)
   ·
    refine zax ?_
    exact zaB (decide ((r1:Int)≤819)) h rfl (zbK rfl) Splits.nil
   refine zyG (zyR 1 rfl (zbn rfl zbV (zyR 1 rfl ?_)))
   refine zyS (s:=24) rfl h (fun h => ?_) (fun h => ?_)
   ·
    refine zyR 1 rfl (zbn rfl zcr (zyR 2 rfl (zyN ?_)))
    refine zyB rfl h (fun h => ?_) (fun h => ?_)
    ·
     refine zax ?_
     exact zaB (decide ((r1:Int)≤828)) h rfl (zbK rfl) Splits.nil
    refine zad (zyR 1 rfl (zbn rfl zbV (zyR 1 rfl ?_)))
    refine zyS (s:=30) rfl h (fun h => ?_) (fun h => ?_)
    ·
     refine zyR 1 rfl (zbn rfl zcr (zyR 2 rfl (zap ?_)))
     exact zaB (decide ((r1:Int)≤841)) h rfl (zbK rfl) Splits.nil
    refine zyR 4 rfl (zap ?_)
    exact zaB false h rfl (zbK rfl) Splits.nil
   refine zyR 4 rfl (zyN (zaS rfl (zad (zyR 1 rfl (zbn rfl zbV (zyR 1 rfl ?_))))))
   refine zyS (s:=30) rfl h (fun h => ?_) (fun h => ?_)
   ·
    refine zyR 1 rfl (zbn rfl zcr (zyR 2 rfl (zap ?_)))
    exact zaB (decide ((r1:Int)≤841)) h rfl (zbK rfl) Splits.nil
   refine zyR 4 rfl (zap ?_)
   exact zaB false h rfl (zbK rfl) Splits.nil
  refine zyR 4 rfl (zyN (zaS rfl (zyG (zyR 1 rfl (zbn rfl zbV (zyR 1 rfl ?_))))))
  refine zyS (s:=24) rfl h (fun h => ?_) (fun h => ?_)
  ·
   refine zyR 1 rfl (zbn rfl zcr (zyR 2 rfl (zyN ?_)))
   refine zyB rfl h (fun h => ?_) (fun h => ?_)
   ·
    refine zax ?_
    exact zaB (decide ((r1:Int)≤828)) h rfl (zbK rfl) Splits.nil
   refine zad (zyR 1 rfl (zbn rfl zbV (zyR 1 rfl ?_)))
   refine zyS (s:=30) rfl h (fun h => ?_) (fun h => ?_)
   ·
    refine zyR 1 rfl (zbn rfl zcr (zyR 2 rfl (zap ?_)))
    exact zaB (decide ((r1:Int)≤841)) h rfl (zbK rfl) Splits.nil
   refine zyR 4 rfl (zap ?_)
   exact zaB false h rfl (zbK rfl) Splits.nil
  refine zyR 4 rfl (zyN (zaS rfl (zad (zyR 1 rfl (zbn rfl zbV (zyR 1 rfl ?_))))))
  refine zyS (s:=30) rfl h (fun h => ?_) (fun h => ?_)
  ·
   refine zyR 1 rfl (zbn rfl zcr (zyR 2 rfl (zap ?_)))
   exact zaB (decide ((r1:Int)≤841)) h rfl (zbK rfl) Splits.nil
  refine zyR 4 rfl (zap ?_)
  exact zaB false h rfl (zbK rfl) Splits.nil
 rintro x1 h
 rw [hj1] at h
 refine zyB rfl h (fun h => ?_) (fun h => ?_)
 ·
  refine zyG (zyR 1 rfl (zyN (zaE (zau (zao ?_)))))
  cases h
  exact zbN 2 results83
 obtain ⟨j2,hj2,h⟩:=zcC h
 refine zbF (β:=Bool) 0 rfl (fun b=>j2 b=some r) (fun b=>[]) (fun b=>[(34,.bool b)]) (fun b=>[]) (fun cut => ?_) ?_
 ·
  refine cut (zyG (zyR 1 rfl (zbn rfl zbV (zyR 1 rfl ?_))))
  refine zyS (s:=37) rfl h (fun h => ?_) (fun h => ?_)
  ·
   refine zyR 1 rfl (zbn rfl zcr (zyR 2 rfl (zyN ?_)))
   refine zyB rfl h (fun h => ?_) (fun h => ?_)
   ·
    refine zax ?_
    exact zaB (decide ((r1:Int)≤846)) h rfl (zbK rfl) Splits.nil
   refine zyG (zyR 1 rfl (zbn rfl zbV (zyR 1 rfl ?_)))
   refine zyS (s:=43) rfl h (fun h => ?_) (fun h => ?_)
   ·
    refine zyR 1 rfl (zbn rfl zcr (zyR 2 rfl (zyN ?_)))
    refine zyB rfl h (fun h => ?_) (fun h => ?_)
    ·
     refine zax ?_
     exact zaB (decide ((r1:Int)≤854)) h rfl (zbK rfl) Splits.nil
    refine zad (zyR 1 rfl (zbn rfl zbV (zyR 1 rfl ?_)))
    refine zyS (s:=49) rfl h (fun h => ?_) (fun h => ?_)
    ·
     refine zyR 1 rfl (zbn rfl zcr (zyR 2 rfl (zap ?_)))
     exact zaB (decide ((r1:Int)≤858)) h rfl (zbK rfl) Splits.nil
    refine zyR 4 rfl (zap ?_)
    exact zaB false h rfl (zbK rfl) Splits.nil
   refine zyR 4 rfl (zyN (zaS rfl (zad (zyR 1 rfl (zbn rfl zbV (zyR 1 rfl ?_))))))
   refine zyS (s:=49) rfl h (fun h => ?_) (fun h => ?_)
   ·
    refine zyR 1 rfl (zbn rfl zcr (zyR 2 rfl (zap ?_)))
    exact zaB (decide ((r1:Int)≤858)) h rfl (zbK rfl) Splits.nil
   refine zyR 4 rfl (zap ?_)
   exact zaB false h rfl (zbK rfl) Splits.nil
  refine zyR 4 rfl (zyN (zaS rfl (zyG (zyR 1 rfl (zbn rfl zbV (zyR 1 rfl ?_))))))
  refine zyS (s:=43) rfl h (fun h => ?_) (fun h => ?_)
  ·
   refine zyR 1 rfl (zbn rfl zcr (zyR 2 rfl (zyN ?_)))
   refine zyB rfl h (fun h => ?_) (fun h => ?_)
   ·
    refine zax ?_
    exact zaB (decide ((r1:Int)≤854)) h rfl (zbK rfl) Splits.nil
   refine zad (zyR 1 rfl (zbn rfl zbV (zyR 1 rfl ?_)))
   refine zyS (s:=49) rfl h (fun h => ?_) (fun h => ?_)
   ·
    refine zyR 1 rfl (zbn rfl zcr (zyR 2 rfl (zap ?_)))
    exact zaB (decide ((r1:Int)≤858)) h rfl (zbK rfl) Splits.nil
   refine zyR 4 rfl (zap ?_)
   exact zaB false h rfl (zbK rfl) Splits.nil
  refine zyR 4 rfl (zyN (zaS rfl (zad (zyR 1 rfl (zbn rfl zbV (zyR 1 rfl ?_))))))
  refine zyS (s:=49) rfl h (fun h => ?_) (fun h => ?_)
  ·
   refine zyR 1 rfl (zbn rfl zcr (zyR 2 rfl (zap ?_)))
   exact zaB (decide ((r1:Int)≤858)) h rfl (zbK rfl) Splits.nil
  refine zyR 4 rfl (zap ?_)
  exact zaB false h rfl (zbK rfl) Splits.nil
 rintro x2 h
 rw [hj2] at h
 refine zyB rfl h (fun h => ?_) (fun h => ?_)
 ·
  refine zyG (zyR 1 rfl (zyN (zaE (zau (zao ?_)))))
  cases h
  exact zbN 2 results83
 refine zax (zah (zag (zyG (zyR 1 rfl (zyN (zaE ?_))))))
 cases h
 exact zbN 2 results83
def zc3 (u1:zaC):Option Bool := zaL (decide ((0:Int)≤u1.base)) ( grd (I32 u1.base) <| some (((kind u1.base):Int)==1)
) ( some false
)
theorem zfh {u1:zaC} {u1_h0 u1_h1:Hd} {r:Bool} (h:zc3 u1=some r):Fn prog 58 [.agg #[zI u1.at_,.int .u8 u1.broken,.int .i32 u1.base,u1_h0.v,u1_h1.v]] [zv5 u1_h0.v u1.low,zv5 u1_h1.v u1.high] (fun _b:Unit=>.bool r) (fun _b=>[zv5 u1_h0.v u1.low,zv5 u1_h1.v u1.high]):=by
 unfold zc3 at h
 refine Fn.intro func58 rfl ntmps58 (by simp) ?_
 intro w0 K
 refine zyG ?_
 refine zdN rfl dc rfl (fun b1 => ?_)
 refine zyR 1 rfl (zyH (zac zh2 rfl dc rfl (show _=2 from rfl) (zat (k:=2) zfq rfl dc rfl rfl rfl (zbn rfl zbV (zyR 1 rfl ?_)))))
 refine zyS (s:=6) rfl h (fun h => ?_) (fun h => ?_)
 ·
  refine zac zh2 rfl dc rfl (show _=2 from rfl) (zat (k:=2) zfq rfl dc rfl rfl rfl ?_)
  obtain ⟨hg1,h⟩:=zcU h
  refine zbv (v:=zI (kind u1.base)) (vs:=[.int .i32 u1.base]) rfl dc rfl rfl rfl ztl (zhg fun w=>zi2 u1.base w hg1.1 hg1.2) ?_
  refine zbn rfl zaP (zyR 2 rfl (zyN (zaE ?_)))
  cases h
  exact zbA (rs:=[.tmp 2]) () (.inl rfl) results58 (.cons (.tmp rfl) .nil) rfl (zaa [0,1] kr rfl)
 refine zyR 6 rfl (zyN (zaE ?_))
 cases h
 exact zbA (rs:=[.tmp 2]) () (.inl rfl) results58 (.cons (.tmp rfl) .nil) rfl (zaa [0,1] kr rfl)
def zd0 (u1:zaC) (r1:Int):Option zaC := zaA (zgR r1) fun (r2:Bool) => zaL (r2) ( grd (u1.low.length+1≤2147483648) <| some (⟨(⟨u1.at_,u1.broken,u1.base,u1.low++[r1],u1.high⟩:zaC).at_,(⟨u1.at_,u1.broken,u1.base,u1.low++[r1],u1.high⟩:zaC).broken,(⟨u1.at_,u1.broken,u1.base,u1.low++[r1],u1.high⟩:zaC).base,u1.low++[r1],u1.high⟩:zaC)
) ( grd (u1.high.length+1≤2147483648) <| some (⟨(⟨u1.at_,u1.broken,u1.base,u1.low,u1.high++[r1]⟩:zaC).at_,(⟨u1.at_,u1.broken,u1.base,u1.low,u1.high++[r1]⟩:zaC).broken,(⟨u1.at_,u1.broken,u1.base,u1.low,u1.high++[r1]⟩:zaC).base,u1.low,u1.high++[r1]⟩:zaC)
)
theorem zgQ {vu1:Value} {zu1:List (zaC×Hd×Hd)} {iu1:Nat} {u1:zaC} {u1_h0 u1_h1:Hd} (hiu1:zu1[iu1]?=some (u1,(u1_h0,u1_h1))) {r1:Int} {r:zaC} (h:zd0 u1 r1=some r):Fn prog 60 [.pointer (some ⟨zgc vu1,iu1*5,none⟩),.int .i32 r1] [zv7 vu1 zu1,zv5 u1_h0.v u1.low,zv5 u1_h1.v u1.high] (fun b:Hd×Hd=>.tuple #[]) (fun b=>[zv7 vu1 (zu1.set iu1 (r,(b.1,b.2))),zv5 b.1.v r.low,zv5 b.2.v r.high]):=by
 unfold zd0 at h
 refine Fn.intro func60 rfl ntmps60 (by simp) ?_
 intro w0 K
 refine zyG (zyR 1 rfl ?_)
 obtain ⟨r2,hq1,h⟩:=zcp h
 refine zbv (v:=.bool r2) (vs:=[.int .i32 r1]) rfl dc rfl rfl rfl zvY (znx hq1) (zyN ?_)
 refine zyB rfl h (fun h => ?_) (fun h => ?_)
 ·
  refine zad (zyR 2 rfl (zav rfl dc rfl (zac zok rfl dc rfl (show _=iu1*5+3 from rfl) (zdo (i:=iu1) (j:=3) (k:=0) (q:=(u1,(u1_h0,u1_h1))) zrP zbQ rfl dc rfl rfl hiu1 rfl dc rfl (zyR 1 rfl ?_)))))
  refine zby (cs:=[.int .i32 r1]) (te:=21) (ps:=[(0,.tmp 11)]) rfl dc rfl (fun _=>by kernel_rfl) (fun b1 => ?_)
  obtain ⟨hg1,h⟩:=zcU h
  refine zbR (k:=1) (k2:=3) (ys:=[r1]) underlying138 ztx zci zgB rfl dc rfl rfl rfl rfl rfl rfl hg1 (fun v1 => ?_)
  refine zc7 (k:=1) rfl (fun hd1 he1 => ?_)
  subst he1
  refine zav rfl dc rfl (zac zok rfl dc rfl (show _=iu1*5+3 from rfl) ?_)
  refine zg9 (i:=iu1) (j:=3) (k:=0) (q:=(u1,(u1_h0,u1_h1))) (q':=((⟨u1.at_,u1.broken,u1.base,u1.low++[r1],u1.high⟩:zaC),(hd1,u1_h1))) zrO zbQ rfl rfl rfl rfl hiu1 rfl dc rfl (fun _ _=>rfl) ?_
  refine zap (zsf (k:=0) rfl (znT rfl (q1:=((⟨u1.at_,u1.broken,u1.base,u1.low++[r1],u1.high⟩:zaC),(hd1,u1_h1))) (q2:=((⟨(⟨u1.at_,u1.broken,u1.base,u1.low++[r1],u1.high⟩:zaC).at_,(⟨u1.at_,u1.broken,u1.base,u1.low++[r1],u1.high⟩:zaC).broken,(⟨u1.at_,u1.broken,u1.base,u1.low++[r1],u1.high⟩:zaC).base,u1.low++[r1],u1.high⟩:zaC),(hd1,u1_h1))) zbQ rfl) ?_)
  cases h
  exact zbA (rs:=[]) (hd1,u1_h1) (.inr rfl) results60 .nil rfl (zaa [0,1,2] kr rfl)
 refine zad (zyR 2 rfl (zav rfl dc rfl (zac zoj rfl dc rfl (show _=iu1*5+4 from rfl) (zdo (i:=iu1) (j:=4) (k:=0) (q:=(u1,(u1_h0,u1_h1))) zrP zbQ rfl dc rfl rfl hiu1 rfl dc rfl (zyR 1 rfl ?_)))))
 refine zby (cs:=[.int .i32 r1]) (te:=21) (ps:=[(0,.tmp 21)]) rfl dc rfl (fun _=>by kernel_rfl) (fun b2 => ?_)
 obtain ⟨hg2,h⟩:=zcU h
 refine zbR (k:=2) (k2:=3) (ys:=[r1]) underlying138 ztx zci zgB rfl dc rfl rfl rfl rfl rfl rfl hg2 (fun v2 => ?_)
 refine zc7 (k:=2) rfl (fun hd2 he2 => ?_)
 subst he2
 refine zav rfl dc rfl (zac zoj rfl dc rfl (show _=iu1*5+4 from rfl) ?_)
 refine zg9 (i:=iu1) (j:=4) (k:=0) (q:=(u1,(u1_h0,u1_h1))) (q':=((⟨u1.at_,u1.broken,u1.base,u1.low,u1.high++[r1]⟩:zaC),(u1_h0,hd2))) zrO zbQ rfl rfl rfl rfl hiu1 rfl dc rfl (fun _ _=>rfl) ?_
 refine zap (zsf (k:=0) rfl (znT rfl (q1:=((⟨u1.at_,u1.broken,u1.base,u1.low,u1.high++[r1]⟩:zaC),(u1_h0,hd2))) (q2:=((⟨(⟨u1.at_,u1.broken,u1.base,u1.low,u1.high++[r1]⟩:zaC).at_,(⟨u1.at_,u1.broken,u1.base,u1.low,u1.high++[r1]⟩:zaC).broken,(⟨u1.at_,u1.broken,u1.base,u1.low,u1.high++[r1]⟩:zaC).base,u1.low,u1.high++[r1]⟩:zaC),(u1_h0,hd2))) zbQ rfl) ?_)
 cases h
 exact zbA (rs:=[]) (u1_h0,hd2) (.inr rfl) results60 .nil rfl (zaa [0,1,2] kr rfl)
def zen (rcall:(List (Int×zaz))→Int→Option (List Int)) (Msplit1:List (Int×zaz)) (r1:Int):Option (List Int) := zaL (!((zgP r1 Msplit1).isSome)) ( some ([r1]:List Int)
) ( zaA (rcall Msplit1 (((zgP r1 Msplit1).getD (⟨0,0⟩:zaz)).e0)) fun (r2:(List Int)) => grd (r2.length+1≤2147483648) <| some (r2++[((zgP r1 Msplit1).getD (⟨0,0⟩:zaz)).e1])
)
def zeZ (Msplit1:List (Int×zaz)) (r1:Int):Option (List Int):=zbq (fun _ _=>none) zen zc9 Msplit1 r1
theorem zk4 (n:Nat):∀ {bsplit1:Nat} {Msplit1:List (Int×zaz)} {r1:Int} {r:(List Int)} (_:zbq (fun _ _=>none) zen n Msplit1 r1=some r),Fn prog 61 [.map (some bsplit1),.int .i32 r1] [zgX (fun n:Int=>Value.int .i32 n) (fun p:zaz=>Value.agg #[.int .i32 p.e0,.int .i32 p.e1]) bsplit1 Msplit1] (fun v0:Value=>v0) (fun v0=>[zgX (fun n:Int=>Value.int .i32 n) (fun p:zaz=>Value.agg #[.int .i32 p.e0,.int .i32 p.e1]) bsplit1 Msplit1,zv5 v0 r]):=by
 induction n with
 | zero=>intro bsplit1 Msplit1 r1 r h; exact zfG h
 | succ n hrec =>
 intro bsplit1 Msplit1 r1 r h
 rw [zbk] at h
 revert hrec h
 generalize zbq (fun _ _=>none) zen n=rcall
 intro hrec h
 unfold zen at h
 refine Fn.intro func61 rfl ntmps61 (by simp) ?_
 intro w0 K
 refine zyG (zyR 1 rfl (zyH (zyR 2 rfl ?_)))
 refine znN (k:=0) (ek:=(fun n:Int=>Value.int .i32 n)) (ev':=(fun p:zaz=>Value.agg #[.int .i32 p.e0,.int .i32 p.e1])) (kk:=r1) (z0:=(⟨0,0⟩:zaz)) (KeyOk.int underlying21) underlying142 kr rfl dc rfl rfl rfl ?_
 refine zyR 1 rfl (zaJ rfl dc rfl rfl (zaJ rfl dc rfl rfl ?_))
 refine za6 zo8 rfl dc (fun b1 => ?_)
 refine za2 (k:=1) (vs:=[.int .i32 (((zgP r1 Msplit1).getD (⟨0,0⟩:zaz)).e0),.int .i32 (((zgP r1 Msplit1).getD (⟨0,0⟩:zaz)).e1)]) (l':=[.int .i32 (((zgP r1 Msplit1).getD (⟨0,0⟩:zaz)).e0),.int .i32 (((zgP r1 Msplit1).getD (⟨0,0⟩:zaz)).e1)]) zrK rfl rfl rfl rfl rfl (show _≤_ by simp) rfl rfl ?_
 refine zyR 1 rfl (zyN (zar (zyG (zyR 1 rfl (zdM rfl dc rfl zcA (zyN ?_))))))
 refine zyB rfl h (fun h => ?_) (fun h => ?_)
 ·
  refine zyG (zyR 1 rfl ?_)
  refine zby (cs:=[.int .i32 r1]) (te:=21) (ps:=[(0,.tmp 15)]) rfl dc rfl (fun _=>by kernel_rfl) (fun b2 => ?_)
  refine zyR 1 rfl (zmb ([r1]:List Int) (k:=2) rfl zci rfl (show 1≤maxLen by decide) ?_)
  refine zyN (zaE (zao ?_))
  cases h
  exact zbA (rs:=[.tmp 4]) (.slice (some ⟨b2,0,none⟩) 1 1) (.inl rfl) results61 (.cons (.tmp rfl) .nil) rfl (zaa [0,2] kr rfl)
 refine zax (zag (zar ?_))
 obtain ⟨r2,hq1,h⟩:=zcp h
 obtain ⟨hg1,h⟩:=zcU h
 refine zlw 2 ?_
 refine let vals1:(Value×Nat)→List (Nat×Nat×Value):=fun b=>[(0,17,.map (some bsplit1)),(1,18,zP b1),(2,19,.int .i32 (((zgP r1 Msplit1).getD (⟨0,0⟩:zaz)).e0)),(3,20,b.1),(4,21,.pointer (some ⟨b1,1,none⟩)),(5,22,.int .i32 (((zgP r1 Msplit1).getD (⟨0,0⟩:zaz)).e1)),(6,23,.slice (some ⟨b.2,0,none⟩) 1 1)]; let LL1:(Nat→Prop)→(Value×Nat)→List Asn:=fun D b=>[zgX (fun n:Int=>Value.int .i32 n) (fun p:zaz=>Value.agg #[.int .i32 p.e0,.int .i32 p.e1]) bsplit1 Msplit1,cells b1 [.int .i32 (((zgP r1 Msplit1).getD (⟨0,0⟩:zaz)).e0),.int .i32 (((zgP r1 Msplit1).getD (⟨0,0⟩:zaz)).e1)] 172,eD D emp [(3,zv5 b.1 r2)],eD D emp [(6,cells b.2 [.int .i32 (((zgP r1 Msplit1).getD (⟨0,0⟩:zaz)).e1)] 21)]]; ?_
 have zhq:zyQ [3,6] LL1:=fun i h D b=>zay rfl (zay rfl (zay (ztU rfl h) (zay (ztU rfl h) rfl)))
 refine zhd (β:=Value×Nat) 7 ((.slice none 0 0:Value),(0:Nat)) vals1 LL1 mixed kr kr dc (fun _=>rfl) (zsk (zay ze5 (zay ze5 rfl))) (zvm zhq (fun _=>rfl) (fun _=>rfl) 1 0 (fun _=>rfl) rfl (zsj zhq rfl (fun _=>rfl) (fun _=>rfl) ?_ (zsj zhq rfl (fun _=>rfl) (fun _=>rfl) ?_ (zbd ?_ (zsj zhq rfl (fun _=>rfl) (fun _=>rfl) ?_ (zsj zhq rfl (fun _=>rfl) (fun _=>rfl) ?_ (zbd ?_ DrawG.nil))))))) ?_
 · exact fun D ⟨v1,b3⟩ n d c u i=>⟨_,(zsk (zay (za5 (fun hD=>n (c 2 _ rfl (c 3 _ rfl hD 2 dc) 1 dc)) zbr) rfl)),zhc dc underlying172 zkb rfl dc (za3 (by rfl) rfl) rfl (show _=0 from rfl) (zaI 1 u i)⟩
 · exact fun D ⟨v1,b3⟩ n d c u i=>⟨_,(zsk (zay (za5 (fun hD=>n (c 3 _ rfl hD 2 dc)) zbr) rfl)),zat (k:=1) zfq rfl dc (zaH 1 u d) rfl rfl (zaI 2 u i)⟩
 ·
  intro D b hn hd hcl
  obtain ⟨zb0,b3⟩:=b
  refine zbM (zsk (zay (za5 hn zbr) rfl)) ?_
  refine zdE (vs:=[.map (some bsplit1),.int .i32 (((zgP r1 Msplit1).getD (⟨0,0⟩:zaz)).e0)]) rfl dc rfl (evL.cons (zaU (m:=0) rfl rfl (hd 0 dc)) (evL.cons (zaU (m:=2) rfl rfl (hd 2 dc)) evL.nil)) rfl zuI (hrec hq1) (zaa [0] kr rfl) ?_
  rintro v1
  refine zb6 (L':=[zgX (fun n:Int=>Value.int .i32 n) (fun p:zaz=>Value.agg #[.int .i32 p.e0,.int .i32 p.e1]) bsplit1 Msplit1,cells b1 [.int .i32 (((zgP r1 Msplit1).getD (⟨0,0⟩:zaz)).e0),.int .i32 (((zgP r1 Msplit1).getD (⟨0,0⟩:zaz)).e1)] 172,emp,eD D emp [(6,cells b3 [.int .i32 (((zgP r1 Msplit1).getD (⟨0,0⟩:zaz)).e1)] 21)],zv5 v1 r2]) (zaa [4,1,2,3,5] kr rfl) ?_
  refine zhb 2 rfl rfl ?_
  exact zcb (b:=(zb0,b3)) (v1,b3) 3 (by rfl) (by rfl) rfl (znc (zaF (fun hD=>absurd hD hn) (znc rfl))) (zsk (zay (zda (Or.inr rfl) rfl) (zay (zbg (by rfl)) rfl)))
 · exact fun D ⟨v1,b3⟩ n d c u i=>⟨_,(zhx (zay (za5 (fun hD=>n (c 5 _ rfl (c 6 _ rfl hD 5 dc) 4 dc)) zbr) rfl)),zhc dc underlying172 zkb rfl dc (za3 (by rfl) rfl) rfl (show _=1 from rfl) (zaI 4 u i)⟩
 · exact fun D ⟨v1,b3⟩ n d c u i=>⟨_,(zhx (zay (za5 (fun hD=>n (c 6 _ rfl hD 5 dc)) zbr) rfl)),zat (k:=1) zfq rfl dc (zaH 4 u d) rfl rfl (zaI 5 u i)⟩
 ·
  intro D b hn hd hcl
  obtain ⟨v1,zb1⟩:=b
  refine zbM (zhx (zay (za5 hn zbr) rfl)) ?_
  refine zby (cs:=[.int .i32 (((zgP r1 Msplit1).getD (⟨0,0⟩:zaz)).e1)]) (te:=21) (ps:=[(0,.tmp 22)]) rfl dc (evP.cons (zaU (m:=5) rfl rfl (hd 5 dc)) evP.nil) (fun _=>by kernel_rfl) (fun b3 => ?_)
  refine zhb 3 rfl rfl ?_
  exact zcb (b:=(v1,zb1)) (v1,b3) 6 (by rfl) (by rfl) rfl (zvn (zaF (fun hD=>absurd hD hn) rfl)) (zsk (zay (zbg (by rfl)) (zay (zda (Or.inr rfl) rfl) rfl)))
 intro D b hall
 obtain ⟨v1,b3⟩:=b
 refine zbM (zsk (zay (zda (hall 3 dc) rfl) (zay (zda (hall 6 dc) rfl) rfl))) ?_
 refine zbR (k:=2) (k2:=3) (ys:=[((zgP r1 Msplit1).getD (⟨0,0⟩:zaz)).e1]) underlying138 ztx zci zgB rfl dc rfl rfl rfl rfl rfl rfl hg1 (fun v2 => ?_)
 refine zyR 1 rfl (zyN (zaE ?_))
 cases h
 exact zbA (rs:=[.tmp 4]) v2 (.inl rfl) results61 (.cons (.tmp rfl) .nil) rfl (zaa [0,2] kr rfl)
theorem zk3 {bsplit1:Nat} {Msplit1:List (Int×zaz)} {r1:Int} {r:(List Int)} (h:zeZ Msplit1 r1=some r):Fn prog 61 [.map (some bsplit1),.int .i32 r1] [zgX (fun n:Int=>Value.int .i32 n) (fun p:zaz=>Value.agg #[.int .i32 p.e0,.int .i32 p.e1]) bsplit1 Msplit1] (fun v0:Value=>v0) (fun v0=>[zgX (fun n:Int=>Value.int .i32 n) (fun p:zaz=>Value.agg #[.int .i32 p.e0,.int .i32 p.e1]) bsplit1 Msplit1,zv5 v0 r]):=by
 unfold zeZ at h
 exact zk4 zc9  h
def zfv (u1:zaC) (j1:Option zBA) (ag1:Int→Bool→Nat→Option zBA) (from3:Int) (head3:Bool) (m3:Nat):Option zBA := zaL (decide (m3<(pcs zLit0.data.toList).length)) ( zaA ((pcs zLit0.data.toList)[m3]?) fun (p1:Pc) => zcd (fun (j2:Int→Option zBA) => zaL (((p1.r:Int):Int)==32) ( zaL (decide ((0:Int)≤from3)) ( grd (0≤(from3:Int)∧(from3:Int)≤(p1.i:Int)∧((p1.i:Int):Int)≤(zLit0.size:Int)) <| some (zgT zLit0 from3 (p1.i:Int))
) ( zaL (((p1.r:Int):Int)==32) ( j2 from3
) ( zaL (head3) ( zaL (((p1.r:Int):Int)==(zif u1.base)) ( grd (I64 ((p1.i:Int)+((Utf8.encode (p1.r:Int)).size:Int))) <| j2 ((p1.i:Int)+((Utf8.encode (p1.r:Int)).size:Int))
) ( j2 from3
)
) ( j2 from3
)
)
)
) ( zaL (((p1.r:Int):Int)==32) ( j2 from3
) ( zaL (head3) ( zaL (((p1.r:Int):Int)==(zif u1.base)) ( grd (I64 ((p1.i:Int)+((Utf8.encode (p1.r:Int)).size:Int))) <| j2 ((p1.i:Int)+((Utf8.encode (p1.r:Int)).size:Int))
) ( j2 from3
)
) ( j2 from3
)
)
)
) (fun (from4:Int) => ag1 from4 (((p1.r:Int):Int)==32) (m3+1)
)
) ( j1
)
def zfo (u1:zaC):Option zBA := zaA (zc3 u1) fun (r1:Bool) => zaL (!r1) ( some (Utf8.encode u1.base)
) ( zcd (fun (j1:Option zBA) => grd (I32 u1.base) <| zbq (fun _ _ _=>none) (zfv u1 j1) zc9 (-1) true 0
) ( some (Utf8.encode (zif u1.base))
)
)
theorem zlR {u1:zaC} {u1_h0 u1_h1:Hd} {r:zBA} (h:zfo u1=some r):Fn prog 35 [.agg #[zI u1.at_,.int .u8 u1.broken,.int .i32 u1.base,u1_h0.v,u1_h1.v]] [zv5 u1_h0.v u1.low,zv5 u1_h1.v u1.high] (fun _b:Unit=>.string r) (fun _b=>[zv5 u1_h0.v u1.low,zv5 u1_h1.v u1.high]):=by
 unfold zfo at h
 refine Fn.intro func35 rfl ntmps35 (by simp) ?_
 intro w0 K
 refine zyG ?_
 refine zdN rfl dc rfl (fun b1 => ?_)
 refine zyR 1 rfl (zyN (zar (zyG (zaZ (k:=2) (cs:=[zI u1.at_,.int .u8 u1.broken,.int .i32 u1.base,u1_h0.v,u1_h1.v]) zlj rfl dc rfl rfl rfl rfl ?_))))
 obtain ⟨r1,hq1,h⟩:=zcp h
 refine zjb (v:=.bool r1) (vs:=[.agg #[zI u1.at_,.int .u8 u1.broken,.int .i32 u1.base,u1_h0.v,u1_h1.v]]) rfl dc rfl rfl rfl ztm (zfh (u1:=u1) (u1_h0:=u1_h0) (u1_h1:=u1_h1) hq1) [0,1] kr rfl (zdM rfl dc rfl zcA (zyN ?_))
 refine zyB rfl h (fun h => ?_) (fun h => ?_)
 ·
  refine zyG (zac zh2 rfl dc rfl (show _=2 from rfl) (zat (k:=2) zfq rfl dc rfl rfl rfl (zf9 rfl dc rfl (zfa underlying21 underlying9) (zyR 1 rfl (zyN (zaE (zao ?_)))))))
  cases h
  exact zbA (rs:=[.tmp 2]) () (.inl rfl) results35 (.cons (.tmp rfl) .nil) rfl (zaa [0,1] kr rfl)
 refine zax (zag ?_)
 obtain ⟨j1,hj1,h⟩:=zcC h
 refine zbF (β:=Unit) 3 rfl (fun b=>j1=some r) (fun b=>[]) (fun b=>[(3,.int .i32 (zif u1.base))]) (fun b=>[zv5 u1_h0.v u1.low,zv5 u1_h1.v u1.high]) (fun cut => ?_) ?_
 ·
  refine zyG (zac zh2 rfl dc rfl (show _=2 from rfl) (zat (k:=2) zfq rfl dc rfl rfl rfl ?_))
  obtain ⟨hg1,h⟩:=zcU h
  refine zbv (v:=.int .i32 (zif u1.base)) (vs:=[.int .i32 u1.base]) rfl dc rfl rfl rfl zwi (zhg fun w=>zpF u1.base w hg1.1 hg1.2) ?_
  refine zyR 1 rfl (zyH (zyR 1 rfl (zyH (zyR 1 rfl (zyN (cut ?_))))))
  refine zyG ?_
  refine zea underlying9 rfl dc rfl (fun b2 => ?_)
  refine zyN (zaK ?_)
  refine zdy (β:=Nat×Int×Bool×Nat) (fun b=>zbq (fun _ _ _=>none) (zfv u1 j1) b.1 b.2.1 b.2.2.1 b.2.2.2=some r) (fun b=>[]) (fun b=>[(3,.int .i32 (zif u1.base)),(4,zI b.2.1),(5,.bool b.2.2.1),(17,zP b2)]) (fun b=>[zv5 u1_h0.v u1.low,zv5 u1_h1.v u1.high,obj b2 (.stringIter zLit0 (zeW zLit0 b.2.2.2))]) (fun b=>b.1) (zc9,(-1),true,0) (by exact h) rfl (zbK rfl) (zaa [0,1,3] kr rfl) ?_
  rintro ⟨n1,from3,head3,m3⟩ h
  cases n1 with
  | zero=>exact zfG h
  | succ n1 =>
   obtain ⟨ag1,hag1⟩:∃ ag,ag=zbq (fun _ _ _=>none) (zfv u1 j1) n1:=⟨_,rfl⟩
   have h:zfv u1 j1 ag1 from3 head3 m3=some r:=by rw [hag1]; exact h
   unfold zfv at h
   refine zyG ?_
   refine zgh (b:=decide (m3<(pcs zLit0.data.toList).length)) (fun hb2 => ?_) (fun hb2 => ?_)
   ·
    have h:=zg5 hb2 h
    obtain ⟨p1,hq2,h⟩:=zcp h
    refine zex (k:=2) (m:=m3) (p:=p1) rfl dc rfl rfl hq2 (zaJ rfl dc rfl rfl (zyN (zar (zbw rfl (zax (zag (zaK ?_)))))))
    obtain ⟨j2,hj2,h⟩:=zcC h
    refine zbF (β:=Int) 1 rfl (fun b=>j2 b=some r) (fun b=>[]) (fun b=>[(3,.int .i32 (zif u1.base)),(4,zI b),(7,.int .i32 (p1.r:Int)),(17,zP b2)]) (fun b=>[zv5 u1_h0.v u1.low,zv5 u1_h1.v u1.high,obj b2 (.stringIter zLit0 (zeW zLit0 (m3+1)))]) (fun cut => ?_) ?_
    ·
     refine zyG (zaJ rfl dc rfl rfl (zaJ rfl dc rfl rfl (zyR 2 rfl (zyN (cut (zaK (zyG (zyR 1 rfl (zbn rfl zaP ?_)))))))))
     refine zyR 1 rfl ?_
     refine zyS (s:=25) rfl h (fun h => ?_) (fun h => ?_)
     ·
      refine zyR 1 rfl (zbn rfl zbV (zyR 2 rfl (zyN ?_)))
      refine zyB rfl h (fun h => ?_) (fun h => ?_)
      ·
       refine zyG (zyR 2 rfl ?_)
       obtain ⟨hg2,h⟩:=zcU h
       refine zeG rfl dc rfl rfl rfl (zek (i:=from3) (j:=(p1.i:Int)) underlying9 (.inr rfl) (.inr rfl) hg2) (zyR 1 rfl (zyN (zaE (zau (zao (zau (zao (zau (zao ?_)))))))))
       cases h
       exact zbA (rs:=[.tmp 2]) () (.inl rfl) results35 (.cons (.tmp rfl) .nil) rfl (zaa [0,1] kr rfl)
      refine zyG (zyR 1 rfl (zbn rfl zaP (zyR 1 rfl (zyN ?_))))
      refine zyB rfl h (fun h => ?_) (fun h => ?_)
      ·
       refine zax (zah ?_)
       exact zaB from3 h rfl (zbK rfl) (zaa [0,1,2] kr rfl)
      refine zyG (zyR 2 rfl ?_)
      refine zyS (s:=37) rfl h (fun h => ?_) (fun h => ?_)
      ·
       refine zyR 2 rfl (zbn rfl zaP (zyR 2 rfl (zyN ?_)))
       refine zyB rfl h (fun h => ?_) (fun h => ?_)
       ·
        refine zad (zyR 2 rfl (zf9 rfl dc rfl (zfa underlying21 underlying9) (zdC rfl dc rfl underlying9 ?_)))
        obtain ⟨hg3,h⟩:=zcU h
        refine zbn rfl (zbs (r:=(p1.i:Int)+((Utf8.encode (p1.r:Int)).size:Int)) (IntWalk.i64_in _ hg3)) (zyR 1 rfl (zap (zah ?_)))
        exact zaB ((p1.i:Int)+((Utf8.encode (p1.r:Int)).size:Int)) h rfl (zbK rfl) (zaa [0,1,2] kr rfl)
       refine zax (zah ?_)
       exact zaB from3 h rfl (zbK rfl) (zaa [0,1,2] kr rfl)
      refine zyR 5 rfl (zyN (zaS rfl (zax (zah ?_))))
      exact zaB from3 h rfl (zbK rfl) (zaa [0,1,2] kr rfl)
     refine zyR 4 rfl (zyN (zaS rfl (zyG (zyR 1 rfl (zbn rfl zaP (zyR 1 rfl (zyN ?_)))))))
     refine zyB rfl h (fun h => ?_) (fun h => ?_)
     ·
      refine zax (zah ?_)
      exact zaB from3 h rfl (zbK rfl) (zaa [0,1,2] kr rfl)
     refine zyG (zyR 2 rfl ?_)
     refine zyS (s:=37) rfl h (fun h => ?_) (fun h => ?_)
     ·
      refine zyR 2 rfl (zbn rfl zaP (zyR 2 rfl (zyN ?_)))
      refine zyB rfl h (fun h => ?_) (fun h => ?_)
      ·
       refine zad (zyR 2 rfl (zf9 rfl dc rfl (zfa underlying21 underlying9) (zdC rfl dc rfl underlying9 ?_)))
       obtain ⟨hg4,h⟩:=zcU h
       refine zbn rfl (zbs (r:=(p1.i:Int)+((Utf8.encode (p1.r:Int)).size:Int)) (IntWalk.i64_in _ hg4)) (zyR 1 rfl (zap (zah ?_)))
       exact zaB ((p1.i:Int)+((Utf8.encode (p1.r:Int)).size:Int)) h rfl (zbK rfl) (zaa [0,1,2] kr rfl)
      refine zax (zah ?_)
      exact zaB from3 h rfl (zbK rfl) (zaa [0,1,2] kr rfl)
     refine zyR 5 rfl (zyN (zaS rfl (zax (zah ?_))))
     exact zaB from3 h rfl (zbK rfl) (zaa [0,1,2] kr rfl)
    rintro from4 h
    rw [hj2] at h
    refine zad (zyR 1 rfl (zbn rfl zaP (zyR 1 rfl (zap (zah ?_)))))
    subst hag1
    exact zcM (n1,from4,((p1.r:Int):Int)==32,m3+1) h (Nat.lt_succ_self _) rfl (zbK rfl) (zaa [0,1,2] kr rfl)
   have h:=zg6 hb2 h
   refine zgg (k:=2) (m:=m3) rfl dc rfl rfl (Nat.le_of_not_lt (of_decide_eq_false hb2)) (zaJ rfl dc rfl rfl (zyN (zar (zaS rfl (zcy (zaV (zaV (zbh ?_))))))))
   exact zaB () h rfl (zbK rfl) (zaa [0,1] kr rfl)
 rintro _ h
 rw [hj1] at h
 refine zyG (zyR 1 rfl (zf9 rfl dc rfl (zfa underlying21 underlying9) (zyR 1 rfl (zyN (zaE ?_)))))
 cases h
 exact zbA (rs:=[.tmp 2]) () (.inl rfl) results35 (.cons (.tmp rfl) .nil) rfl (zaa [0,1] kr rfl)
abbrev zLit1:zBA:=⟨#[204,128,65,195,128,69,195,136,73,195,140,79,195,146,85,195,153,97,195,160,101,195,168,105,195,172,111,195,178,117,195,185,208,149,208,128,208,152,208,141,208,181,209,144,208,184,209,157,204,129,65,195,129,69,195,137,73,195,141,79,195,147,85,195,154,89,195,157,97,195,161,101,195,169,105,195,173,111,195,179,117,195,186,121,195,189,67,196,134,76,196,185,78,197,131,82,197,148,83,197,154,90,197,185,99,196,135,108,196,186,110,197,132,114,197,149,115,197,155,122,197,186,206,145,206,134,206,149,206,136,206,151,206,137,206,153,206,138,206,159,206,140,206,165,206,142,206,169,206,143,206,177,206,172,206,181,206,173,206,183,206,174,206,185,206,175,206,191,207,140,207,133,207,141,207,137,207,142,208,147,208,131,208,154,208,140,208,179,209,147,208,186,209,156,207,138,206,144,207,139,206,176,204,130,65,195,130,69,195,138,73,195,142,79,195,148,85,195,155,97,195,162,101,195,170,105,195,174,111,195,180,117,195,187,67,196,136,71,196,156,72,196,164,74,196,180,83,197,156,87,197,180,89,197,182,99,196,137,103,196,157,104,196,165,106,196,181,115,197,157,119,197,181,121,197,183,204,131,65,195,131,78,195,145,79,195,149,97,195,163,110,195,177,111,195,181,73,196,168,85,197,168,105,196,169,117,197,169,204,132,65,196,128,69,196,146,73,196,170,79,197,140,85,197,170,97,196,129,101,196,147,105,196,171,111,197,141,117,197,171,204,134,65,196,130,69,196,148,71,196,158,73,196,172,79,197,142,85,197,172,97,196,131,101,196,149,103,196,159,105,196,173,111,197,143,117,197,173,208,152,208,153,208,163,208,142,208,184,208,185,209,131,209,158,204,135,67,196,138,69,196,150,71,196,160,73,196,176,90,197,187,99,196,139,101,196,151,103,196,161,122,197,188,204,136,65,195,132,69,195,139,73,195,143,79,195,150,85,195,156,97,195,164,101,195,171,105,195,175,111,195,182,117,195,188,121,195,191,89,197,184,208,149,208,129,208,134,208,135,208,181,209,145,209,150,209,151,206,153,206,170,206,165,206,171,206,185,207,138,207,133,207,139,204,138,65,195,133,85,197,174,97,195,165,117,197,175,204,139,79,197,144,85,197,176,111,197,145,117,197,177,204,140,67,196,140,68,196,142,69,196,154,76,196,189,78,197,135,82,197,152,83,197,160,84,197,164,90,197,189,99,196,141,100,196,143,101,196,155,108,196,190,110,197,136,114,197,153,115,197,161,116,197,165,122,197,190,204,167,67,195,135,71,196,162,75,196,182,76,196,187,78,197,133,82,197,150,83,197,158,84,197,162,99,195,167,103,196,163,107,196,183,108,196,188,110,197,134,114,197,151,115,197,159,116,197,163,204,168,65,196,132,69,196,152,73,196,174,85,197,178,97,196,133,101,196,153,105,196,175,117,197,179]⟩
def zfw (ag1:Int→Int→Bool→Nat→Option (List (zaz×Int))) (p7:Int) (p8:Int) (base4:Bool) (m4:Nat):Option (List (zaz×Int)) := zaL (decide (m4<(pcs zLit1.data.toList).length)) ( zaA ((pcs zLit1.data.toList)[m4]?) fun (p9:Pc) => zcd (fun (j1:Int→Option (List (zaz×Int))) => grd (I32 (p9.r:Int)) <| zaL (((kind (p9.r:Int)):Int)==2) ( ag1 p7 (p9.r:Int) true (m4+1)
) ( zaL (base4) ( j1 (p9.r:Int)
) ( zhU ((⟨p7,p8⟩:zaz),(p9.r:Int)) <| j1 p7
)
)
) (fun (p10:Int) => ag1 p10 p8 (!base4) (m4+1)
)
) ( some []
)
def zhM  : Option (List (zaz×Int)) := zbq (fun _ _ _ _=>none) (zfw) zc9 0 0 true 0
theorem zk5  {xs:(List (zaz×Int))} (h:zhM=some xs):Itr prog 80 [] (fun q:zaz×Int=>[.agg #[.int .i32 q.1.e0,.int .i32 q.1.e1],.int .i32 q.2]) xs []:=by
 unfold zhM at h
 refine Itr.intro func80 rfl ntmps80 (by simp) ?_
 intro l w0 K I X hRo hy
 obtain ⟨r0,hx0⟩:∃ r,xs=[]++r:=⟨xs,rfl⟩
 have hr0:xs=r0:=hx0
 rw [hr0] at h
 refine zyG ?_
 refine za6 zo8 rfl dc (fun b1 => ?_)
 refine zyH (zyR 1 rfl (zyH ?_))
 refine zea underlying9 rfl dc rfl (fun b2 => ?_)
 refine zyN (zaK ?_)
 refine zdy (β:=Nat×Int×Int×Bool×Nat×(List (zaz×Int))×(List (zaz×Int))) (fun b=>zbq (fun _ _ _ _=>none) (zfw) b.1 b.2.1 b.2.2.1 b.2.2.2.1 b.2.2.2.2.1=some b.2.2.2.2.2.2∧xs=b.2.2.2.2.2.1++b.2.2.2.2.2.2) (fun b=>[]) (fun b=>[(0,.func (.yield l) #[] #[]),(2,zP b1),(3,.bool b.2.2.2.1),(6,zP b2)]) (fun b=>[I b.2.2.2.2.2.1,cells b1 [.int .i32 b.2.1,.int .i32 b.2.2.1] 172,obj b2 (.stringIter zLit1 (zeW zLit1 b.2.2.2.2.1))]) (fun b=>b.1) (zc9,0,0,true,0,([]:List (zaz×Int)),r0) ⟨h,hx0⟩ rfl (zbK rfl) (zaa [0,1,2] kr rfl) ?_
 rintro ⟨n1,p7,p8,base4,m4,acc3,rr3⟩ ⟨h,hx3⟩
 cases n1 with
 | zero=>exact zfG h
 | succ n1 =>
  obtain ⟨ag1,hag1⟩:∃ ag,ag=zbq (fun _ _ _ _=>none) (zfw) n1:=⟨_,rfl⟩
  have h:zfw ag1 p7 p8 base4 m4=some rr3:=by rw [hag1]; exact h
  unfold zfw at h
  refine zyG ?_
  refine zgh (b:=decide (m4<(pcs zLit1.data.toList).length)) (fun hb1 => ?_) (fun hb1 => ?_)
  ·
   have h:=zg5 hb1 h
   obtain ⟨p9,hq1,h⟩:=zcp h
   refine zex (k:=2) (m:=m4) (p:=p9) rfl dc rfl rfl hq1 (zaJ rfl dc rfl rfl (zyN (zar (zbw rfl (zax (zag (zaK ?_)))))))
   obtain ⟨j1,hj1,h⟩:=zcC h
   refine zbF (β:=Int×(List (zaz×Int))×(List (zaz×Int))) 1 rfl (fun b=>j1 b.1=some b.2.2∧xs=b.2.1++b.2.2) (fun b=>[]) (fun b=>[(0,.func (.yield l) #[] #[]),(2,zP b1),(3,.bool base4),(6,zP b2)]) (fun b=>[I b.2.1,cells b1 [.int .i32 b.1,.int .i32 p8] 172,obj b2 (.stringIter zLit1 (zeW zLit1 (m4+1)))]) (fun cut => ?_) ?_
   ·
    refine zyG (zaJ rfl dc rfl rfl (zyR 1 rfl (zyN (cut (zaK (zyG (zyR 1 rfl ?_)))))))
    obtain ⟨hg1,h⟩:=zcU h
    refine zbv (v:=zI (kind (p9.r:Int))) (vs:=[.int .i32 (p9.r:Int)]) rfl dc rfl rfl rfl ztl (zhg fun w=>zi2 (p9.r:Int) w hg1.1 hg1.2) ?_
    refine zbn rfl zaP (zyR 1 rfl (zyN ?_))
    refine zyB rfl h (fun h => ?_) (fun h => ?_)
    ·
     refine zyG (zyR 1 rfl (zhc dc underlying172 zkb rfl dc rfl rfl (show _=1 from rfl) ?_))
     refine zaG (k:=1) (l':=[.int .i32 p7,.int .i32 (p9.r:Int)]) zkb rfl rfl rfl rfl rfl (fun _ _=>rfl) rfl ?_
     refine zyR 1 rfl (zyN (zcy (zfP dc (zaV (zbh ?_)))))
     subst hag1
     exact zcM (n1,p7,(p9.r:Int),true,m4+1,acc3,rr3) ⟨h,hx3⟩ (Nat.lt_succ_self _) rfl (zbK rfl) (zaa [0,1,2] kr rfl)
    refine zyG (zyR 2 rfl (zyN ?_))
    refine zyB rfl h (fun h => ?_) (fun h => ?_)
    ·
     refine zad (zyR 1 rfl (zhc dc underlying172 zkb rfl dc rfl rfl (show _=0 from rfl) ?_))
     refine zaG (k:=1) (l':=[.int .i32 (p9.r:Int),.int .i32 p8]) zkb rfl rfl rfl rfl rfl (fun _ _=>rfl) rfl ?_
     refine zap (zah ?_)
     exact zaB ((p9.r:Int),acc3,rr3) ⟨h,hx3⟩ rfl (zbK rfl) (zaa [0,1,2] kr rfl)
    refine zyG (zyR 1 rfl (zaZ (k:=1) (cs:=[.int .i32 p7,.int .i32 p8]) zms rfl dc rfl rfl rfl rfl (zyR 1 rfl ?_)))
    obtain ⟨rr5,hr1,h⟩:=zik h
    have hx5:xs=acc3++((⟨p7,p8⟩:zaz),(p9.r:Int))::rr5:=by rw [hx3,hr1]
    refine zcX hy rfl dc rfl hx5 rfl (k:=0) rfl ?_ ?_
    ·
     have hx6:xs=(acc3++[((⟨p7,p8⟩:zaz),(p9.r:Int))])++rr5:=by rw [hx5]; simp
     refine zdM rfl dc rfl zcA (zyR 1 rfl (zyN (zaS rfl (zax (zah ?_)))))
     exact zaB (p7,acc3++[((⟨p7,p8⟩:zaz),(p9.r:Int))],rr5) ⟨h,hx6⟩ rfl (zbK rfl) (zaa [0,1,2] kr rfl)
    refine zdM rfl dc rfl zcA (zyR 1 rfl (zyN (zbw rfl (zaE (zau (zao (zau (zao (zau ?_)))))))))
    exact zfi (ds:=[]) acc3 ((⟨p7,p8⟩:zaz),(p9.r:Int)) rr5 hx5 (.inl rfl) Splits.nil results80 (zaa [0] kr rfl)
   rintro ⟨p10,acc4,rr4⟩ ⟨h,hx4⟩
   rw [hj1] at h
   refine zad (zyR 1 rfl (zdM rfl dc rfl zcA (zyR 1 rfl (zap (zah ?_)))))
   subst hag1
   exact zcM (n1,p10,p8,!base4,m4+1,acc4,rr4) ⟨h,hx4⟩ (Nat.lt_succ_self _) rfl (zbK rfl) (zaa [0,1,2] kr rfl)
  have h:=zg6 hb1 h
  refine zgg (k:=2) (m:=m4) rfl dc rfl rfl (Nat.le_of_not_lt (of_decide_eq_false hb1)) (zaJ rfl dc rfl rfl (zyN (zar (zaS rfl (zcy (zaV (zaV (zbh ?_))))))))
  cases h
  exact zfD (ds:=[]) (.inr rfl) Splits.nil results80 (congrArg I (hx3.trans (List.append_nil _))) (zaa [0] kr rfl)
def ze9 (x1:zaz×Int) (ag1:(List (zaz×Int))→(List (Int×zaz))→Option ((List (zaz×Int))×(List (Int×zaz)))) (join4:List (zaz×Int)) (split4:List (Int×zaz)):Option ((List (zaz×Int))×(List (Int×zaz))) := ag1 (zpn x1.1 x1.2 join4) (zpn x1.2 x1.1 split4)
def zgd  : Option ((List (zaz×Int))×(List (Int×zaz))) := zcd (fun (j1:(List (zaz×Int))→(List (Int×zaz))→Option ((List (zaz×Int))×(List (Int×zaz)))) => zaA (zhM) fun (its1:(List (zaz×Int))) => zcd (fun (dn1:(List (zaz×Int))→(List (Int×zaz))→Option ((List (zaz×Int))×(List (Int×zaz)))) => zbZ dn1 (ze9) its1 ([]:List (zaz×Int)) ([]:List (Int×zaz))
) (fun (join4:List (zaz×Int)) (split4:List (Int×zaz)) => j1 join4 split4
)
) (fun (join1:List (zaz×Int)) (split1:List (Int×zaz)) => some (join1,split1)
)
theorem zk2  {r:((List (zaz×Int))×(List (Int×zaz)))} (h:zgd=some r):Fn prog 57 [] [] (fun b:Nat×Nat=>.tuple #[.map (some b.1),.map (some b.2)]) (fun b=>[zgX (fun p:zaz=>Value.agg #[.int .i32 p.e0,.int .i32 p.e1]) (fun n:Int=>Value.int .i32 n) b.1 r.1,zgX (fun n:Int=>Value.int .i32 n) (fun p:zaz=>Value.agg #[.int .i32 p.e0,.int .i32 p.e1]) b.2 r.2]):=by
 unfold zgd at h
 refine Fn.intro func57 rfl ntmps57 (by simp) ?_
 intro w0 K
 refine ze3 ?_
 obtain ⟨j1,hj1,h⟩:=zcC h
 refine zbF (β:=(List (zaz×Int))×(List (Int×zaz))×Nat×Nat×Nat×Nat×(List Nat)) 2 rfl (fun b=>j1 b.1 b.2.1=some r) (fun b=>zcK b.2.2.2.2.2.2) (fun b=>[(2,zP b.2.2.1),(3,zP b.2.2.2.2.1)]) (fun b=>[cells b.2.2.1 [.map (some b.2.2.2.1)] 141,zgX (fun p:zaz=>Value.agg #[.int .i32 p.e0,.int .i32 p.e1]) (fun n:Int=>Value.int .i32 n) b.2.2.2.1 b.1,cells b.2.2.2.2.1 [.map (some b.2.2.2.2.2.1)] 142,zgX (fun n:Int=>Value.int .i32 n) (fun p:zaz=>Value.agg #[.int .i32 p.e0,.int .i32 p.e1]) b.2.2.2.2.2.1 b.2.1,zc0 ((b.2.2.2.2.2.2:List Nat).map zcu)]) (fun cut => ?_) ?_
 ·
  refine zyG (zyR 2 rfl (zyH ?_))
  refine zlu (fun p:zaz=>Value.agg #[.int .i32 p.e0,.int .i32 p.e1]) (fun n:Int=>Value.int .i32 n) rfl dc (fun b5 => ?_)
  refine zlu (fun n:Int=>Value.int .i32 n) (fun p:zaz=>Value.agg #[.int .i32 p.e0,.int .i32 p.e1]) rfl dc (fun b6 => ?_)
  refine za6 zt6 rfl dc (fun b7 => ?_)
  refine za6 zrF rfl dc (fun b8 => ?_)
  refine zaG (k:=3) (l':=[.map (some b5)]) zui rfl rfl rfl rfl rfl (fun _ _=>rfl) rfl ?_
  refine zaG (k:=4) (l':=[.map (some b6)]) zrN rfl rfl rfl rfl rfl (fun _ _=>rfl) rfl ?_
  refine zyN (cut (zaK ?_))
  obtain ⟨its1,hq1,h⟩:=zcp h
  obtain ⟨dn1,hdn1,h⟩:=zcC h
  refine zfF (α:=zaz×Int) (β:=(List (zaz×Int))×(List (Int×zaz))) (γ:=Unit) (δ:=Nat) (ps:=[8,9]) Ro.nil rfl zvZ (zk5 hq1) (fun pre b=>∀ post,its1=pre++post→zbZ dn1 (ze9) post b.1 b.2=some r) (fun pre b=>[cells b7 [.map (some b5)] 141,zgX (fun p:zaz=>Value.agg #[.int .i32 p.e0,.int .i32 p.e1]) (fun n:Int=>Value.int .i32 n) b5 b.1,cells b8 [.map (some b6)] 142,zgX (fun n:Int=>Value.int .i32 n) (fun p:zaz=>Value.agg #[.int .i32 p.e0,.int .i32 p.e1]) b6 b.2]) (fun c pre g=>False) (fun c pre g=>[]) (fun pre x b j=>[(0,.map none),(1,.map none),(2,zP b7),(3,zP b8),(4,zP j),(5,.int .i32 x.2)]) (fun pre x b j=>[cells b7 [.map (some b5)] 141,zgX (fun p:zaz=>Value.agg #[.int .i32 p.e0,.int .i32 p.e1]) (fun n:Int=>Value.int .i32 n) b5 b.1,cells b8 [.map (some b6)] 142,zgX (fun n:Int=>Value.int .i32 n) (fun p:zaz=>Value.agg #[.int .i32 p.e0,.int .i32 p.e1]) b6 b.2,cells j [.int .i32 x.1.e0,.int .i32 x.1.e1] 172]) (([]:List (zaz×Int)),([]:List (Int×zaz))) (fun post e=>by rw [List.nil_append] at e; subst e; exact h) (zaa [3,1,4,2] kr rfl) trivial (fun _=>rfl) dc ?_ ?_ ?_ ?_
  ·
   rintro lp rc pre x1 post ⟨join4,split4⟩ w1 K1 hxs1 hext hro hinv
   refine zyG ?_
   refine za6 zo8 rfl dc (fun b9 => ?_)
   refine za2 (k:=4) (vs:=[.int .i32 x1.1.e0,.int .i32 x1.1.e1]) (l':=[.int .i32 x1.1.e0,.int .i32 x1.1.e1]) zrK rfl rfl rfl rfl rfl (show _≤_ by simp) rfl rfl ?_
   refine zyN (zad (zyR 1 rfl (zap ?_)))
   exact fun a w ha hw=>⟨b9,(zbK rfl) _ _ _ ha,hw.weaken (zaa [0,1,2,3,4] kr rfl)⟩
  ·
   rintro lp rc pre x1 post1 ⟨join4,split4⟩ jb1 w1 K1 hxs1 hext hro hinv
   have h:=hinv (x1::post1) hxs1
   obtain ⟨ag1,hag1⟩:∃ ag,ag=zbZ dn1 (ze9) post1:=⟨_,rfl⟩
   have h:ze9 x1 ag1 join4 split4=some r:=by have h2:=h; rw [zb3,← hag1] at h2; exact h2
   unfold ze9 at h
   refine zaK ?_
   refine zfU (β:=Unit) 7 6 _ [(0,10,.map (some b5)),(1,11,.agg #[.int .i32 x1.1.e0,.int .i32 x1.1.e1]),(2,12,.map (some b6)),(3,13,.int .i32 x1.2),(4,14,.int .i32 x1.2),(5,15,.agg #[.int .i32 x1.1.e0,.int .i32 x1.1.e1])] (fun _b=>[]) (fun _b=>[cells b7 [.map (some b5)] 141,zgX (fun p:zaz=>Value.agg #[.int .i32 p.e0,.int .i32 p.e1]) (fun n:Int=>Value.int .i32 n) b5 (zpn x1.1 x1.2 join4),cells b8 [.map (some b6)] 142,zgX (fun n:Int=>Value.int .i32 n) (fun p:zaz=>Value.agg #[.int .i32 p.e0,.int .i32 p.e1]) b6 split4,cells jb1 [.int .i32 x1.1.e0,.int .i32 x1.1.e1] 172]) mixed kr kr rfl dc dc (by rfl) kr kr (zas ?_ (zas ?_ (zas ?_ (zyE 2 3 rfl (zas ?_ (zbO DrawPreX.nil)))))) (fun _b=>(zas ?_ (zas ?_ (zas ?_ (zyE 2 3 rfl (zas ?_ (zbO DrawPreX.nil))))))) ?_ ?_
   · exact fun D n d c u i=>zat (k:=0) zpk rfl dc (za3 (by rfl) rfl) rfl rfl (zaI 0 u i)
   · exact fun D n d c u i=>zaZ (k:=4) (cs:=[.int .i32 x1.1.e0,.int .i32 x1.1.e1]) zms rfl dc (za3 (by rfl) rfl) rfl rfl rfl (zaI 1 u i)
   · exact fun D n d c u i=>zat (k:=2) zn4 rfl dc (za3 (by rfl) rfl) rfl rfl (zaI 2 u i)
   · exact fun D n d c u i=>zaZ (k:=4) (cs:=[.int .i32 x1.1.e0,.int .i32 x1.1.e1]) zms rfl dc (za3 (by rfl) rfl) rfl rfl rfl (zaI 5 u i)
   · exact fun D n d c u i=>zat (k:=0) zpk rfl dc (za3 (by rfl) rfl) rfl rfl (zaI 0 u i)
   · exact fun D n d c u i=>zaZ (k:=4) (cs:=[.int .i32 x1.1.e0,.int .i32 x1.1.e1]) zms rfl dc (za3 (by rfl) rfl) rfl rfl rfl (zaI 1 u i)
   · exact fun D n d c u i=>zat (k:=2) zn4 rfl dc (za3 (by rfl) rfl) rfl rfl (zaI 2 u i)
   · exact fun D n d c u i=>zaZ (k:=4) (cs:=[.int .i32 x1.1.e0,.int .i32 x1.1.e1]) zms rfl dc (za3 (by rfl) rfl) rfl rfl rfl (zaI 5 u i)
   ·
    intro D hn hd hcl
    refine zjM (k:=1) (ek:=(fun p:zaz=>Value.agg #[.int .i32 p.e0,.int .i32 p.e1])) (ev':=(fun n:Int=>Value.int .i32 n)) (kk:=x1.1) (vv:=x1.2) (zo4 (f0:=fun p:zaz=>p.e0) (f1:=fun p:zaz=>p.e1) (fun a b h1 h2=>by cases a; cases b; simp_all) underlying172 underlying21 zkb) underlying141 rfl (zaU (m:=0) kr rfl (hd 0 dc)) (zaU (m:=1) kr rfl (hd 1 dc)) (zaU (m:=4) kr rfl (hd 4 dc)) rfl ?_
    exact fun a w ha hw=>⟨(),ha,hw⟩
   intro _b
   refine zjM (k:=3) (ek:=(fun n:Int=>Value.int .i32 n)) (ev':=(fun p:zaz=>Value.agg #[.int .i32 p.e0,.int .i32 p.e1])) (kk:=x1.2) (vv:=x1.1) (KeyOk.int underlying21) underlying142 rfl rfl rfl rfl rfl ?_
   refine zap (zah ?_)
   exact zcj (zpn x1.1 x1.2 join4,zpn x1.2 x1.1 split4) (fun post2 e2=>by have e9:=zcI hxs1 e2; subst e9; subst hag1; exact h) (zaa [0,1,2,3] kr rfl)
  ·
   rintro dm1 ⟨join4,split4⟩ hinv
   have h:dn1 join4 split4=some r:=hinv [] (List.append_nil _).symm
   rw [hdn1] at h
   show TX _ _ _ _ _ _ _ [zc0 ((([]:List Nat):List Nat).map zcu),emp,emp,emp,emp,cells b7 [.map (some b5)] 141,zgX (fun p:zaz=>Value.agg #[.int .i32 p.e0,.int .i32 p.e1]) (fun n:Int=>Value.int .i32 n) b5 join4,cells b8 [.map (some b6)] 142,zgX (fun n:Int=>Value.int .i32 n) (fun p:zaz=>Value.agg #[.int .i32 p.e0,.int .i32 p.e1]) b6 split4,zcu dm1]
   refine zds (k:=9) (j:=0) rfl rfl dc ?_
   refine zah ?_
   exact zaB (join4,split4,b7,b5,b8,b6,dm1::([]:List Nat)) h rfl (zbK rfl) (zaa [5,6,7,8,0] kr rfl)
  rintro dm1 c pre x1 post g hxs hX
  exact (show False from hX).elim
 rintro ⟨join1,split1,b1,b2,b3,b4,ds1⟩ h
 rw [hj1] at h
 refine zar ?_
 refine zbW 3 [(0,16,.map (some b2)),(1,17,.map (some b4)),(2,0,.map (some b2))] mixed kr kr dc (by rfl) kr kr (zae ?_ (zae ?_ (zyP 1 2 rfl DrawPre.nil))) ?_
 · exact fun D n d c u i=>zat (k:=0) zpk rfl dc (za3 (by rfl) rfl) rfl rfl (zaI 0 u i)
 · exact fun D n d c u i=>zat (k:=2) zn4 rfl dc (za3 (by rfl) rfl) rfl rfl (zaI 1 u i)
 refine zyR 1 rfl (zyN (zaE ?_))
 cases h
 exact zcE (rs:=[.tmp 0,.tmp 1]) ds1 (b2,b4) (.inl rfl) (zaT (k:=4) rfl) results57 (.cons (.tmp rfl) (.cons (.tmp rfl) .nil)) rfl (zaa [1,3] kr rfl)
end Go.Proofs.YtdnalnmahlakkaaGreatDoor


namespace Go.Proofs.YtdnalnmahlakkaaGreatDoor
open Go.RowKit Go.Lib
open Tryz
set_option linter.unusedVariables false
set_option linter.unusedSimpArgs false
def zdx (j3:Int→Int→Int→(List Int)→(List Int)→Option (List zaC)) (r6:(List Int)) (ag2:Int→Int→Int→(List Int)→(List Int)→Int→Option (List zaC)) (u23:Int) (u24:Int) (u25:Int) (u26:List Int) (u27:List Int) (x6:Int):Option (List zaC) := zaL (decide ((x6:Int)<((zp9 r6 1 (r6.length:Int)).length:Int))) ( zaA (zeD (zp9 r6 1 (r6.length:Int)) x6) fun (q2:Int) => zaA (zd0 (⟨u23,u24,u25,u26,u27⟩:zaC) q2) fun (r7:zaC) => grd (I64 (x6+1)) <| ag2 r7.at_ r7.broken r7.base r7.low r7.high (x6+1)
) ( j3 u23 u24 u25 u26 u27
)
def zd4 (s1:zBA) (r1:((List (zaz×Int))×(List (Int×zaz)))) (x1:zaY) (ag1:(List zaC)→Option (List zaC)) (l4:List zaC):Option (List zaC) := zaL (x1.Broken) ( zaA (znv s1 x1.At) fun (c1:Int) => grd (l4.length+1≤2147483648) <| ag1 (l4++[(⟨x1.At,c1,(-1),([]:List Int),([]:List Int)⟩:zaC)])
) ( zcd (fun (j2:Option (List zaC)) => zaL (decide ((0:Int)<(l4.length:Int))) ( grd (I64 ((l4.length:Int) - 1)) <| zaA (zeD l4 ((l4.length:Int) - 1)) fun (x2:zaC) => zaA (zc3 x2) fun (r3:Bool) => zaL (r3) ( grd (I32 x1.Rune) <| zaL (((kind x1.Rune):Int)==2) ( grd (I64 ((l4.length:Int) - 1)) <| zaA (zeD l4 ((l4.length:Int) - 1)) fun (x3:zaC) => zaA (zd0 x3 x1.Rune) fun (r4:zaC) => ag1 (l4.set ((l4.length:Int) - 1:Int).toNat r4)
) ( j2
)
) ( j2
)
) ( j2
)
) ( zcd (fun (j3:Int→Int→Int→(List Int)→(List Int)→Option (List zaC)) => zaA (zc3 (⟨x1.At,0,x1.Rune,([]:List Int),([]:List Int)⟩:zaC)) fun (r5:Bool) => zaL (r5) ( zaA (zeZ r1.2 x1.Rune) fun (r6:(List Int)) => zaA (zeD r6 0) fun (q1:Int) => grd (0≤(1:Int)∧(1:Int)≤(r6.length:Int)∧((r6.length:Int):Int)≤(r6.length:Int)) <| zbq (fun _ _ _ _ _ _=>none) (zdx j3 r6) zc9 x1.At 0 q1 ([]:List Int) ([]:List Int) 0
) ( j3 x1.At 0 x1.Rune ([]:List Int) ([]:List Int)
)
) (fun (u1:Int) (u2:Int) (u3:Int) (u4:List Int) (u5:List Int) => grd (l4.length+1≤2147483648) <| ag1 (l4++[(⟨u1,u2,u3,u4,u5⟩:zaC)])
)
)
)
def zfn (s1:zBA):Option (List zaC) := zcd (fun (j1:(List zaC)→Option (List zaC)) => zaA (zgd) fun (r1:((List (zaz×Int))×(List (Int×zaz)))) => zaA (zew s1) fun (r2:zBA) => zaA (zc8 r2) fun (its1:(List zaY)) => zcd (fun (dn1:(List zaC)→Option (List zaC)) => zbZ dn1 (zd4 s1 r1) its1 ([]:List zaC)
) (fun (l4:List zaC) => j1 l4
)
) (fun (l1:List zaC) => some l1
)
theorem zlQ {s1:zBA} {r:(List zaC)} (h:zfn s1=some r):Fn prog 34 [.string s1] [] (fun v0:Value=>v0) (fun v0=>[zba zbo za1 140 5 v0 r]):=by
 unfold zfn at h
 refine Fn.intro func34 rfl ntmps34 (by simp) ?_
 intro w0 K
 refine ze3 ?_
 refine zyG ?_
 refine zdN rfl dc rfl (fun b1 => ?_)
 refine zyR 1 rfl (zyN ?_)
 refine zh8 (β:=Unit) (l:=0) (fun _=>False) (fun _=>[]) (fun _=>[]) rfl ?_ ?_
 ·
  obtain ⟨j1,hj1,h⟩:=zcC h
  refine zbF (β:=(List zaC)×Nat×Hd×(List Nat)) 3 rfl (fun b=>j1 b.1=some r) (fun b=>zcK b.2.2.2) (fun b=>[(5,zP b.2.1)]) (fun b=>[cells b.2.1 [b.2.2.1.v] 97,zba zbo za1 140 5 b.2.2.1.v b.1,zc0 ((b.2.2.2:List Nat).map zcu)]) (fun cut => ?_) ?_
  ·
   refine zyG ?_
   obtain ⟨r1,hq1,h⟩:=zcp h
   refine zdE (vs:=[]) rfl dc rfl rfl rfl zwj (zk2 hq1) Splits.nil ?_
   rintro ⟨b3,b4⟩
   refine zyR 1 rfl (zaJ rfl dc rfl rfl (zaJ rfl dc rfl rfl ?_))
   refine za6 zrF rfl dc (fun b5 => ?_)
   refine zyR 1 rfl ?_
   refine zaG (k:=4) (l':=[.map (some b4)]) zrN rfl rfl rfl rfl rfl (fun _ _=>rfl) rfl ?_
   refine zyH ?_
   refine za6 zvq rfl dc (fun b6 => ?_)
   refine zyN (zar (zmd (zag (cut (zyG (zat (k:=1) zhH rfl dc rfl rfl rfl ?_))))))
   obtain ⟨r2,hq2,h⟩:=zcp h
   refine zdE (vs:=[.string s1]) rfl dc rfl rfl rfl zp4 (zfu hq2) Splits.nil ?_
   rintro b7
   refine zyN (zaK ?_)
   obtain ⟨its1,hq3,h⟩:=zcp h
   refine zkH (enc:=zbo) (nest:=za1) (e:=140) (size:=5) ?_
   obtain ⟨dn1,hdn1,h⟩:=zcC h
   refine zfF (α:=zaY) (β:=(List zaC)×Hd) (γ:=Unit) (δ:=Nat) (ps:=[18]) Ro.nil rfl zp3 (zeC hq3) (fun pre b=>∀ post,its1=pre++post→zbZ dn1 (zd4 s1 r1) post b.1=some r) (fun pre b=>[cells b1 [.string s1] 9,cells b5 [.map (some b4)] 142,zgX (fun n:Int=>Value.int .i32 n) (fun p:zaz=>Value.agg #[.int .i32 p.e0,.int .i32 p.e1]) b4 r1.2,cells b6 [b.2.v] 97,zba zbo za1 140 5 b.2.v b.1]) (fun c pre g=>False) (fun c pre g=>[]) (fun pre x b j=>[(1,zP b1),(2,.slice none 0 0),(4,zP b5),(5,zP b6),(17,.func (.func 50) #[] #[zP b7]),(6,zP j)]) (fun pre x b j=>[cells b1 [.string s1] 9,cells b5 [.map (some b4)] 142,zgX (fun n:Int=>Value.int .i32 n) (fun p:zaz=>Value.agg #[.int .i32 p.e0,.int .i32 p.e1]) b4 r1.2,cells b6 [b.2.v] 97,zba zbo za1 140 5 b.2.v b.1,cells j (zr1 x) 47]) (([]:List zaC),Hd.nil) (fun post e=>by rw [List.nil_append] at e; subst e; exact h) (zaa [1,4,3,5,7] kr rfl) ⟨.inl ⟨6,rfl⟩,trivial⟩ (fun _=>rfl) dc ?_ ?_ ?_ ?_
   ·
    rintro lp rc pre x1 post ⟨l4,hd4⟩ w1 K1 hxs1 hext hro hinv
    refine zad ?_
    refine za6 zje rfl dc (fun b8 => ?_)
    refine za2 (k:=5) (vs:=(zr1 x1)) (l':=(zr1 x1)) zgE rfl rfl rfl rfl rfl (show _≤_ by simp) rfl rfl ?_
    refine zap ?_
    exact fun a w ha hw=>⟨b8,(zbK rfl) _ _ _ ha,hw.weaken (zaa [0,1,2,3,4,5] kr rfl)⟩
   ·
    rintro lp rc pre x1 post1 ⟨l4,hd4⟩ jb1 w1 K1 hxs1 hext hro hinv
    have h:=hinv (x1::post1) hxs1
    obtain ⟨ag1,hag1⟩:∃ ag,ag=zbZ dn1 (zd4 s1 r1) post1:=⟨_,rfl⟩
    have h:zd4 s1 r1 x1 ag1 l4=some r:=by have h2:=h; rw [zb3,← hag1] at h2; exact h2
    unfold zd4 at h
    refine zaK (zar (zyG (zac znz rfl dc rfl (show _=3 from rfl) (zat (k:=5) zkg rfl dc rfl rfl rfl (zyN ?_)))))
    refine zyB rfl h (fun h => ?_) (fun h => ?_)
    ·
     refine zar ?_
     obtain ⟨c1,hq4,h⟩:=zcp h
     obtain ⟨hg1,h⟩:=zcU h
     refine zfU (β:=Nat) 9 8 _ [(0,21,hd4.v),(1,22,zP jb1),(2,23,zI x1.At),(3,24,.string s1),(4,25,zP jb1),(5,26,zI x1.At),(6,27,.int .u8 c1),(7,28,.agg #[zI x1.At,.int .u8 c1,.int .i32 (-1),.slice none 0 0,.slice none 0 0])] (fun b9=>[(29,.slice (some ⟨b9,0,none⟩) 1 1)]) (fun b9=>[cells b1 [.string s1] 9,cells b5 [.map (some b4)] 142,zgX (fun n:Int=>Value.int .i32 n) (fun p:zaz=>Value.agg #[.int .i32 p.e0,.int .i32 p.e1]) b4 r1.2,cells b6 [hd4.v] 97,zba zbo za1 140 5 hd4.v l4,cells jb1 (zr1 x1) 47,cells b9 [zI x1.At,.int .u8 c1,.int .i32 (-1),.slice none 0 0,.slice none 0 0] 140]) mixed kr kr rfl dc dc (by rfl) kr kr (zas ?_ (zas ?_ (zas ?_ (zas ?_ (zas ?_ (zas ?_ (zas ?_ (zas ?_ (zbO DrawPreX.nil))))))))) (fun b9=>(zas ?_ (zas ?_ (zas ?_ (zas ?_ (zas ?_ (zas ?_ (zas ?_ (zas ?_ (zbO DrawPreX.nil)))))))))) ?_ ?_
     · exact fun D n d c u i=>zat (k:=3) znj rfl dc (za3 (by rfl) rfl) rfl rfl (zaI 0 u i)
     · exact fun D n d c u i=>zac zeo rfl dc (za3 (by rfl) rfl) (show _=0 from rfl) (zaI 1 u i)
     · exact fun D n d c u i=>zat (k:=5) zdk rfl dc (zaH 1 u d) rfl rfl (zaI 2 u i)
     · exact fun D n d c u i=>zat (k:=0) zhH rfl dc (za3 (by rfl) rfl) rfl rfl (zaI 3 u i)
     · exact fun D n d c u i=>zac zeo rfl dc (za3 (by rfl) rfl) (show _=0 from rfl) (zaI 4 u i)
     · exact fun D n d c u i=>zat (k:=5) zdk rfl dc (zaH 4 u d) rfl rfl (zaI 5 u i)
     · exact fun D n d c u i=>zmc rfl dc (zaH 3 u d) (zaH 5 u d) (zg2 underlying9 hq4) (zaI 6 u i)
     · exact fun D n d c u i=>zbB (v:=.agg #[zI x1.At,.int .u8 c1,.int .i32 (-1),.slice none 0 0,.slice none 0 0]) (ps:=[(0,.tmp 23),(1,.tmp 27),(2,.const (.int .i32 (-1)))]) rfl dc (evP.cons (zaH 2 u d) (evP.cons (zaH 6 u d) (evP.cons rfl evP.nil))) (fun _=>by kernel_rfl) (zaI 7 u i)
     · exact fun D n d c u i=>zat (k:=3) znj rfl dc (za3 (by rfl) rfl) rfl rfl (zaI 0 u i)
     · exact fun D n d c u i=>zac zeo rfl dc (za3 (by rfl) rfl) (show _=0 from rfl) (zaI 1 u i)
     · exact fun D n d c u i=>zat (k:=5) zdk rfl dc (zaH 1 u d) rfl rfl (zaI 2 u i)
     · exact fun D n d c u i=>zat (k:=0) zhH rfl dc (za3 (by rfl) rfl) rfl rfl (zaI 3 u i)
     · exact fun D n d c u i=>zac zeo rfl dc (za3 (by rfl) rfl) (show _=0 from rfl) (zaI 4 u i)
     · exact fun D n d c u i=>zat (k:=5) zdk rfl dc (zaH 4 u d) rfl rfl (zaI 5 u i)
     · exact fun D n d c u i=>zmc rfl dc (zaH 3 u d) (zaH 5 u d) (zg2 underlying9 hq4) (zaI 6 u i)
     · exact fun D n d c u i=>zbB (v:=.agg #[zI x1.At,.int .u8 c1,.int .i32 (-1),.slice none 0 0,.slice none 0 0]) (ps:=[(0,.tmp 23),(1,.tmp 27),(2,.const (.int .i32 (-1)))]) rfl dc (evP.cons (zaH 2 u d) (evP.cons (zaH 6 u d) (evP.cons rfl evP.nil))) (fun _=>by kernel_rfl) (zaI 7 u i)
     ·
      intro D hn hd hcl
      refine zby (cs:=[zI x1.At,.int .u8 c1,.int .i32 (-1),.slice none 0 0,.slice none 0 0]) (te:=140) (ps:=[(0,.tmp 28)]) rfl dc (evP.cons (zaU (m:=7) kr rfl (hd 7 dc)) evP.nil) (fun _=>by kernel_rfl) (fun b9 => ?_)
      exact fun a w ha hw=>⟨b9,znP (by rfl) _ _ _ ha,hw⟩
     intro b9
     refine zf1 (enc:=(zfH (.i32))) (e:=21) (size:=1) ?_
     refine zf1 (enc:=(zfH (.i32))) (e:=21) (size:=1) ?_
     refine zc5 (k:=4) rfl zi0 (fun zs1 hz1 => ?_)
     refine zbR (k:=4) (k2:=6) (ys:=[((⟨x1.At,c1,(-1),([]:List Int),([]:List Int)⟩:zaC),(Hd.nil,Hd.nil))]) underlying97 zr9 zbQ zgn rfl dc rfl rfl rfl rfl rfl rfl (by rw [zqB hz1]; exact hg1) (fun v1 => ?_)
     refine zc7 (k:=4) rfl (fun hd5 he1 => ?_)
     subst he1
     refine zed (k:=9) rfl (zaa [7,8] kr rfl) rfl (zkn (nest:=za1) (zs:=zs1) (z:=((⟨x1.At,c1,(-1),([]:List Int),([]:List Int)⟩:zaC),(Hd.nil,Hd.nil)))) ?_
     refine zed (k:=4) rfl (zaa [9] kr rfl) rfl (zgU (enc:=zbo) (nest:=za1) (zsp hz1)) ?_
     refine zb6 (L':=[cells b1 [.string s1] 9,cells b5 [.map (some b4)] 142,zgX (fun n:Int=>Value.int .i32 n) (fun p:zaz=>Value.agg #[.int .i32 p.e0,.int .i32 p.e1]) b4 r1.2,cells b6 [hd4.v] 97,zba zbo za1 140 5 hd5.v (l4++[(⟨x1.At,c1,(-1),([]:List Int),([]:List Int)⟩:zaC)]),cells jb1 (zr1 x1) 47,cells b9 [zI x1.At,.int .u8 c1,.int .i32 (-1),.slice none 0 0,.slice none 0 0] 140]) (zaa [0,1,2,3,4,5,6] kr rfl) ?_
     refine zaG (k:=3) (l':=[hd5.v]) zud rfl rfl rfl rfl rfl (fun _ _=>rfl) rfl ?_
     refine zyN (zcy (zaV (zbh ?_)))
     exact zcj (l4++[(⟨x1.At,c1,(-1),([]:List Int),([]:List Int)⟩:zaC)],hd5) (fun post2 e2=>by have e9:=zcI hxs1 e2; subst e9; subst hag1; exact h) (zaa [0,1,2,3,4] kr rfl)
    refine zax (zag ?_)
    obtain ⟨j2,hj2,h⟩:=zcC h
    refine zbF (β:=Unit) 0 rfl (fun b=>j2=some r) (fun b=>[]) (fun b=>[(1,zP b1),(2,.slice none 0 0),(4,zP b5),(5,zP b6),(6,zP jb1),(17,.func (.func 50) #[] #[zP b7])]) (fun b=>[cells b1 [.string s1] 9,cells b5 [.map (some b4)] 142,zgX (fun n:Int=>Value.int .i32 n) (fun p:zaz=>Value.agg #[.int .i32 p.e0,.int .i32 p.e1]) b4 r1.2,cells b6 [hd4.v] 97,zba zbo za1 140 5 hd4.v l4,cells jb1 (zr1 x1) 47]) (fun cut => ?_) ?_
    ·
     refine cut (zyG (zat (k:=3) znj rfl dc rfl rfl rfl (zjB (k:=4) rfl dc rfl rfl underlying97 (zyR 1 rfl (zyH (zyR 1 rfl (zbn rfl zeP (zyR 1 rfl ?_))))))))
     refine zyS (s:=35) rfl h (fun h => ?_) (fun h => ?_)
     ·
      refine zat (k:=3) znj rfl dc rfl rfl rfl (zyR 1 rfl ?_)
      obtain ⟨hg2,h⟩:=zcU h
      refine zbn rfl (zfO (r:=(l4.length:Int) - 1) (IntWalk.i64_in _ hg2)) ?_
      refine zc5 (k:=4) rfl zi0 (fun zs2 hz2 => ?_)
      obtain ⟨x2,hq5,h⟩:=zcp h
      obtain ⟨⟨eh1,eh2⟩,eq1⟩:=zgw hz2 hq5
      refine zdD (k:=4) eq1 underlying97 zml rfl dc rfl rfl rfl rfl (zgq (i:=((l4.length:Int) - 1:Int).toNat) (j:=0) (k:=4) (q:=(x2,(eh1,eh2))) (cs:=[zI x2.at_,.int .u8 x2.broken,.int .i32 x2.base,eh1.v,eh2.v]) zlj zbQ rfl dc rfl rfl (zca eq1) rfl rfl rfl ?_)
      refine zc5 (k:=6) rfl (znl (zca eq1)) (fun _ _ => ?_)
      obtain ⟨r3,hq6,h⟩:=zcp h
      refine zjb (v:=.bool r3) (vs:=[.agg #[zI x2.at_,.int .u8 x2.broken,.int .i32 x2.base,eh1.v,eh2.v]]) rfl dc rfl rfl rfl ztm (zfh (u1:=x2) (u1_h0:=eh1) (u1_h1:=eh2) hq6) [7,8] kr rfl (zyR 2 rfl ?_)
      refine zyS (s:=43) rfl h (fun h => ?_) (fun h => ?_)
      ·
       refine zac zfN rfl dc rfl (show _=2 from rfl) (zat (k:=5) zfq rfl dc rfl rfl rfl ?_)
       obtain ⟨hg3,h⟩:=zcU h
       refine zbv (v:=zI (kind x1.Rune)) (vs:=[.int .i32 x1.Rune]) rfl dc rfl rfl rfl ztl (zhg fun w=>zi2 x1.Rune w hg3.1 hg3.2) ?_
       refine zbn rfl zaP (zyR 1 rfl (zyN ?_))
       refine zyB rfl h (fun h => ?_) (fun h => ?_)
       ·
        refine zar (zme (k:=6) rfl (zaa [7,8] kr rfl) rfl (zlN (nest:=za1) (zca eq1) rfl) ?_)
        obtain ⟨hg4,h⟩:=zcU h
        obtain ⟨x3,hq7,h⟩:=zcp h
        obtain ⟨⟨eh3,eh4⟩,eq2⟩:=zgw hz2 hq7
        obtain ⟨r4,hq8,h⟩:=zcp h
        refine zbW 6 [(0,49,hd4.v),(1,50,zI (l4.length:Int)),(2,51,zI ((l4.length:Int) - 1)),(3,52,.pointer (some ⟨zgc hd4.v,((l4.length:Int) - 1:Int).toNat*5,none⟩)),(4,53,.pointer (some ⟨jb1,2,none⟩)),(5,54,.int .i32 x1.Rune)] mixed kr kr dc (by rfl) kr kr (zae ?_ (zyP 1 1 rfl (zae ?_ (zae ?_ (zae ?_ (zae ?_ DrawPre.nil)))))) ?_
        · exact fun D n d c u i=>zat (k:=3) znj rfl dc (za3 (by rfl) rfl) rfl rfl (zaI 0 u i)
        · exact fun D n d c u i=>zaX rfl dc (zaH 1 u d) rfl (zfO (r:=(l4.length:Int) - 1) (IntWalk.i64_in _ hg4)) (zaI 2 u i)
        · exact fun D n d c u i=>zdD (k:=4) eq2 underlying97 zml rfl dc (zaH 0 u d) (zaH 2 u d) rfl rfl (zaI 3 u i)
        · exact fun D n d c u i=>zac zfN rfl dc (za3 (by rfl) rfl) (show _=2 from rfl) (zaI 4 u i)
        · exact fun D n d c u i=>zat (k:=5) zfq rfl dc (zaH 4 u d) rfl rfl (zaI 5 u i)
        refine zc5 (k:=6) rfl (znl (zca eq2)) (fun _ _ => ?_)
        refine zdE (vs:=[.pointer (some ⟨zgc hd4.v,((l4.length:Int) - 1:Int).toNat*5,none⟩),.int .i32 x1.Rune]) rfl dc rfl rfl rfl zuJ (zgQ (vu1:=hd4.v) (u1:=x3) (u1_h0:=eh3) (u1_h1:=eh4) (zca eq2) hq8) (zaa [4,9,10] kr rfl) ?_
        rintro ⟨hd6,hd7⟩
        refine zb6 (L':=[cells b1 [.string s1] 9,cells b5 [.map (some b4)] 142,zgX (fun n:Int=>Value.int .i32 n) (fun p:zaz=>Value.agg #[.int .i32 p.e0,.int .i32 p.e1]) b4 r1.2,cells b6 [hd4.v] 97,zv7 hd4.v (zs2.set (((l4.length:Int) - 1:Int).toNat) (r4,(hd6,hd7))),cells jb1 (zr1 x1) 47,own za1 (zs2.eraseIdx (((l4.length:Int) - 1:Int).toNat)),emp,emp,emp,emp,zv5 hd6.v r4.low,zv5 hd7.v r4.high]) (zaa [0,1,2,3,11,5,6,7,8,9,10,12,13] kr rfl) ?_
        refine zed (k:=6) rfl (zaa [11,12] kr rfl) rfl (zlN (nest:=za1) (zs:=zs2) (z:=(r4,(hd6,hd7))) (zke (zca eq2)) zmp) ?_
        refine zb6 (L':=[cells b1 [.string s1] 9,cells b5 [.map (some b4)] 142,zgX (fun n:Int=>Value.int .i32 n) (fun p:zaz=>Value.agg #[.int .i32 p.e0,.int .i32 p.e1]) b4 r1.2,cells b6 [hd4.v] 97,zv7 hd4.v (zs2.set (((l4.length:Int) - 1:Int).toNat) (r4,(hd6,hd7))),cells jb1 (zr1 x1) 47,own za1 (zs2.set (((l4.length:Int) - 1:Int).toNat) (r4,(hd6,hd7))),emp,emp]) (zaa [0,1,2,3,4,5,6,7,8] kr rfl) ?_
        refine zyN (zcy (zaV (zbh (zfT (k:=4) rfl (zaa [6] kr rfl) rfl (zgU (enc:=zbo) (nest:=za1) (zwM hz2)) ?_))))
        exact zcj (l4.set ((l4.length:Int) - 1:Int).toNat r4,hd4) (fun post2 e2=>by have e9:=zcI hxs1 e2; subst e9; subst hag1; exact h) (zaa [0,1,2,3,4] kr rfl)
       refine zax (zfT (k:=6) rfl (zaa [7,8] kr rfl) rfl (zlN (nest:=za1) (zca eq1) rfl) ?_)
       refine zfT (k:=4) rfl (zaa [6] kr rfl) rfl (zgU (enc:=zbo) (nest:=za1) hz2) ?_
       exact zaB () h rfl (zbK rfl) (zaa [0,1,2,3,4,5] kr rfl)
      refine zyR 5 rfl (zyN (zaS rfl (zax (zfT (k:=6) rfl (zaa [7,8] kr rfl) rfl (zlN (nest:=za1) (zca eq1) rfl) ?_))))
      refine zfT (k:=4) rfl (zaa [6] kr rfl) rfl (zgU (enc:=zbo) (nest:=za1) hz2) ?_
      exact zaB () h rfl (zbK rfl) (zaa [0,1,2,3,4,5] kr rfl)
     refine zyR 13 rfl (zap ?_)
     refine zag (zaS rfl (zax ?_))
     exact zaB () h rfl (zbK rfl) (zaa [0,1,2,3,4,5] kr rfl)
    rintro _ h
    rw [hj2] at h
    obtain ⟨j3,hj3,h⟩:=zcC h
    refine zbF (β:=Int×Int×Int×(List Int)×(List Int)×Nat×Hd×Hd) 1 rfl (fun b=>j3 b.1 b.2.1 b.2.2.1 b.2.2.2.1 b.2.2.2.2.1=some r) (fun b=>[]) (fun b=>[(1,zP b1),(2,.slice none 0 0),(4,zP b5),(5,zP b6),(8,zP b.2.2.2.2.2.1),(17,.func (.func 50) #[] #[zP b7])]) (fun b=>[cells b1 [.string s1] 9,cells b5 [.map (some b4)] 142,zgX (fun n:Int=>Value.int .i32 n) (fun p:zaz=>Value.agg #[.int .i32 p.e0,.int .i32 p.e1]) b4 r1.2,cells b6 [hd4.v] 97,zba zbo za1 140 5 hd4.v l4,cells b.2.2.2.2.2.1 [zI b.1,.int .u8 b.2.1,.int .i32 b.2.2.1,b.2.2.2.2.2.2.1.v,b.2.2.2.2.2.2.2.v] 140,zv5 b.2.2.2.2.2.2.1.v b.2.2.2.1,zv5 b.2.2.2.2.2.2.2.v b.2.2.2.2.1]) (fun cut => ?_) ?_
    ·
     refine zyG (zac zeo rfl dc rfl (show _=0 from rfl) (zat (k:=5) zdk rfl dc rfl rfl rfl (zac zfN rfl dc rfl (show _=2 from rfl) (zat (k:=5) zfq rfl dc rfl rfl rfl ?_))))
     refine zbB (v:=.agg #[zI x1.At,.int .u8 0,.int .i32 x1.Rune,.slice none 0 0,.slice none 0 0]) (ps:=[(0,.tmp 57),(2,.tmp 59)]) rfl dc rfl (fun _=>by kernel_rfl) ?_
     refine za6 zrG rfl dc (fun b11 => ?_)
     refine za2 (k:=6) (vs:=[zI x1.At,.int .u8 0,.int .i32 x1.Rune,.slice none 0 0,.slice none 0 0]) (l':=[zI x1.At,.int .u8 0,.int .i32 x1.Rune,.slice none 0 0,.slice none 0 0]) zml rfl rfl rfl rfl rfl (show _≤_ by simp) rfl rfl ?_
     refine zyN (cut (zyG (zaZ (k:=6) (cs:=[zI x1.At,.int .u8 0,.int .i32 x1.Rune,.slice none 0 0,.slice none 0 0]) zlj rfl dc rfl rfl rfl rfl (zf1 (enc:=(zfH (.i32))) (e:=21) (size:=1) ?_))))
     refine zf1 (enc:=(zfH (.i32))) (e:=21) (size:=1) ?_
     obtain ⟨r5,hq9,h⟩:=zcp h
     refine zjb (v:=.bool r5) (vs:=[.agg #[zI x1.At,.int .u8 0,.int .i32 x1.Rune,.slice none 0 0,.slice none 0 0]]) rfl dc rfl rfl rfl ztm (zfh (u1:=(⟨x1.At,0,x1.Rune,([]:List Int),([]:List Int)⟩:zaC)) (u1_h0:=Hd.nil) (u1_h1:=Hd.nil) hq9) [7,8] kr rfl (zyN ?_)
     refine zyB rfl h (fun h => ?_) (fun h => ?_)
     ·
      refine zyG (zat (k:=1) zn4 rfl dc rfl rfl rfl (zac zfN rfl dc rfl (show _=2 from rfl) (zat (k:=5) zfq rfl dc rfl rfl rfl ?_)))
      obtain ⟨r6,hq10,h⟩:=zcp h
      refine zdE (vs:=[.map (some b4),.int .i32 x1.Rune]) rfl dc rfl rfl rfl zuI (zk3 hq10) (zaa [2] kr rfl) ?_
      rintro v2
      refine zb6 (L':=[cells b1 [.string s1] 9,cells b5 [.map (some b4)] 142,zgX (fun n:Int=>Value.int .i32 n) (fun p:zaz=>Value.agg #[.int .i32 p.e0,.int .i32 p.e1]) b4 r1.2,cells b6 [hd4.v] 97,zba zbo za1 140 5 hd4.v l4,cells jb1 (zr1 x1) 47,cells b11 [zI x1.At,.int .u8 0,.int .i32 x1.Rune,.slice none 0 0,.slice none 0 0] 140,zv5 (.slice none 0 0) ([]:List Int),zv5 (.slice none 0 0) ([]:List Int),zv5 v2 r6]) (zaa [0,1,9,3,4,5,6,7,8,10] kr rfl) ?_
      refine zc7 (k:=9) rfl (fun hd10 he2 => ?_)
      subst he2
      refine zyR 1 rfl (zyH (zyR 1 rfl ?_))
      obtain ⟨q1,hq11,h⟩:=zcp h
      refine zdD (k:=9) hq11 underlying138 zkb rfl dc rfl rfl rfl rfl (zdo (i:=(0:Int).toNat) (j:=0) (k:=9) (q:=q1) zfq zci rfl dc rfl rfl (zca hq11) rfl dc rfl (zac zh2 rfl dc rfl (show _=2 from rfl) ?_))
      refine zaG (k:=6) (l':=[zI x1.At,.int .u8 0,.int .i32 q1,.slice none 0 0,.slice none 0 0]) zkb rfl rfl rfl rfl rfl (fun _ _=>rfl) rfl ?_
      refine zyH (zyR 1 rfl ?_)
      refine zd5 (k:=9) rfl (fun hw1 => ?_)
      obtain ⟨hg5,h⟩:=zcU h
      obtain ⟨v3,hv1,hs1⟩:=zqK (lo:=some (zI 1)) (hi:=none) hw1 underlying138 zkb (.inr rfl) (.inl ⟨rfl,rfl⟩) hg5
      refine zeG rfl dc rfl rfl rfl hs1 (zfe hv1 rfl dc rfl underlying138 (zyR 1 rfl (zyN (zaK (zfd (enc:=(zfH (.i32))) (e:=21) (size:=1) ?_)))))
      refine zfd (enc:=(zfH (.i32))) (e:=21) (size:=1) ?_
      refine zdy (β:=Nat×Int×Int×Int×(List Int)×(List Int)×Int×Hd×Hd) (fun b=>zbq (fun _ _ _ _ _ _=>none) (zdx j3 r6) b.1 b.2.1 b.2.2.1 b.2.2.2.1 b.2.2.2.2.1 b.2.2.2.2.2.1 b.2.2.2.2.2.2.1=some r) (fun b=>[]) (fun b=>[(1,zP b1),(2,.slice none 0 0),(4,zP b5),(5,zP b6),(8,zP b11),(17,.func (.func 50) #[] #[zP b7]),(72,v3),(73,zI ((zp9 r6 1 (r6.length:Int)).length:Int)),(74,zI b.2.2.2.2.2.2.1)]) (fun b=>[cells b1 [.string s1] 9,cells b5 [.map (some b4)] 142,zgX (fun n:Int=>Value.int .i32 n) (fun p:zaz=>Value.agg #[.int .i32 p.e0,.int .i32 p.e1]) b4 r1.2,cells b6 [hd4.v] 97,zba zbo za1 140 5 hd4.v l4,cells b11 [zI b.2.1,.int .u8 b.2.2.1,.int .i32 b.2.2.2.1,b.2.2.2.2.2.2.2.1.v,b.2.2.2.2.2.2.2.2.v] 140,zv5 b.2.2.2.2.2.2.2.1.v b.2.2.2.2.1,zv5 b.2.2.2.2.2.2.2.2.v b.2.2.2.2.2.1,zv5 hd10.v r6]) (fun b=>b.1) (zc9,x1.At,0,q1,([]:List Int),([]:List Int),0,Hd.nil,Hd.nil) h rfl (zbK rfl) (zaa [0,1,2,3,4,6,10,11,9] kr rfl) ?_
      rintro ⟨n1,u23,u24,u25,u26,u27,x6,hd16,hd17⟩ h
      cases n1 with
      | zero=>exact zfG h
      | succ n1 =>
       obtain ⟨ag2,hag2⟩:∃ ag,ag=zbq (fun _ _ _ _ _ _=>none) (zdx j3 r6) n1:=⟨_,rfl⟩
       have h:zdx j3 r6 ag2 u23 u24 u25 u26 u27 x6=some r:=by rw [hag2]; exact h
       unfold zdx at h
       refine zyG (zbn rfl zb4 (zyN (zar ?_)))
       refine zyB rfl h (fun h => ?_) (fun h => ?_)
       ·
        refine zax (zag (zar (zaK (zyG ?_))))
        obtain ⟨q2,hq12,h⟩:=zcp h
        refine zcF hv1 hq12 underlying138 zkb rfl dc rfl rfl rfl (zdo (i:=0+(1:Int).toNat+(x6:Int).toNat) (j:=0) (k:=8) (q:=q2) zfq zci rfl dc rfl rfl (Vw.get hv1 hq12) rfl dc rfl (zyR 1 rfl (zyN (zad (zyR 1 rfl (zmb (enc:=zbo) [((⟨u23,u24,u25,u26,u27⟩:zaC),(hd16,hd17))] (k:=5) rfl zbQ rfl (show 1≤maxLen by decide) ?_))))))
        obtain ⟨r7,hq13,h⟩:=zcp h
        refine zdE (vs:=[zP b11,.int .i32 q2]) rfl dc rfl rfl rfl zuJ (zgQ (vu1:=(.slice (some ⟨b11,0,none⟩) 1 1)) (u1:=(⟨u23,u24,u25,u26,u27⟩:zaC)) (u1_h0:=hd16) (u1_h1:=hd17) (show [((⟨u23,u24,u25,u26,u27⟩:zaC),(hd16,hd17))][0]?=some ((⟨u23,u24,u25,u26,u27⟩:zaC),(hd16,hd17)) from rfl) hq13) (zaa [5,6,7] kr rfl) ?_
        rintro ⟨hd18,hd19⟩
        refine zb6 (L':=[cells b1 [.string s1] 9,cells b5 [.map (some b4)] 142,zgX (fun n:Int=>Value.int .i32 n) (fun p:zaz=>Value.agg #[.int .i32 p.e0,.int .i32 p.e1]) b4 r1.2,cells b6 [hd4.v] 97,zba zbo za1 140 5 hd4.v l4,zv7 (.slice (some ⟨b11,0,none⟩) 1 1) [(r7,(hd18,hd19))],emp,emp,zv5 hd10.v r6,zv5 hd18.v r7.low,zv5 hd19.v r7.high]) (zaa [0,1,2,3,4,9,6,7,8,10,11] kr rfl) ?_
        refine zu8 (k:=5) rfl (zw7 zbQ) ?_
        refine zap (zah (zag (zad ?_)))
        obtain ⟨hg6,h⟩:=zcU h
        refine zbn rfl (zbs (r:=x6+1) (IntWalk.i64_in _ hg6)) (zyR 1 rfl (zap ?_))
        subst hag2
        exact zcM (n1,r7.at_,r7.broken,r7.base,r7.low,r7.high,x6+1,hd18,hd19) h (Nat.lt_succ_self _) rfl (zbK rfl) (zaa [0,1,2,3,4,5,9,10,8] kr rfl)
       refine zcy (zaV (zaV (zbh ?_)))
       exact zaB (u23,u24,u25,u26,u27,b11,hd16,hd17) h rfl (zbK rfl) (zaa [0,1,2,3,4,5,6,7] kr rfl)
     refine zax (zm2 (enc:=(zfH (.i32))) (e:=21) (size:=1) ?_)
     refine zm2 (enc:=(zfH (.i32))) (e:=21) (size:=1) ?_
     exact zaB (x1.At,0,x1.Rune,([]:List Int),([]:List Int),b11,Hd.nil,Hd.nil) h rfl (zbK rfl) (zaa [0,1,2,3,4,6,9,10] kr rfl)
    rintro ⟨u1,u2,u3,u4,u5,b10,hd8,hd9⟩ h
    rw [hj3] at h
    refine zad (zat (k:=3) znj rfl dc rfl rfl rfl (zaZ (k:=5) (cs:=[zI u1,.int .u8 u2,.int .i32 u3,hd8.v,hd9.v]) zlj rfl dc rfl rfl rfl rfl ?_))
    refine zby (cs:=[zI u1,.int .u8 u2,.int .i32 u3,hd8.v,hd9.v]) (te:=140) (ps:=[(0,.tmp 82)]) rfl dc rfl (fun _=>by kernel_rfl) (fun b12 => ?_)
    refine zc5 (k:=4) rfl zi0 (fun zs3 hz3 => ?_)
    obtain ⟨hg7,h⟩:=zcU h
    refine zbR (k:=4) (k2:=8) (ys:=[((⟨u1,u2,u3,u4,u5⟩:zaC),(hd8,hd9))]) underlying97 zr9 zbQ zgn rfl dc rfl rfl rfl rfl rfl rfl (by rw [zqB hz3]; exact hg7) (fun v4 => ?_)
    refine zc7 (k:=4) rfl (fun hd20 he3 => ?_)
    subst he3
    refine zed (k:=9) rfl (zaa [6,7] kr rfl) rfl (zkn (nest:=za1) (zs:=zs3) (z:=((⟨u1,u2,u3,u4,u5⟩:zaC),(hd8,hd9)))) ?_
    refine zed (k:=4) rfl (zaa [9] kr rfl) rfl (zgU (enc:=zbo) (nest:=za1) (zsp hz3)) ?_
    refine zb6 (L':=[cells b1 [.string s1] 9,cells b5 [.map (some b4)] 142,zgX (fun n:Int=>Value.int .i32 n) (fun p:zaz=>Value.agg #[.int .i32 p.e0,.int .i32 p.e1]) b4 r1.2,cells b6 [hd4.v] 97,zba zbo za1 140 5 hd20.v (l4++[(⟨u1,u2,u3,u4,u5⟩:zaC)]),cells b10 [zI u1,.int .u8 u2,.int .i32 u3,hd8.v,hd9.v] 140,emp,emp,cells b12 [zI u1,.int .u8 u2,.int .i32 u3,hd8.v,hd9.v] 140]) (zaa [0,1,2,3,4,5,6,7,8] kr rfl) ?_
    refine zaG (k:=3) (l':=[hd20.v]) zud rfl rfl rfl rfl rfl (fun _ _=>rfl) rfl ?_
    refine zap (zah ?_)
    exact zcj (l4++[(⟨u1,u2,u3,u4,u5⟩:zaC)],hd20) (fun post2 e2=>by have e9:=zcI hxs1 e2; subst e9; subst hag1; exact h) (zaa [0,1,2,3,4] kr rfl)
   ·
    rintro dm1 ⟨l4,hd4⟩ hinv
    have h:dn1 l4=some r:=hinv [] (List.append_nil _).symm
    rw [hdn1] at h
    show TX _ _ _ _ _ _ _ [zc0 ((([]:List Nat):List Nat).map zcu),emp,zgX (fun p:zaz=>Value.agg #[.int .i32 p.e0,.int .i32 p.e1]) (fun n:Int=>Value.int .i32 n) b3 r1.1,emp,emp,emp,cells b7 [.string r2] 9,emp,cells b1 [.string s1] 9,cells b5 [.map (some b4)] 142,zgX (fun n:Int=>Value.int .i32 n) (fun p:zaz=>Value.agg #[.int .i32 p.e0,.int .i32 p.e1]) b4 r1.2,cells b6 [hd4.v] 97,zba zbo za1 140 5 hd4.v l4,zcu dm1]
    refine zds (k:=13) (j:=0) rfl rfl dc ?_
    refine zah ?_
    exact zaB (l4,b6,hd4,dm1::([]:List Nat)) h rfl (zbK rfl) (zaa [11,12,0] kr rfl)
   rintro dm1 c pre x1 post g hxs hX
   exact (show False from hX).elim
  rintro ⟨l1,b2,hd1,ds1⟩ h
  rw [hj1] at h
  refine zyG (zat (k:=0) znj rfl dc rfl rfl rfl (zyR 1 rfl (zyN (zaE (zfC (by simp) ?_)))))
  cases h
  exact zcE (rs:=[.tmp 2]) ds1 hd1.v (.inl rfl) (zaT (k:=2) rfl) results34 (.cons (.tmp rfl) .nil) rfl (zaa [1] kr rfl)
 exact fun b hb=>hb.elim
def zcL (l1:List zaC) (j1:zBA→Option zBA) (ag1:zBA→Int→Option zBA) (b4:zBA) (x3:Int):Option zBA := zaL (decide ((x3:Int)<(l1.length:Int))) ( zcd (fun (j2:zBA→Option zBA) => zaA (zeD l1 x3) fun (x4:zaC) => zaL (decide ((x4.base:Int)<0)) ( grd (b4.size+1≤140737488355328) <| grd (∀ x∈([x4.broken]:List Int),U8 x) <| j2 (b4++(zgp [x4.broken]))
) ( zaA (zfo x4) fun (r1:zBA) => grd (b4.size+r1.size≤140737488355328) <| j2 (b4++r1)
)
) (fun (b5:zBA) => grd (I64 (x3+1)) <| ag1 b5 (x3+1)
)
) ( j1 b4
)
def zdK (l1:List zaC):Option zBA := zcd (fun (j1:zBA→Option zBA) => zbq (fun _ _=>none) (zcL l1 j1) zc9 ByteArray.empty 0
) (fun (b1:zBA) => some b1
)
theorem zhL {vvl1 vl1:Value} {Zl1:List (zaC×Hd×Hd)} {kl1:Nat} {zl1:List (zaC×Hd×Hd)} {l1:List zaC} (hwl1:Vw vvl1 Zl1 5 kl1 vl1 zl1) (hzl1:zl1.map Prod.fst=l1) {r:zBA} (h:zdK l1=some r):Fn prog 33 [vl1,.func (.func 35) #[] #[]] [zv7 vvl1 Zl1,own za1 Zl1] (fun _b:Unit=>.string r) (fun _b=>[zv7 vvl1 Zl1,own za1 Zl1]):=by
 unfold zdK at h
 refine Fn.intro func33 rfl ntmps33 (by simp) ?_
 intro w0 K
 obtain ⟨j1,hj1,h⟩:=zcC h
 refine zbF (β:=zBA×Value) 2 rfl (fun b=>j1 b.1=some r) (fun b=>[]) (fun b=>[(5,b.2)]) (fun b=>[zv7 vvl1 Zl1,own za1 Zl1,byt 5 b.2 b.1]) (fun cut => ?_) ?_
 ·
  refine zyG (zyR 1 rfl (zyH (zyR 1 rfl (zyN (cut (zyG (zyR 1 rfl ?_)))))))
  refine zm5 hzl1 hwl1 rfl dc rfl underlying97 (zyR 1 rfl (zyN (zaK (zqt (e:=5) ?_))))
  refine zdy (β:=Nat×zBA×Int×Value) (fun b=>zbq (fun _ _=>none) (zcL l1 j1) b.1 b.2.1 b.2.2.1=some r) (fun b=>[]) (fun b=>[(1,.func (.func 35) #[] #[]),(5,b.2.2.2),(8,vl1),(9,zI (l1.length:Int)),(10,zI b.2.2.1)]) (fun b=>[zv7 vvl1 Zl1,own za1 Zl1,byt 5 b.2.2.2 b.2.1]) (fun b=>b.1) (zc9,ByteArray.empty,0,(.slice none 0 0)) h rfl (zbK rfl) (zaa [0,1,2] kr rfl) ?_
  rintro ⟨n1,b4,x3,v4⟩ h
  cases n1 with
  | zero=>exact zfG h
  | succ n1 =>
   obtain ⟨ag1,hag1⟩:∃ ag,ag=zbq (fun _ _=>none) (zcL l1 j1) n1:=⟨_,rfl⟩
   have h:zcL l1 j1 ag1 b4 x3=some r:=by rw [hag1]; exact h
   unfold zcL at h
   refine zyG (zbn rfl zb4 (zyN (zar ?_)))
   refine zyB rfl h (fun h => ?_) (fun h => ?_)
   ·
    refine zax (zag ?_)
    obtain ⟨j2,hj2,h⟩:=zcC h
    refine zbF (β:=zBA×Value) 0 rfl (fun b=>j2 b.1=some r) (fun b=>[]) (fun b=>[(1,.func (.func 35) #[] #[]),(5,b.2),(8,vl1),(9,zI (l1.length:Int)),(10,zI x3)]) (fun b=>[zv7 vvl1 Zl1,own za1 Zl1,byt 5 b.2 b.1]) (fun cut => ?_) ?_
    ·
     refine cut (zaK (zyG ?_))
     obtain ⟨x4,hq1,h⟩:=zcp h
     obtain ⟨⟨eh1,eh2⟩,eq1⟩:=zgw hzl1 hq1
     refine zcF hwl1 eq1 underlying97 zml rfl dc rfl rfl rfl (zgq (i:=kl1+(x3:Int).toNat) (j:=0) (k:=0) (q:=(x4,(eh1,eh2))) (cs:=[zI x4.at_,.int .u8 x4.broken,.int .i32 x4.base,eh1.v,eh2.v]) zlj zbQ rfl dc rfl rfl (Vw.get hwl1 eq1) rfl rfl rfl ?_)
     refine za6 zrG rfl dc (fun b6 => ?_)
     refine za2 (k:=3) (vs:=[zI x4.at_,.int .u8 x4.broken,.int .i32 x4.base,eh1.v,eh2.v]) (l':=[zI x4.at_,.int .u8 x4.broken,.int .i32 x4.base,eh1.v,eh2.v]) zml rfl rfl rfl rfl rfl (show _≤_ by simp) rfl rfl ?_
     refine zyH (zac zh2 rfl dc rfl (show _=2 from rfl) (zat (k:=3) zfq rfl dc rfl rfl rfl (zbn rfl zb4 (zyN ?_))))
     refine zyB rfl h (fun h => ?_) (fun h => ?_)
     ·
      refine zad (zyR 1 rfl (zac zrb rfl dc rfl (show _=1 from rfl) (zat (k:=3) zw0 rfl dc rfl rfl rfl ?_)))
      refine zby (cs:=[.int .u8 x4.broken]) (te:=5) (ps:=[(0,.tmp 19)]) rfl dc rfl (fun _=>by kernel_rfl) (fun b7 => ?_)
      obtain ⟨hg1,h⟩:=zcU h
      obtain ⟨hg2,h⟩:=zcU h
      refine zm8 (k:=2) (k2:=4) (ys:=(zgp [x4.broken])) underlying137 zwR rfl dc rfl rfl rfl rfl (zni hg2) rfl hg1 (fun v6 => ?_)
      refine zyR 1 rfl (zap (zah ?_))
      exact zaB (b4++(zgp [x4.broken]),v6) h rfl (zbK rfl) (zaa [0,1,2] kr rfl)
     refine zad (zyR 2 rfl (zaZ (k:=3) (cs:=[zI x4.at_,.int .u8 x4.broken,.int .i32 x4.base,eh1.v,eh2.v]) zlj rfl dc rfl rfl rfl rfl ?_))
     refine zc5 (k:=1) rfl (znl (Vw.get hwl1 eq1)) (fun _ _ => ?_)
     obtain ⟨r1,hq2,h⟩:=zcp h
     refine zjb (v:=.string r1) (vs:=[.agg #[zI x4.at_,.int .u8 x4.broken,.int .i32 x4.base,eh1.v,eh2.v]]) rfl dc rfl rfl rfl zwq (zlR (u1:=x4) (u1_h0:=eh1) (u1_h1:=eh2) hq2) [4,5] kr rfl ?_
     obtain ⟨hg3,h⟩:=zcU h
     refine zm6 (k:=2) underlying137 underlying9 zwR rfl dc rfl rfl rfl hg3 (fun v7 => ?_)
     refine zyR 1 rfl (zap (zah (zfT (k:=1) rfl (zaa [4,5] kr rfl) rfl (zlN (nest:=za1) (Vw.get hwl1 eq1) rfl) ?_)))
     exact zaB (b4++r1,v7) h rfl (zbK rfl) (zaa [0,1,2] kr rfl)
    rintro ⟨b5,v5⟩ h
    rw [hj2] at h
    refine zad ?_
    obtain ⟨hg4,h⟩:=zcU h
    refine zbn rfl (zbs (r:=x3+1) (IntWalk.i64_in _ hg4)) (zyR 1 rfl (zap ?_))
    subst hag1
    exact zcM (n1,b5,x3+1,v5) h (Nat.lt_succ_self _) rfl (zbK rfl) (zaa [0,1,2] kr rfl)
   refine zcy (zaV (zaV (zbh ?_)))
   exact zaB (b4,v4) h rfl (zbK rfl) (zaa [0,1,2] kr rfl)
 rintro ⟨b1,v1⟩ h
 rw [hj1] at h
 refine zyG (zyR 1 rfl (zqs (k:=2) rfl dc rfl rfl underlying137 underlying5 underlying9 (zyR 1 rfl (zyN (zaE ?_)))))
 cases h
 exact zbA (rs:=[.tmp 4]) () (.inl rfl) results33 (.cons (.tmp rfl) .nil) rfl (zaa [0,1] kr rfl)
def zfM (s1:zBA):Option zBA := zaA (zfn s1) fun (r1:(List zaC)) => zaA (zdK r1) fun (r2:zBA) => some r2
theorem zhN {s1:zBA} {r:zBA} (h:zfM s1=some r):FnP prog 15 [.string s1] (.string r):=by
 unfold zfM at h
 refine FnP.intro func15 rfl ntmps15 (by simp) ?_
 intro w0 K
 refine zyG (zyR 1 rfl (zyH (zyR 1 rfl ?_)))
 obtain ⟨r1,hq1,h⟩:=zcp h
 refine zdE (vs:=[.string s1]) rfl dc rfl rfl rfl zwr (zlQ hq1) Splits.nil ?_
 rintro v1
 refine zo1 (k:=0) rfl (fun hd1 he1 => ?_)
 subst he1
 refine zc5 (k:=0) rfl zi0 (fun zs1 hz1 => ?_)
 refine zd5 (k:=0) rfl (fun hw1 => ?_)
 obtain ⟨r2,hq2,h⟩:=zcp h
 refine zjb (v:=.string r2) (vs:=[hd1.v,.func (.func 35) #[] #[]]) rfl dc rfl rfl rfl zws (zhL hw1 hz1 hq2) [0,1] kr rfl (zyR 1 rfl (zyN (zaE ?_)))
 cases h
 exact zbN 2 results15
end Go.Proofs.YtdnalnmahlakkaaGreatDoor
