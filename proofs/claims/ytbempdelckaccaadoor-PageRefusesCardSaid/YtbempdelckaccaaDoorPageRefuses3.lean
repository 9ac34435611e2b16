/-
  Texts laid together: LqA, Ca, LqP, LqQ, PqA, PqB, LqS, LqR, LqZ, PqC, PqD, PqE, LqE, LqB, Cb, LqG. Nothing is assumed.
-/
import Derived.Test.YtbempdelckaccaaDoorPageRefuses1
import Derived.Test.YtbempdelckaccaaDoorPageRefuses2
set_option maxRecDepth 100000
set_option maxHeartbeats 4000000
namespace Go.Proofs.YtbempdelckaccaaDoor
abbrev zI (x : Int) : Value := .int .i64 x
abbrev zP (x : Nat) : Value := .pointer (some ⟨x, 0, none⟩)
end Go.Proofs.YtbempdelckaccaaDoor

namespace Go.Proofs.YtbempdelckaccaaDoor
open Go.RowKit Go.Lib
set_option linter.unusedVariables false
set_option linter.unusedSimpArgs false
theorem za1 {σ:List (Nat×Value)}:∀ {σ':List (Nat×Value)},σ'.map (fun p=>σ.lookup p.1)=σ'.map (fun p=>some p.2)→Sbs σ σ'
  | [],_=>zfy
  | (t,v)::σ',h=>zjP (List.cons.inj h).1 (za1 (List.cons.inj h).2)
theorem zdU {α:Type} {a0 a1:α} {l l':List α} (h:l=l'):a0::a1::l=a0::a1::l':=by rw [h]
theorem zbZ {α:Type} {a0 a1 a2:α} {l l':List α} (h:l=l'):a0::a1::a2::l=a0::a1::a2::l':=by rw [h]
theorem zdr {α:Type} {a0 a1 a2 a3:α} {l l':List α} (h:l=l'):a0::a1::a2::a3::l=a0::a1::a2::a3::l':=by rw [h]
theorem zlf {α:Type} {a0 a1 a2 a3 a4:α} {l l':List α} (h:l=l'):a0::a1::a2::a3::a4::l=a0::a1::a2::a3::a4::l':=by rw [h]
theorem zqR {α:Type} {a0 a1 a2 a3 a4 a5:α} {l l':List α} (h:l=l'):a0::a1::a2::a3::a4::a5::l=a0::a1::a2::a3::a4::a5::l':=by rw [h]
theorem zqF {α:Type} {a0 a1 a2 a3 a4 a5 a6:α} {l l':List α} (h:l=l'):a0::a1::a2::a3::a4::a5::a6::l=a0::a1::a2::a3::a4::a5::a6::l':=by rw [h]
theorem zsq {α:Type} {a0 a1 a2 a3 a4 a5 a6 a7:α} {l l':List α} (h:l=l'):a0::a1::a2::a3::a4::a5::a6::a7::l=a0::a1::a2::a3::a4::a5::a6::a7::l':=by rw [h]
theorem zsL {α:Type} {a0 a1 a2 a3 a4 a5 a6 a7 a8:α} {l l':List α} (h:l=l'):a0::a1::a2::a3::a4::a5::a6::a7::a8::l=a0::a1::a2::a3::a4::a5::a6::a7::a8::l':=by rw [h]
theorem zst {α:Type} {a0 a1 a2 a3 a4 a5 a6 a7 a8 a9:α} {l l':List α} (h:l=l'):a0::a1::a2::a3::a4::a5::a6::a7::a8::a9::l=a0::a1::a2::a3::a4::a5::a6::a7::a8::a9::l':=by rw [h]
theorem zss {α:Type} {a0 a1 a2 a3 a4 a5 a6 a7 a8 a9 a10:α} {l l':List α} (h:l=l'):a0::a1::a2::a3::a4::a5::a6::a7::a8::a9::a10::l=a0::a1::a2::a3::a4::a5::a6::a7::a8::a9::a10::l':=by rw [h]
theorem zsr {α:Type} {a0 a1 a2 a3 a4 a5 a6 a7 a8 a9 a10 a11:α} {l l':List α} (h:l=l'):a0::a1::a2::a3::a4::a5::a6::a7::a8::a9::a10::a11::l=a0::a1::a2::a3::a4::a5::a6::a7::a8::a9::a10::a11::l':=by rw [h]
theorem zqS {D:Nat→Prop} {i0 t0 i1 t1:Nat} {v0 v1:Value} {r r':List (Nat×Nat×Value)} (h:dl D r=dl D r'):dl D ((i0,t0,v0)::(i1,t1,v1)::r)=dl D ((i0,t0,v0)::(i1,t1,v1)::r'):=zak (fun _=>rfl) (zak (fun _=>rfl) h)
theorem zsf {D:Nat→Prop} {i0 t0 i1 t1 i2 t2:Nat} {v0 v1 v2:Value} {r r':List (Nat×Nat×Value)} (h:dl D r=dl D r'):dl D ((i0,t0,v0)::(i1,t1,v1)::(i2,t2,v2)::r)=dl D ((i0,t0,v0)::(i1,t1,v1)::(i2,t2,v2)::r'):=zak (fun _=>rfl) (zak (fun _=>rfl) (zak (fun _=>rfl) h))
theorem zsu {D:Nat→Prop} {i0 t0 i1 t1 i2 t2 i3 t3:Nat} {v0 v1 v2 v3:Value} {r r':List (Nat×Nat×Value)} (h:dl D r=dl D r'):dl D ((i0,t0,v0)::(i1,t1,v1)::(i2,t2,v2)::(i3,t3,v3)::r)=dl D ((i0,t0,v0)::(i1,t1,v1)::(i2,t2,v2)::(i3,t3,v3)::r'):=zak (fun _=>rfl) (zak (fun _=>rfl) (zak (fun _=>rfl) (zak (fun _=>rfl) h)))
theorem zkL {D:Nat→Prop} {i0 t0 i1 t1 i2 t2 i3 t3 i4 t4:Nat} {v0 v1 v2 v3 v4:Value} {r r':List (Nat×Nat×Value)} (h:dl D r=dl D r'):dl D ((i0,t0,v0)::(i1,t1,v1)::(i2,t2,v2)::(i3,t3,v3)::(i4,t4,v4)::r)=dl D ((i0,t0,v0)::(i1,t1,v1)::(i2,t2,v2)::(i3,t3,v3)::(i4,t4,v4)::r'):=zak (fun _=>rfl) (zak (fun _=>rfl) (zak (fun _=>rfl) (zak (fun _=>rfl) (zak (fun _=>rfl) h))))
theorem zpt {D:Nat→Prop} {i0 t0 i1 t1 i2 t2 i3 t3 i4 t4 i5 t5:Nat} {v0 v1 v2 v3 v4 v5:Value} {r r':List (Nat×Nat×Value)} (h:dl D r=dl D r'):dl D ((i0,t0,v0)::(i1,t1,v1)::(i2,t2,v2)::(i3,t3,v3)::(i4,t4,v4)::(i5,t5,v5)::r)=dl D ((i0,t0,v0)::(i1,t1,v1)::(i2,t2,v2)::(i3,t3,v3)::(i4,t4,v4)::(i5,t5,v5)::r'):=zak (fun _=>rfl) (zak (fun _=>rfl) (zak (fun _=>rfl) (zak (fun _=>rfl) (zak (fun _=>rfl) (zak (fun _=>rfl) h)))))
theorem zoU {D:Nat→Prop} {i0 t0 i1 t1 i2 t2 i3 t3 i4 t4 i5 t5 i6 t6:Nat} {v0 v1 v2 v3 v4 v5 v6:Value} {r r':List (Nat×Nat×Value)} (h:dl D r=dl D r'):dl D ((i0,t0,v0)::(i1,t1,v1)::(i2,t2,v2)::(i3,t3,v3)::(i4,t4,v4)::(i5,t5,v5)::(i6,t6,v6)::r)=dl D ((i0,t0,v0)::(i1,t1,v1)::(i2,t2,v2)::(i3,t3,v3)::(i4,t4,v4)::(i5,t5,v5)::(i6,t6,v6)::r'):=zak (fun _=>rfl) (zak (fun _=>rfl) (zak (fun _=>rfl) (zak (fun _=>rfl) (zak (fun _=>rfl) (zak (fun _=>rfl) (zak (fun _=>rfl) h))))))
theorem zhp {D:Nat→Prop} {i0 t0 i1 t1 i2 t2 i3 t3 i4 t4 i5 t5 i6 t6 i7 t7:Nat} {v0 v1 v2 v3 v4 v5 v6 v7:Value} {r r':List (Nat×Nat×Value)} (h:dl D r=dl D r'):dl D ((i0,t0,v0)::(i1,t1,v1)::(i2,t2,v2)::(i3,t3,v3)::(i4,t4,v4)::(i5,t5,v5)::(i6,t6,v6)::(i7,t7,v7)::r)=dl D ((i0,t0,v0)::(i1,t1,v1)::(i2,t2,v2)::(i3,t3,v3)::(i4,t4,v4)::(i5,t5,v5)::(i6,t6,v6)::(i7,t7,v7)::r'):=zak (fun _=>rfl) (zak (fun _=>rfl) (zak (fun _=>rfl) (zak (fun _=>rfl) (zak (fun _=>rfl) (zak (fun _=>rfl) (zak (fun _=>rfl) (zak (fun _=>rfl) h)))))))
theorem zsM {D:Nat→Prop} {i0 t0 i1 t1 i2 t2 i3 t3 i4 t4 i5 t5 i6 t6 i7 t7 i8 t8:Nat} {v0 v1 v2 v3 v4 v5 v6 v7 v8:Value} {r r':List (Nat×Nat×Value)} (h:dl D r=dl D r'):dl D ((i0,t0,v0)::(i1,t1,v1)::(i2,t2,v2)::(i3,t3,v3)::(i4,t4,v4)::(i5,t5,v5)::(i6,t6,v6)::(i7,t7,v7)::(i8,t8,v8)::r)=dl D ((i0,t0,v0)::(i1,t1,v1)::(i2,t2,v2)::(i3,t3,v3)::(i4,t4,v4)::(i5,t5,v5)::(i6,t6,v6)::(i7,t7,v7)::(i8,t8,v8)::r'):=zak (fun _=>rfl) (zak (fun _=>rfl) (zak (fun _=>rfl) (zak (fun _=>rfl) (zak (fun _=>rfl) (zak (fun _=>rfl) (zak (fun _=>rfl) (zak (fun _=>rfl) (zak (fun _=>rfl) h))))))))
theorem zqU {D:Nat→Prop} {i0 t0 i1 t1 i2 t2 i3 t3 i4 t4 i5 t5 i6 t6 i7 t7 i8 t8 i9 t9:Nat} {v0 v1 v2 v3 v4 v5 v6 v7 v8 v9:Value} {r r':List (Nat×Nat×Value)} (h:dl D r=dl D r'):dl D ((i0,t0,v0)::(i1,t1,v1)::(i2,t2,v2)::(i3,t3,v3)::(i4,t4,v4)::(i5,t5,v5)::(i6,t6,v6)::(i7,t7,v7)::(i8,t8,v8)::(i9,t9,v9)::r)=dl D ((i0,t0,v0)::(i1,t1,v1)::(i2,t2,v2)::(i3,t3,v3)::(i4,t4,v4)::(i5,t5,v5)::(i6,t6,v6)::(i7,t7,v7)::(i8,t8,v8)::(i9,t9,v9)::r'):=zak (fun _=>rfl) (zak (fun _=>rfl) (zak (fun _=>rfl) (zak (fun _=>rfl) (zak (fun _=>rfl) (zak (fun _=>rfl) (zak (fun _=>rfl) (zak (fun _=>rfl) (zak (fun _=>rfl) (zak (fun _=>rfl) h)))))))))
theorem zqT {D:Nat→Prop} {i0 t0 i1 t1 i2 t2 i3 t3 i4 t4 i5 t5 i6 t6 i7 t7 i8 t8 i9 t9 i10 t10:Nat} {v0 v1 v2 v3 v4 v5 v6 v7 v8 v9 v10:Value} {r r':List (Nat×Nat×Value)} (h:dl D r=dl D r'):dl D ((i0,t0,v0)::(i1,t1,v1)::(i2,t2,v2)::(i3,t3,v3)::(i4,t4,v4)::(i5,t5,v5)::(i6,t6,v6)::(i7,t7,v7)::(i8,t8,v8)::(i9,t9,v9)::(i10,t10,v10)::r)=dl D ((i0,t0,v0)::(i1,t1,v1)::(i2,t2,v2)::(i3,t3,v3)::(i4,t4,v4)::(i5,t5,v5)::(i6,t6,v6)::(i7,t7,v7)::(i8,t8,v8)::(i9,t9,v9)::(i10,t10,v10)::r'):=zak (fun _=>rfl) (zak (fun _=>rfl) (zak (fun _=>rfl) (zak (fun _=>rfl) (zak (fun _=>rfl) (zak (fun _=>rfl) (zak (fun _=>rfl) (zak (fun _=>rfl) (zak (fun _=>rfl) (zak (fun _=>rfl) (zak (fun _=>rfl) h))))))))))
theorem zeu {D:Nat→Prop} {i0 t0 i1 t1 i2 t2 i3 t3 i4 t4 i5 t5 i6 t6 i7 t7 i8 t8 i9 t9 i10 t10 i11 t11:Nat} {v0 v1 v2 v3 v4 v5 v6 v7 v8 v9 v10 v11:Value} {r r':List (Nat×Nat×Value)} (h:dl D r=dl D r'):dl D ((i0,t0,v0)::(i1,t1,v1)::(i2,t2,v2)::(i3,t3,v3)::(i4,t4,v4)::(i5,t5,v5)::(i6,t6,v6)::(i7,t7,v7)::(i8,t8,v8)::(i9,t9,v9)::(i10,t10,v10)::(i11,t11,v11)::r)=dl D ((i0,t0,v0)::(i1,t1,v1)::(i2,t2,v2)::(i3,t3,v3)::(i4,t4,v4)::(i5,t5,v5)::(i6,t6,v6)::(i7,t7,v7)::(i8,t8,v8)::(i9,t9,v9)::(i10,t10,v10)::(i11,t11,v11)::r'):=zak (fun _=>rfl) (zak (fun _=>rfl) (zak (fun _=>rfl) (zak (fun _=>rfl) (zak (fun _=>rfl) (zak (fun _=>rfl) (zak (fun _=>rfl) (zak (fun _=>rfl) (zak (fun _=>rfl) (zak (fun _=>rfl) (zak (fun _=>rfl) (zak (fun _=>rfl) h)))))))))))
def zpu (lk:Nat→Option Value):Operand→Option Value
  | .tmp t=>lk t
  | .const v=>some v
  | .func f=>some (.func (.func f) #[] #[])
  | .global _=>none
def zqG (lk:Nat→Option Value) (ops:Array Oper):Option (Nat×Bool)→Option Bool
  | none=>some true
  | some (j,b)=>match (ops[j]?).bind (·.dst) with
    | some t=>match lk t with
      | some (.bool c)=>some (c==b)
      | some (.tuple _)=>some false
      | _=>none
    | none=>none
def zpy (lk:Nat→Option Value) (N:Nat) (ops:Array Oper) (o:Oper):Option (Nat×Value) :=
  match o.dst with
  | none=>none
  | some d=>match Nat.blt d N with
    | false=>none
    | true=>match zqG lk ops o.guard with
      | none=>none
      | some false=>some (d,undef)
      | some true=>match o.op with
        | .move x=>match zpu lk x with
          | some v=>some (d,v)
          | none=>none
        | .assign x=>match zpu lk x with
          | some v=>some (d,v)
          | none=>none
        | .pick x y z=>match zpu lk x with
          | some (.bool true)=>match zpu lk y with
            | some v=>some (d,v)
            | none=>none
          | some (.bool false)=>match zpu lk z with
            | some v=>some (d,v)
            | none=>none
          | _=>none
        | _=>none
theorem zgP {lk:Nat→Option Value} {S:List (Nat×Value)} (hl:∀ t v,lk t=some v→S.lookup t=some v) {x:Operand} {v:Value} (h:zpu lk x=some v):ev S x=some v:=by
  cases x with
  | tmp t=>exact hl t v h
  | const c=>exact h
  | func f=>exact h
  | global g=>exact h
theorem zoV {lk:Nat→Option Value} {S:List (Nat×Value)} {ops:Array Oper} (hl:∀ t v,lk t=some v→S.lookup t=some v) {g:Option (Nat×Bool)} {r:Bool} (h:zqG lk ops g=some r):gd ops S g=some r:=by
  cases g with
  | none=>exact h
  | some p =>
    obtain ⟨j,b⟩:=p
    unfold zqG at h; unfold gd
    dsimp only at h ⊢
    cases ht:(ops[j]?).bind (·.dst) with
    | none=>rw [ht] at h; cases h
    | some t =>
      rw [ht] at h; dsimp only at h ⊢
      cases hk:lk t with
      | none=>rw [hk] at h; cases h
      | some v=>rw [hk] at h; rw [hl t v hk]; exact h
theorem zjb {F:Fence} [WideF F] {P:Program} {w0:World} {K:Nat→Prop} {N:Nat} {dfs:List Deferred} {ops:Array Oper} {Q:Exit→Act→World→Prop} {rest:List Oper} {lk:Nat→Option Value} {S:List (Nat×Value)} {L:List Asn} {o:Oper} {t:Nat} {v:Value}
    (hl:∀ t v,lk t=some v→S.lookup t=some v) (e:zpy lk N ops o=some (t,v)) (h:TO F P w0 K N dfs ops Q rest ((t,v)::S) L):TO F P w0 K N dfs ops Q (o::rest) S L:=by
  obtain ⟨dst,op,ty,pos,aft,g⟩:=o
  unfold zpy at e
  cases dst with
  | none=>cases e
  | some d =>
    dsimp only at e
    cases hb:Nat.blt d N with
    | false=>rw [hb] at e; cases e
    | true =>
    have hd:d<N:=Nat.lt_of_lt_of_le (Nat.lt_succ_self d) (Nat.le_of_ble_eq_true hb)
    rw [hb] at e; dsimp only at e
    cases hg:zqG lk ops g with
    | none=>rw [hg] at e; cases e
    | some gb =>
      rw [hg] at e
      have hg':=zoV hl hg
      cases gb with
      | false=>cases e; exact zpo hg' hd h
      | true =>
        cases op <;> dsimp only at e <;> first | (cases e; done) | skip
        · split at e
          · cases e; exact zfb hg' hd (zgP hl (by assumption)) h
          · cases e
        · split at e
          · cases e; exact znz hg' hd (zgP hl (by assumption)) h
          · cases e
        · split at e
          · split at e
            · cases e; exact znx (b:=true) hg' hd (zgP hl (by assumption)) (zgP hl (by assumption)) h
            · cases e
          · split at e
            · cases e; exact znx (b:=false) hg' hd (zgP hl (by assumption)) (zgP hl (by assumption)) h
            · cases e
          · cases e
def zqV (N:Nat) (ops:Array Oper):Nat→List Oper→List (Nat×Value)→Option (List Oper×List (Nat×Value))
  | 0,r,σ=>some (r,σ)
  | n+1,o::r,σ=>match zpy (fun t=>σ.lookup t) N ops o with
    | some p=>zqV N ops n r (p::σ)
    | none=>none
  | _+1,[],_=>none
theorem zyR {F:Fence} [WideF F] {P:Program} {w0:World} {K:Nat→Prop} {N:Nat} {dfs:List Deferred} {ops:Array Oper} {Q:Exit→Act→World→Prop} {L:List Asn} (n:Nat):∀ {rest rest':List Oper} {σ σ':List (Nat×Value)},
    zqV N ops n rest σ=some (rest',σ')→TO F P w0 K N dfs ops Q rest' σ' L→TO F P w0 K N dfs ops Q rest σ L:=by
  induction n with
  | zero=>intro rest rest' σ σ' e h; cases e; exact h
  | succ n ih =>
    intro rest rest' σ σ' e h
    cases rest with
    | nil=>cases e
    | cons o r =>
      simp only [zqV] at e
      split at e
      · exact zjb (fun _ _ h=>h) (by assumption) (ih e h)
      · cases e
def zpz (deps:List Nat) (σ:List (Nat×Value)) (t:Nat):List (Nat×Nat×Value)→Option Value
  | []=>σ.lookup t
  | (i,t',v)::r=>match Nat.beq t t' with
    | true=>match deps.contains i with
      | true=>some v
      | false=>none
    | false=>zpz deps σ t r
theorem zjc {D:Nat→Prop} {deps:List Nat} {σ:List (Nat×Value)} (hd:∀ j∈deps,D j) (t:Nat) (v:Value):∀ {vals:List (Nat×Nat×Value)},zpz deps σ t vals=some v→(dl D vals++σ).lookup t=some v
  | [],h=>h
  | (i,t',v')::r,h=>by
    unfold zpz at h
    cases hb:Nat.beq t t' with
    | true =>
      rw [hb] at h; dsimp only at h
      have e:t=t':=Nat.eq_of_beq_eq_true hb
      subst e
      split at h
      · cases h
        have hD:D i:=hd i (by simpa using (by assumption:deps.contains i=true))
        simp only [dl]
        rw [if_pos hD]
        simp
      · cases h
    | false =>
      rw [hb] at h; dsimp only at h
      have ih:=zjc (σ:=σ) hd t v h
      have hn:(t==t')=false:=by
        have:t≠t':=Nat.ne_of_beq_eq_false hb
        simpa using this
      simp only [dl]
      split
      · simp only [List.cons_append,List.lookup,hn]; exact ih
      · exact ih
def znH (N:Nat) (ops:Array Oper) (σ:List (Nat×Value)) (vals:List (Nat×Nat×Value)):Nat→List Oper→Nat→Option (List Oper×Nat×List (Nat×Nat×Value))
  | 0,r,i=>some (r,i,[])
  | n+1,o::r,i=>match zpy (fun t=>zpz (zck o) σ t vals) N ops o with
    | some p=>match znH N ops σ vals n r (i+1) with
      | some q=>some (q.1,q.2.1,(i,p.1,p.2)::q.2.2)
      | none=>none
    | none=>none
  | _+1,[],_=>none
section
variable {F:Fence} {P:Program} {w0:World} {K:Nat→Prop} {N:Nat} {dfs:List Deferred} {Q:Exit→Act→World→Prop} {σ:List (Nat×Value)} {L:List Asn} {ops:Array Oper}
theorem zgd {vals:List (Nat×Nat×Value)} {n m i i':Nat} {o:Oper} {r rest':List Oper} (e:znH N ops σ vals (n+1) (o::r) i=some (rest',i',(vals.drop m).take (n+1))) :
    ∃ t v,zpy (fun t=>zpz (zck o) σ t vals) N ops o=some (t,v)∧vals[m]?=some (i,t,v)∧znH N ops σ vals n r (i+1)=some (rest',i',(vals.drop (m+1)).take n):=by
  simp only [znH] at e
  split at e
  · rename_i p hp
    split at e
    · rename_i q hq
      obtain ⟨q1,q2,q3⟩:=q
      simp only [Option.some.injEq,Prod.mk.injEq] at e
      obtain ⟨rfl,rfl,e⟩:=e
      cases hdr:vals.drop m with
      | nil=>rw [hdr] at e; simp at e
      | cons x xs =>
        rw [hdr,List.take_succ_cons,List.cons.injEq] at e
        have hm:vals[m]?=some x:=by
          have:(vals.drop m)[0]?=some x:=by rw [hdr]; rfl
          simpa using this
        refine ⟨p.1,p.2,hp,by rw [hm,← e.1],?_⟩
        have:vals.drop (m+1)=xs:=by rw [← List.drop_drop,hdr]; rfl
        rw [this,← e.2]; exact hq
    · cases e
  · cases e
theorem zyP [WideF F] {vals:List (Nat×Nat×Value)} (n m:Nat):∀ {l rest':List Oper} {i i':Nat},znH N ops σ vals n l i=some (rest',i',(vals.drop m).take n) →
    DrawPre F P w0 K N dfs Q ops σ L vals rest' i'→DrawPre F P w0 K N dfs Q ops σ L vals l i:=by
  induction n generalizing m with
  | zero=>intro l rest' i i' e h; cases e; exact h
  | succ n ih =>
    intro l rest' i i' e h
    cases l with
    | nil=>cases e
    | cons o r =>
      obtain ⟨t,v,h1,h2,h3⟩:=zgd e
      exact zaa (fun D hn hd hcl hu hi=>zjb (fun t v h=>zjc hd t v h) h1 (zad m hu hi h2)) (ih (m+1) h3 h)
theorem zyE [WideF F] {vals:List (Nat×Nat×Value)} {x:Nat} (n m:Nat):∀ {l rest':List Oper} {i i':Nat},znH N ops σ vals n l i=some (rest',i',(vals.drop m).take n) →
    DrawPreX F P w0 K N dfs Q ops σ L vals x rest' i'→DrawPreX F P w0 K N dfs Q ops σ L vals x l i:=by
  induction n generalizing m with
  | zero=>intro l rest' i i' e h; cases e; exact h
  | succ n ih =>
    intro l rest' i i' e h
    cases l with
    | nil=>cases e
    | cons o r =>
      obtain ⟨t,v,h1,h2,h3⟩:=zgd e
      exact zaS (fun D hn hd hcl hu hi=>zjb (fun t v h=>zjc hd t v h) h1 (zad m hu hi h2)) (ih (m+1) h3 h)
def zyQ {β:Type} (S:List Nat) (LL:(Nat→Prop)→β→List Asn):Prop:=∀ i,S.contains i=false→∀ D b,LL (fun j=>D j∨j=i) b=LL D b
theorem zmd {D:Nat→Prop} {i:Nat} {base:Asn} {r:List (Nat×Asn)} {S:List Nat} (hs:(r.map Prod.fst).all (fun x=>S.contains x)=true) (h:S.contains i=false):eD (fun j=>D j∨j=i) base r=eD D base r:=by
  refine zaB ?_
  cases hc:(r.map Prod.fst).contains i with
  | false=>rfl
  | true =>
    have h1:i∈r.map Prod.fst:=by simpa using hc
    have h2:=List.all_eq_true.1 hs i h1
    have h3:S.contains i=true:=h2
    rw [h] at h3; cases h3
theorem zqW {β:Type} {vals:β→List (Nat×Nat×Value)} {LL:(Nat→Prop)→β→List Asn} (hb:¬ Nonempty β):∀ (l:List Oper) (i:Nat),DrawG F P w0 K N dfs Q ops σ vals LL l i
  | [],_=>trivial
  | o::r,i=>⟨fun D b=>absurd ⟨b⟩ hb,zqW hb r (i+1)⟩
theorem zyq {β:Type} {vals:β→List (Nat×Nat×Value)} {LL:(Nat→Prop)→β→List Asn} {S:List Nat} {o:Oper} {rest:List Oper} {i:Nat} (hq:zyQ S LL) (hs:S.contains i=false)
    (hu:∀ b,zcd ((vals b).map (fun p=>p.2.1))=true) (hi:∀ b,zcd ((vals b).map (fun p=>p.1))=true)
    (h:∀ (D:Nat→Prop) (b:β),¬ D i→(∀ j∈zck o,D j)→Clo ops D→zcd ((vals b).map (fun p=>p.2.1))=true→zcd ((vals b).map (fun p=>p.1))=true →
      TO F P w0 K N dfs ops (Exit.then (fun a w=>At N dfs (dl (fun j=>D j∨j=i) (vals b)++σ) a∧Holds w0 K (LL D b) w) Q) [o] (dl D (vals b)++σ) (LL D b))
    (hr:DrawG F P w0 K N dfs Q ops σ vals LL rest (i+1)):DrawG F P w0 K N dfs Q ops σ vals LL (o::rest) i :=
  zay (fun D b hn hd hcl a w ha hw=>by
    have h0:=h D b hn hd hcl (hu b) (hi b) a w ha hw
    exact zbq (fun a' w' h2=>⟨b,h2.1,by rw [hq i hs D b]; exact h2.2⟩) h0) hr
theorem znC [WideF F] {β:Type} {vals:β→List (Nat×Nat×Value)} {LL:(Nat→Prop)→β→List Asn} {S:List Nat} (hq:zyQ S LL)
    (hu:∀ b,zcd ((vals b).map (fun p=>p.2.1))=true) (hi:∀ b,zcd ((vals b).map (fun p=>p.1))=true) (n m:Nat):∀ {l rest':List Oper} {i i':Nat},
    (∀ b,znH N ops σ (vals b) n l i=some (rest',i',((vals b).drop m).take n))→(List.range n).all (fun j=>!S.contains (i+j))=true →
    DrawG F P w0 K N dfs Q ops σ vals LL rest' i'→DrawG F P w0 K N dfs Q ops σ vals LL l i:=by
  induction n generalizing m with
  | zero =>
    intro l rest' i i' e hs h
    by_cases hb:Nonempty β
    · obtain ⟨b⟩:=hb
      have e:=e b
      simp only [znH,Option.some.injEq,Prod.mk.injEq] at e
      obtain ⟨rfl,rfl,_⟩:=e
      exact h
    · exact zqW hb _ _
  | succ n ih =>
    intro l rest' i i' e hs h
    by_cases hb:Nonempty β
    · obtain ⟨b0⟩:=hb
      cases l with
      | nil=>exact absurd (e b0) (by simp [znH])
      | cons o r =>
        have hs0:S.contains i=false:=by
          have:=List.all_eq_true.1 hs 0 (by simp)
          simpa using this
        have hs1:(List.range n).all (fun j=>!S.contains (i+1+j))=true:=by
          refine List.all_eq_true.2 fun j hj => ?_
          have:=List.all_eq_true.1 hs (j+1) (by simp at hj ⊢; omega)
          rwa [show i+(j+1)=i+1+j by omega] at this
        refine zyq hq hs0 hu hi (fun D b hn hd hcl hu' hi' => ?_) (ih (m+1) (fun b => ?_) hs1 h)
        · obtain ⟨t,v,h1,h2,h3⟩:=zgd (e b)
          exact zjb (fun t v h=>zjc hd t v h) h1 (zad m hu' hi' h2)
        · obtain ⟨t,v,h1,h2,h3⟩:=zgd (e b)
          exact h3
    · exact zqW hb _ _
end
section
variable {F:Fence} {P:Program} {w0:World} {K:Nat→Prop} {N:Nat} {dfs:List Deferred} {Q:Exit→Act→World→Prop} {σ:List (Nat×Value)} {L:List Asn} {ops:Array Oper}
theorem zho {β:Type} {vals:β→List (Nat×Nat×Value)} {LL:(Nat→Prop)→β→List Asn} {S:List Nat} {o:Oper} {rest:List Oper} {i:Nat} (hq:zyQ S LL) (hs:S.contains i=false)
    (hu:∀ b,zcd ((vals b).map (fun p=>p.2.1))=true) (hi:∀ b,zcd ((vals b).map (fun p=>p.1))=true)
    (h:∀ (D:Nat→Prop) (b:β),¬ D i→(∀ j∈zck o,D j)→Clo ops D→zcd ((vals b).map (fun p=>p.2.1))=true→zcd ((vals b).map (fun p=>p.1))=true→∃ L',LL D b=L' ∧
      TO F P w0 K N dfs ops (Exit.then (fun a w=>At N dfs (dl (fun j=>D j∨j=i) (vals b)++σ) a∧Holds w0 K L' w) Q) [o] (dl D (vals b)++σ) L')
    (hr:DrawG F P w0 K N dfs Q ops σ vals LL rest (i+1)):DrawG F P w0 K N dfs Q ops σ vals LL (o::rest) i :=
  zyq hq hs hu hi (fun D b hn hd hcl hu hi=>by obtain ⟨L',e,h0⟩:=h D b hn hd hcl hu hi; rw [e]; exact h0) hr
end
section
variable {R:Type} {F:Fence} {P:Program} {w0:World} {K:Nat→Prop} {N:Nat} {dfs:List Deferred} {ops:Array Oper} {Q:Exit→Act→World→Prop} {rest:List Oper} {σ:List (Nat×Value)} {L:List Asn} {x:Operand} {c c1 c2:Code} {p q:Option R} {r:R} {b:Bool}
theorem zyB (hc:ev σ x=some (.bool b)) (h:zam b p q=some r) (ht:p=some r→TC F P w0 K N dfs Q c1 σ L) (hf:q=some r→TC F P w0 K N dfs Q c2 σ L):TC F P w0 K N dfs Q (.cond x c1 c2) σ L:=zop hc (fun e=>ht (zc1 e h)) (fun e=>hf (zc2 e h))
theorem zaQ [WideF F] {b:BinOp} {t yt ty:TypeId} {d:Nat} {pos:String} {aft:Array Edge} {g:Option (Nat×Bool)} {x y:Operand} {v v1 v2:Value} (e:(gd ops σ g,decide (d<N),ev σ x,ev σ y)=(some true,true,some v1,some v2))
    (hb:∀ w:World,(do eqGuard b t x y v1 v2; binOp b t v1 v2:Sem Value).run P w=.ok v w) (h:TO F P w0 K N dfs ops Q rest ((d,v)::σ) L) :
    TO F P w0 K N dfs ops Q (⟨some d,.binOp b t x y yt,ty,pos,aft,g⟩::rest) σ L:=by
  simp only [Prod.mk.injEq] at e
  exact zaM e.1 (of_decide_eq_true e.2.1) e.2.2.1 e.2.2.2 hb h
theorem zyN (h:TC F P w0 K N dfs Q c σ L):TO F P w0 K N dfs ops (Exit.then (c.wpIn F 0 P Q) Q) [] σ L:=zaK (zaH h)
theorem zyG {id:Nat} {l:List Oper} (h:TO F P w0 K N dfs l.toArray (Exit.then (c.wpIn F 0 P Q) Q) l σ L):TC F P w0 K N dfs Q (.seq (.region id l.toArray false) c) σ L:=zaF (zaG h)
theorem zyH {id:Nat} {l:List Oper} (h:TO F P w0 K N dfs l.toArray (Exit.then (c.wpIn F 0 P Q) Q) l σ L):TO F P w0 K N dfs ops (Exit.then ((Code.seq (.region id l.toArray false) c).wpIn F 0 P Q) Q) [] σ L:=zaK (zaH (zaF (zaG h)))
theorem zyS {s:Nat} (hs:σ.lookup s=some (.bool b)) (h:zam b p q=some r) (ht:p=some r→TO F P w0 K N dfs ops Q rest ((s,.bool true)::σ) L) (hf:q=some r→TO F P w0 K N dfs ops Q rest ((s,.bool false)::σ) L):TO F P w0 K N dfs ops Q rest σ L:=zok hs (fun e=>ht (zc1 e h)) (fun e=>hf (zc2 e h))
theorem zyO (h:zam b p q=some r) (ht:p=some r→TO F P w0 K N dfs ops Q rest σ L) (hf:q=some r→TO F P w0 K N dfs ops Q rest σ L):TO F P w0 K N dfs ops Q rest σ L:=zdo (b:=b) (fun e=>ht (zc1 e h)) (fun e=>hf (zc2 e h))
theorem zyC (h:zam b p q=some r) (ht:p=some r→TC F P w0 K N dfs Q c σ L) (hf:q=some r→TC F P w0 K N dfs Q c σ L):TC F P w0 K N dfs Q c σ L:=zbd (b:=b) (fun e=>ht (zc1 e h)) (fun e=>hf (zc2 e h))
abbrev zsN (F:Fence) (P:Program) (w0:World) (K:Nat→Prop) (N:Nat) (dfs:List Deferred) (ops:Array Oper) (Q:Exit→Act→World→Prop) (rest:List Oper) (σ:List (Nat×Value)) (L:List Asn):Prop:=TO F P w0 K N dfs ops Q rest σ L
end
abbrev zr0 (x:Gapi_Cell):List Value:=[zI x.Span_From,zI x.Span_To,zI x.Columns]
abbrev zr1 (x:Gapi_Piece):List Value:=[zI x.At,zI x.Width,.int .i32 x.Rune,.bool x.Broken]
abbrev zr2 (x:Gapi_Row):List Value:=[zI x.Line,zI x.Stanza,zI x.Part,zI x.Indent,zI x.Number,.string x.Text]
abbrev zr3 (x:Gapi_Layout):List Value:=[zI x.Width,zI x.Height,zI x.Turn,zI x.Every]
abbrev zr4 (x:Gapi_Verse):List Value:=[.string x.Text,zI x.Indent,zI x.Stanza,zI x.In,zI x.Span_From,zI x.Span_To]
abbrev zr5 (x:Gapi_Span):List Value:=[zI x.From,zI x.To]
abbrev zv0 (v:Value):=vec (zmg (.i64)) 3 1 v
abbrev zv1 (v:Value):=vec zcD 132 4 v
abbrev zv2 (v:Value):=vec zc4 130 5 v
abbrev zv3 (v:Value):=vec zdL 106 3 v
abbrev zv4 (v:Value):=vec zhx 9 1 v
abbrev zv5 (v:Value):=vec zc3 57 6 v
abbrev zv6 (v:Value):=vec zdm 55 2 v
abbrev zv7 (v:Value):=vec zfR 138 3 v
abbrev zv8 (v:Value):=vec zau 49 1 v
def zbo (j1:Option Int) (ag1:Nat→Option Int) (m3:Nat):Option Int :=
zam (decide (m3<(pcs (⟨#[13,10]⟩:ByteArray).data.toList).length)) (
zan ((pcs (⟨#[13,10]⟩:ByteArray).data.toList)[m3]?) fun (p1:Pc) =>
zam (((p1.r:Int):Int)==65533) (
some (p1.i:Int)
) (
ag1 (m3+1)
)
) (
j1
)
def zbR (r1:Int) (i1:Int) (j4:Option Int) (ag3:Int→Option Int) (j7:Int):Option Int :=
zam (decide ((j7:Int)<((Utf8.encode r1).size:Int))) (
grd (I64 (i1 - j7)) <|
zan (zfg (⟨#[13,10]⟩:ByteArray) (i1 - j7)) fun (c4:Int) =>
grd (I64 ((((Utf8.encode r1).size:Int) - 1) - j7)) <|
zan (zfg (Utf8.encode r1) ((((Utf8.encode r1).size:Int) - 1) - j7)) fun (c5:Int) =>
zam ((c4:Int) != c5) (
none
) (
grd (I64 (j7+1)) <|
ag3 (j7+1)
)
) (
j4
)
def zbv (r1:Int) (j2:Option Int) (ag2:Option Int):Option Int :=
zam (decide (((((Utf8.encode r1).size:Int) - 1):Int)<((⟨#[13,10]⟩:ByteArray).size:Int))) (
zbk (fun (j3:Int→Option Int) =>
zan (zfg (⟨#[13,10]⟩:ByteArray) (((Utf8.encode r1).size:Int) - 1)) fun (c1:Int) =>
zan (zfg (Utf8.encode r1) (((Utf8.encode r1).size:Int) - 1)) fun (c2:Int) =>
zam ((c1:Int) != c2) (
grd (I64 ((((Utf8.encode r1).size:Int) - 1)+1)) <|
grd (0≤((((Utf8.encode r1).size:Int) - 1)+1:Int)∧((((Utf8.encode r1).size:Int) - 1)+1:Int)≤((⟨#[13,10]⟩:ByteArray).size:Int)∧(((⟨#[13,10]⟩:ByteArray).size:Int):Int)≤((⟨#[13,10]⟩:ByteArray).size:Int)) <|
zan (zfg (Utf8.encode r1) (((Utf8.encode r1).size:Int) - 1)) fun (c3:Int) =>
zam (decide (((Lib.indexByte (zcu (⟨#[13,10]⟩:ByteArray) ((((Utf8.encode r1).size:Int) - 1)+1) ((⟨#[13,10]⟩:ByteArray).size:Int)).data.toList (c3:Int).toNat.toUInt8):Int)<0)) (
some (-1)
) (
grd (I64 ((Lib.indexByte (zcu (⟨#[13,10]⟩:ByteArray) ((((Utf8.encode r1).size:Int) - 1)+1) ((⟨#[13,10]⟩:ByteArray).size:Int)).data.toList (c3:Int).toNat.toUInt8)+1)) <|
grd (I64 ((((Utf8.encode r1).size:Int) - 1)+((Lib.indexByte (zcu (⟨#[13,10]⟩:ByteArray) ((((Utf8.encode r1).size:Int) - 1)+1) ((⟨#[13,10]⟩:ByteArray).size:Int)).data.toList (c3:Int).toNat.toUInt8)+1))) <|
j3 ((((Utf8.encode r1).size:Int) - 1)+((Lib.indexByte (zcu (⟨#[13,10]⟩:ByteArray) ((((Utf8.encode r1).size:Int) - 1)+1) ((⟨#[13,10]⟩:ByteArray).size:Int)).data.toList (c3:Int).toNat.toUInt8)+1))
)
) (
j3 (((Utf8.encode r1).size:Int) - 1)
)
) (fun (i1:Int) =>
zbk (fun (j4:Option Int) =>
zaT (fun _=>none) (zbR r1 i1 j4) zb8 1
) (
grd (I64 (i1 - (((Utf8.encode r1).size:Int) - 1))) <|
some (i1 - (((Utf8.encode r1).size:Int) - 1))
)
)
) (
j2
)
def zbQ (j8:Option Int) (ag4:Nat→Option Int) (m6:Nat):Option Int :=
zam (decide (m6<(pcs (⟨#[13,10]⟩:ByteArray).data.toList).length)) (
zan ((pcs (⟨#[13,10]⟩:ByteArray).data.toList)[m6]?) fun (p2:Pc) =>
zam (((p2.r:Int):Int)==65533) (
some (p2.i:Int)
) (
ag4 (m6+1)
)
) (
j8
)
def zbO (r1:Int) (i2:Int) (j11:Option Int) (ag6:Int→Option Int) (j14:Int):Option Int :=
zam (decide ((j14:Int)<((Utf8.encode r1).size:Int))) (
grd (I64 (i2 - j14)) <|
zan (zfg (⟨#[13,10]⟩:ByteArray) (i2 - j14)) fun (c9:Int) =>
grd (I64 ((((Utf8.encode r1).size:Int) - 1) - j14)) <|
zan (zfg (Utf8.encode r1) ((((Utf8.encode r1).size:Int) - 1) - j14)) fun (c10:Int) =>
zam ((c9:Int) != c10) (
none
) (
grd (I64 (j14+1)) <|
ag6 (j14+1)
)
) (
j11
)
def zbP (r1:Int) (j9:Option Int) (ag5:Option Int):Option Int :=
zam (decide (((((Utf8.encode r1).size:Int) - 1):Int)<((⟨#[13,10]⟩:ByteArray).size:Int))) (
zbk (fun (j10:Int→Option Int) =>
zan (zfg (⟨#[13,10]⟩:ByteArray) (((Utf8.encode r1).size:Int) - 1)) fun (c6:Int) =>
zan (zfg (Utf8.encode r1) (((Utf8.encode r1).size:Int) - 1)) fun (c7:Int) =>
zam ((c6:Int) != c7) (
grd (I64 ((((Utf8.encode r1).size:Int) - 1)+1)) <|
grd (0≤((((Utf8.encode r1).size:Int) - 1)+1:Int)∧((((Utf8.encode r1).size:Int) - 1)+1:Int)≤((⟨#[13,10]⟩:ByteArray).size:Int)∧(((⟨#[13,10]⟩:ByteArray).size:Int):Int)≤((⟨#[13,10]⟩:ByteArray).size:Int)) <|
zan (zfg (Utf8.encode r1) (((Utf8.encode r1).size:Int) - 1)) fun (c8:Int) =>
zam (decide (((Lib.indexByte (zcu (⟨#[13,10]⟩:ByteArray) ((((Utf8.encode r1).size:Int) - 1)+1) ((⟨#[13,10]⟩:ByteArray).size:Int)).data.toList (c8:Int).toNat.toUInt8):Int)<0)) (
some (-1)
) (
grd (I64 ((Lib.indexByte (zcu (⟨#[13,10]⟩:ByteArray) ((((Utf8.encode r1).size:Int) - 1)+1) ((⟨#[13,10]⟩:ByteArray).size:Int)).data.toList (c8:Int).toNat.toUInt8)+1)) <|
grd (I64 ((((Utf8.encode r1).size:Int) - 1)+((Lib.indexByte (zcu (⟨#[13,10]⟩:ByteArray) ((((Utf8.encode r1).size:Int) - 1)+1) ((⟨#[13,10]⟩:ByteArray).size:Int)).data.toList (c8:Int).toNat.toUInt8)+1))) <|
j10 ((((Utf8.encode r1).size:Int) - 1)+((Lib.indexByte (zcu (⟨#[13,10]⟩:ByteArray) ((((Utf8.encode r1).size:Int) - 1)+1) ((⟨#[13,10]⟩:ByteArray).size:Int)).data.toList (c8:Int).toNat.toUInt8)+1))
)
) (
j10 (((Utf8.encode r1).size:Int) - 1)
)
) (fun (i2:Int) =>
zbk (fun (j11:Option Int) =>
zaT (fun _=>none) (zbO r1 i2 j11) zb8 1
) (
grd (I64 (i2 - (((Utf8.encode r1).size:Int) - 1))) <|
some (i2 - (((Utf8.encode r1).size:Int) - 1))
)
)
) (
j9
)
def zbz (r1:Int):Option Int :=
zam (decide ((0:Int)≤r1)) (
zam (decide ((r1:Int)<128)) (
some (Lib.indexByte (⟨#[13,10]⟩:ByteArray).data.toList (IntKind.u8.wrap r1:Int).toNat.toUInt8)
) (
zam ((r1:Int)==65533) (
zbk (fun (j1:Option Int) =>
zaT (fun _=>none) (zbo j1) zb8 0
) (
some (-1)
)
) (
zam (!(Lib.validRune r1)) (
some (-1)
) (
zbk (fun (j2:Option Int) =>
grd (I64 (((Utf8.encode r1).size:Int) - 1)) <|
zaT none (zbv r1 j2) zb8
) (
some (-1)
)
)
)
)
) (
zam ((r1:Int)==65533) (
zbk (fun (j8:Option Int) =>
zaT (fun _=>none) (zbQ j8) zb8 0
) (
some (-1)
)
) (
zam (!(Lib.validRune r1)) (
some (-1)
) (
zbk (fun (j9:Option Int) =>
grd (I64 (((Utf8.encode r1).size:Int) - 1)) <|
zaT none (zbP r1 j9) zb8
) (
some (-1)
)
)
)
)
theorem zeJ {r1:Int} {r:Int} (h:zbz r1=some r):FnP Tryd.prog 92 [.string (⟨#[13,10]⟩:ByteArray),.int .i32 r1] (zI r):=by
 unfold zbz at h
 refine FnP.intro Tryd.func92 rfl Tryd.ntmps92 (by simp) ?_
 intro w0 K
 refine zyG (zyR 1 rfl (zyN (zaL (zyG (zyR 1 rfl (zaQ rfl zd1 (zyR 1 rfl ?_)))))))
 refine zyS (s:=163) rfl h (fun h => ?_) (fun h => ?_)
 ·
  refine zyR 1 rfl (zaQ rfl zbV (zyR 2 rfl (zyN ?_)))
  refine zyB rfl h (fun h => ?_) (fun h => ?_)
  ·
   refine zyG (zyR 2 rfl (zg8 rfl dc rfl (znr Tryd.underlying21 Tryd.underlying5) (zbb (v:=zI (Lib.indexByte (⟨#[13,10]⟩:ByteArray).data.toList (IntKind.u8.wrap r1:Int).toNat.toUInt8)) (vs:=[.string (⟨#[13,10]⟩:ByteArray),.int .u8 (IntKind.u8.wrap r1)]) rfl dc rfl rfl rfl znk (zk1 (⟨#[13,10]⟩:ByteArray) (IntKind.u8.wrap r1)) (zyR 1 rfl (zyN (zax (zaj ?_)))))))
   cases h
   exact zaC (rs:=[.tmp 4]) () (.inl rfl) Tryd.results92 (.cons (.tmp rfl) .nil) rfl Splits.nil
  refine zyG (zyR 1 rfl (zaQ rfl zaq (zyR 1 rfl (zyN ?_))))
  refine zyB rfl h (fun h => ?_) (fun h => ?_)
  ·
   obtain ⟨j1,hj1,h⟩:=zbU h
   refine zaZ (β:=Unit) 0 rfl (fun b=>j1=some r) (fun b=>[]) (fun b=>[]) (fun b=>[]) (fun cut => ?_) ?_
   ·
    refine cut (zyG (zyR 1 rfl ?_))
    refine zdh Tryd.underlying9 rfl dc rfl (fun b1 => ?_)
    refine zyN (zaL ?_)
    refine zbK (β:=Nat×Nat) (fun b=>zaT (fun _=>none) (zbo j1) b.1 b.2=some r) (fun b=>[]) (fun b=>[(175,zP b1)]) (fun b=>[obj b1 (.stringIter (⟨#[13,10]⟩:ByteArray) (zed (⟨#[13,10]⟩:ByteArray) b.2))]) (fun b=>b.1) (zb8,0) (by exact h) rfl (za1 rfl) (zae [0] kr rfl) ?_
    rintro ⟨n1,m3⟩ h
    cases n1 with
    | zero=>exact zdu h
    | succ n1 =>
     obtain ⟨ag1,hag1⟩:∃ ag,ag=zaT (fun _=>none) (zbo j1) n1:=⟨_,rfl⟩
     have h:zbo j1 ag1 m3=some r:=by rw [hag1]; exact h
     unfold zbo at h
     refine zyG ?_
     refine zdo (b:=decide (m3<(pcs (⟨#[13,10]⟩:ByteArray).data.toList).length)) (fun hb4 => ?_) (fun hb4 => ?_)
     ·
      have h:=zc1 hb4 h
      obtain ⟨p1,hq1,h⟩:=zbT h
      refine zdA (k:=0) (m:=m3) (p:=p1) rfl dc rfl rfl hq1 (zaE rfl dc rfl rfl (zyN (zaF (zbg rfl (zar (zaH (zaL (zyG (zaE rfl dc rfl rfl (zaE rfl dc rfl rfl (zyR 1 rfl ?_)))))))))))
      refine zyR 1 rfl (zyH (zyR 1 rfl (zaQ rfl zaq (zyN ?_))))
      refine zyB rfl h (fun h => ?_) (fun h => ?_)
      ·
       refine zyG (zyR 2 rfl (zyN (zax (zaj (zag (zaj (zag (zaj ?_))))))))
       cases h
       exact zaC (rs:=[.tmp 4]) () (.inl rfl) Tryd.results92 (.cons (.tmp rfl) .nil) rfl Splits.nil
      refine zar (zal ?_)
      subst hag1
      exact za8 (n1,m3+1) h (Nat.lt_succ_self _) rfl (za1 rfl) (zae [0] kr rfl)
     have h:=zc2 hb4 h
     refine zdB (k:=0) (m:=m3) rfl dc rfl rfl (Nat.le_of_not_lt (of_decide_eq_false hb4)) (zaE rfl dc rfl rfl (zyN (zaF (zaP rfl (zbc (zap (zap (zaw ?_))))))))
     exact zai () h rfl (zfy) Splits.nil
   rintro _ h
   rw [hj1] at h
   refine zyG (zyR 1 rfl (zyN (zax (zaj ?_))))
   cases h
   exact zaC (rs:=[.tmp 4]) () (.inl rfl) Tryd.results92 (.cons (.tmp rfl) .nil) rfl Splits.nil
  refine zyG (zyR 1 rfl (zbb (v:=.bool (Lib.validRune r1)) (vs:=[.int .i32 r1]) rfl dc rfl rfl rfl zoK (zmr r1) (zdg rfl dc rfl zch (zyR 1 rfl (zyN ?_)))))
  refine zyB rfl h (fun h => ?_) (fun h => ?_)
  ·
   refine zyG (zyR 1 rfl (zyN (zax (zaj ?_))))
   cases h
   exact zaC (rs:=[.tmp 4]) () (.inl rfl) Tryd.results92 (.cons (.tmp rfl) .nil) rfl Splits.nil
  refine zeI (β:=Unit) (l:=1) (fun _=>False) (fun _=>[]) (fun _=>[]) rfl ?_ ?_
  ·
   obtain ⟨j2,hj2,h⟩:=zbU h
   refine zaZ (β:=Unit) 4 rfl (fun b=>j2=some r) (fun b=>[]) (fun b=>[]) (fun b=>[]) (fun cut => ?_) ?_
   ·
    refine zyG (zyR 1 rfl (zg8 rfl dc rfl (zgH Tryd.underlying21 Tryd.underlying9) (zyR 1 rfl (zyH (zyR 1 rfl (zbt rfl dc rfl Tryd.underlying9 ?_))))))
    obtain ⟨hg1,h⟩:=zbM h
    refine zaQ rfl (zcc (r:=((Utf8.encode r1).size:Int) - 1) (IntWalk.i64_in _ hg1)) (zyR 1 rfl (zyH (zyR 2 rfl (zyH (zyR 1 rfl (zaK ?_))))))
    refine zaH (cut (zaL ?_))
    refine zbK (β:=Nat) (fun b=>zaT none (zbv r1 j2) b=some r) (fun b=>[]) (fun b=>[(0,.string (⟨#[13,10]⟩:ByteArray)),(7,.string (Utf8.encode r1)),(8,zI (((Utf8.encode r1).size:Int) - 1)),(9,zI (((Utf8.encode r1).size:Int) - 1))]) (fun b=>[]) (fun b=>b) zb8 h rfl (za1 rfl) Splits.nil ?_
    rintro n2 h
    cases n2 with
    | zero=>exact zdu h
    | succ n2 =>
     obtain ⟨ag2,hag2⟩:∃ ag,ag=zaT none (zbv r1 j2) n2:=⟨_,rfl⟩
     have h:zbv r1 j2 ag2=some r:=by rw [hag2]; exact h
     unfold zbv at h
     refine zaF (zyG (zyR 2 rfl (zbt rfl dc rfl Tryd.underlying9 (zaQ rfl zbV (zyN ?_)))))
     refine zyB rfl h (fun h => ?_) (fun h => ?_)
     ·
      refine zar (zaH (zaL ?_))
      refine zeI (β:=Unit) (l:=0) (fun _=>False) (fun _=>[]) (fun _=>[]) rfl ?_ ?_
      ·
       obtain ⟨j3,hj3,h⟩:=zbU h
       refine zaZ (β:=Int) 0 rfl (fun b=>j3 b=some r) (fun b=>[]) (fun b=>[(0,.string (⟨#[13,10]⟩:ByteArray)),(7,.string (Utf8.encode r1)),(8,zI (((Utf8.encode r1).size:Int) - 1)),(9,zI b)]) (fun b=>[]) (fun cut => ?_) ?_
       ·
        refine cut (zaF ?_)
        obtain ⟨c1,hq2,h⟩:=zbT h
        obtain ⟨c2,hq3,h⟩:=zbT h
        refine zaN 6 [(0,27,.string (⟨#[13,10]⟩:ByteArray)),(1,28,zI (((Utf8.encode r1).size:Int) - 1)),(2,29,.int .u8 c1),(3,30,.string (Utf8.encode r1)),(4,31,zI (((Utf8.encode r1).size:Int) - 1)),(5,32,.int .u8 c2)] mixed kr kr dc (by rfl) kr kr (zyP 2 0 rfl (zaa ?_ (zyP 2 3 rfl (zaa ?_ DrawPre.nil)))) ?_
        · exact fun D n d c u i=>zcH rfl dc (zab (m:=0) u rfl (d 0 dc)) (zab (m:=1) u rfl (d 1 dc)) (zbl Tryd.underlying9 hq2) (zad 2 u i rfl)
        · exact fun D n d c u i=>zcH rfl dc (zab (m:=3) u rfl (d 3 dc)) (zab (m:=4) u rfl (d 4 dc)) (zbl Tryd.underlying9 hq3) (zad 5 u i rfl)
        refine zaQ rfl zbF (zyN ?_)
        refine zyB rfl h (fun h => ?_) (fun h => ?_)
        ·
         refine zaF ?_
         obtain ⟨hg2,h⟩:=zbM h
         obtain ⟨hg3,h⟩:=zbM h
         obtain ⟨c3,hq4,h⟩:=zbT h
         refine zaN 7 [(0,34,.string (⟨#[13,10]⟩:ByteArray)),(1,35,zI (((Utf8.encode r1).size:Int) - 1)),(2,36,zI ((((Utf8.encode r1).size:Int) - 1)+1)),(3,37,.string (zcu (⟨#[13,10]⟩:ByteArray) ((((Utf8.encode r1).size:Int) - 1)+1) ((⟨#[13,10]⟩:ByteArray).size:Int))),(4,38,.string (Utf8.encode r1)),(5,39,zI (((Utf8.encode r1).size:Int) - 1)),(6,40,.int .u8 c3)] mixed kr kr dc (by rfl) kr kr (zyP 2 0 rfl (zaa ?_ (zaa ?_ (zyP 2 4 rfl (zaa ?_ DrawPre.nil))))) ?_
         · exact fun D n d c u i=>zaM rfl dc (zab (m:=1) u rfl (d 1 dc)) rfl (zaW (r:=(((Utf8.encode r1).size:Int) - 1)+1) (IntWalk.i64_in _ hg2)) (zad 2 u i rfl)
         · exact fun D n d c u i=>zd5 rfl dc (zab (m:=0) u rfl (d 0 dc)) (evO.some (zab (m:=2) u rfl (d 2 dc))) zjA (zcf (i:=(((Utf8.encode r1).size:Int) - 1)+1) (j:=((⟨#[13,10]⟩:ByteArray).size:Int)) Tryd.underlying9 (.inr rfl) (.inl ⟨rfl,rfl⟩) hg3) (zad 3 u i rfl)
         · exact fun D n d c u i=>zcH rfl dc (zab (m:=4) u rfl (d 4 dc)) (zab (m:=5) u rfl (d 5 dc)) (zbl Tryd.underlying9 hq4) (zad 6 u i rfl)
         refine zbb (v:=zI (Lib.indexByte (zcu (⟨#[13,10]⟩:ByteArray) ((((Utf8.encode r1).size:Int) - 1)+1) ((⟨#[13,10]⟩:ByteArray).size:Int)).data.toList (c3:Int).toNat.toUInt8)) (vs:=[.string (zcu (⟨#[13,10]⟩:ByteArray) ((((Utf8.encode r1).size:Int) - 1)+1) ((⟨#[13,10]⟩:ByteArray).size:Int)),.int .u8 c3]) rfl dc rfl rfl rfl znk (zk1 (zcu (⟨#[13,10]⟩:ByteArray) ((((Utf8.encode r1).size:Int) - 1)+1) ((⟨#[13,10]⟩:ByteArray).size:Int)) c3) (zyR 1 rfl (zyN (zaF (zyG (zyR 1 rfl (zaQ rfl zbV (zyN ?_)))))))
         refine zyB rfl h (fun h => ?_) (fun h => ?_)
         ·
          refine zyG (zyR 1 rfl (zyN (zax (zag (zag (zbG (by simp) (zaj (zag (zaj (zag (zbG (by simp) ?_)))))))))))
          refine zaj ?_
          cases h
          exact zaC (rs:=[.tmp 4]) () (.inl rfl) Tryd.results92 (.cons (.tmp rfl) .nil) rfl Splits.nil
         refine zar (zaH (zaG (zyR 2 rfl ?_)))
         obtain ⟨hg4,h⟩:=zbM h
         refine zaQ rfl (zaW (r:=(Lib.indexByte (zcu (⟨#[13,10]⟩:ByteArray) ((((Utf8.encode r1).size:Int) - 1)+1) ((⟨#[13,10]⟩:ByteArray).size:Int)).data.toList (c3:Int).toNat.toUInt8)+1) (IntWalk.i64_in _ hg4)) ?_
         obtain ⟨hg5,h⟩:=zbM h
         refine zaQ rfl (zaW (r:=(((Utf8.encode r1).size:Int) - 1)+((Lib.indexByte (zcu (⟨#[13,10]⟩:ByteArray) ((((Utf8.encode r1).size:Int) - 1)+1) ((⟨#[13,10]⟩:ByteArray).size:Int)).data.toList (c3:Int).toNat.toUInt8)+1)) (IntWalk.i64_in _ hg5)) (zyR 1 rfl (zaK ?_))
         exact zai ((((Utf8.encode r1).size:Int) - 1)+((Lib.indexByte (zcu (⟨#[13,10]⟩:ByteArray) ((((Utf8.encode r1).size:Int) - 1)+1) ((⟨#[13,10]⟩:ByteArray).size:Int)).data.toList (c3:Int).toNat.toUInt8)+1)) h rfl (za1 rfl) Splits.nil
        refine zar ?_
        exact zai (((Utf8.encode r1).size:Int) - 1) h rfl (za1 rfl) Splits.nil
       rintro i1 h
       rw [hj3] at h
       obtain ⟨j4,hj4,h⟩:=zbU h
       refine zaZ (β:=Unit) 0 rfl (fun b=>j4=some r) (fun b=>[]) (fun b=>[(8,zI (((Utf8.encode r1).size:Int) - 1)),(9,zI i1)]) (fun b=>[]) (fun cut => ?_) ?_
       ·
        refine cut (zyG (zyR 1 rfl (zyN (zaL ?_))))
        refine zbK (β:=Nat×Int) (fun b=>zaT (fun _=>none) (zbR r1 i1 j4) b.1 b.2=some r) (fun b=>[]) (fun b=>[(0,.string (⟨#[13,10]⟩:ByteArray)),(7,.string (Utf8.encode r1)),(8,zI (((Utf8.encode r1).size:Int) - 1)),(9,zI i1),(12,zI b.2)]) (fun b=>[]) (fun b=>b.1) (zb8,1) h rfl (za1 rfl) Splits.nil ?_
        rintro ⟨n3,j7⟩ h
        cases n3 with
        | zero=>exact zdu h
        | succ n3 =>
         obtain ⟨ag3,hag3⟩:∃ ag,ag=zaT (fun _=>none) (zbR r1 i1 j4) n3:=⟨_,rfl⟩
         have h:zbR r1 i1 j4 ag3 j7=some r:=by rw [hag3]; exact h
         unfold zbR at h
         refine zaF (zyG (zyR 2 rfl (zbt rfl dc rfl Tryd.underlying9 (zaQ rfl zbV (zyN ?_)))))
         refine zyB rfl h (fun h => ?_) (fun h => ?_)
         ·
          refine zar (zaH (zaF (zaL (zaF ?_))))
          obtain ⟨hg6,h⟩:=zbM h
          obtain ⟨c4,hq5,h⟩:=zbT h
          obtain ⟨hg7,h⟩:=zbM h
          obtain ⟨c5,hq6,h⟩:=zbT h
          refine zaN 10 [(0,54,.string (⟨#[13,10]⟩:ByteArray)),(1,55,zI i1),(2,56,zI j7),(3,57,zI (i1 - j7)),(4,58,.int .u8 c4),(5,59,.string (Utf8.encode r1)),(6,60,zI (((Utf8.encode r1).size:Int) - 1)),(7,61,zI j7),(8,62,zI ((((Utf8.encode r1).size:Int) - 1) - j7)),(9,63,.int .u8 c5)] mixed kr kr dc (by rfl) kr kr (zyP 3 0 rfl (zaa ?_ (zaa ?_ (zyP 3 5 rfl (zaa ?_ (zaa ?_ DrawPre.nil)))))) ?_
          · exact fun D n d c u i=>zaM rfl dc (zab (m:=1) u rfl (d 1 dc)) (zab (m:=2) u rfl (d 2 dc)) (zcc (r:=i1 - j7) (IntWalk.i64_in _ hg6)) (zad 3 u i rfl)
          · exact fun D n d c u i=>zcH rfl dc (zab (m:=0) u rfl (d 0 dc)) (zab (m:=3) u rfl (d 3 dc)) (zbl Tryd.underlying9 hq5) (zad 4 u i rfl)
          · exact fun D n d c u i=>zaM rfl dc (zab (m:=6) u rfl (d 6 dc)) (zab (m:=7) u rfl (d 7 dc)) (zcc (r:=(((Utf8.encode r1).size:Int) - 1) - j7) (IntWalk.i64_in _ hg7)) (zad 8 u i rfl)
          · exact fun D n d c u i=>zcH rfl dc (zab (m:=5) u rfl (d 5 dc)) (zab (m:=8) u rfl (d 8 dc)) (zbl Tryd.underlying9 hq6) (zad 9 u i rfl)
          refine zaQ rfl zbF (zyN ?_)
          refine zyB rfl h (fun h => ?_) (fun h => ?_)
          ·
           exact zdu h
          refine zar (zal (zaH (zaG (zyR 1 rfl ?_))))
          obtain ⟨hg8,h⟩:=zbM h
          refine zaQ rfl (zaW (r:=j7+1) (IntWalk.i64_in _ hg8)) (zyR 1 rfl (zaK ?_))
          subst hag3
          exact za8 (n3,j7+1) h (Nat.lt_succ_self _) rfl (za1 rfl) Splits.nil
         refine zbc (zap (zap (zaw ?_)))
         exact zai () h rfl (za1 rfl) Splits.nil
       rintro _ h
       rw [hj4] at h
       refine zaF (zyG (zyR 2 rfl ?_))
       obtain ⟨hg9,h⟩:=zbM h
       refine zaQ rfl (zcc (r:=i1 - (((Utf8.encode r1).size:Int) - 1)) (IntWalk.i64_in _ hg9)) (zyR 1 rfl (zyN (zax (zag (zbG (by simp) (zaj (zag (zaj (zag (zbG (by simp) (zaj ?_)))))))))))
       cases h
       exact zaC (rs:=[.tmp 4]) () (.inl rfl) Tryd.results92 (.cons (.tmp rfl) .nil) rfl Splits.nil
      exact fun b hb=>hb.elim
     refine zbc (zap (zap (zaw ?_)))
     exact zai () h rfl (zfy) Splits.nil
   rintro _ h
   rw [hj2] at h
   refine zaF (zyG (zyR 1 rfl (zyN (zax (zag (zbG (by simp) (zaj ?_)))))))
   cases h
   exact zaC (rs:=[.tmp 4]) () (.inl rfl) Tryd.results92 (.cons (.tmp rfl) .nil) rfl Splits.nil
  exact fun b hb=>hb.elim
 refine zyR 4 rfl (zyN (zaP rfl (zyG (zyR 1 rfl (zaQ rfl zaq (zyR 1 rfl (zyN ?_)))))))
 refine zyB rfl h (fun h => ?_) (fun h => ?_)
 ·
  obtain ⟨j8,hj8,h⟩:=zbU h
  refine zaZ (β:=Unit) 0 rfl (fun b=>j8=some r) (fun b=>[]) (fun b=>[]) (fun b=>[]) (fun cut => ?_) ?_
  ·
   refine cut (zyG (zyR 1 rfl ?_))
   refine zdh Tryd.underlying9 rfl dc rfl (fun b2 => ?_)
   refine zyN (zaL ?_)
   refine zbK (β:=Nat×Nat) (fun b=>zaT (fun _=>none) (zbQ j8) b.1 b.2=some r) (fun b=>[]) (fun b=>[(175,zP b2)]) (fun b=>[obj b2 (.stringIter (⟨#[13,10]⟩:ByteArray) (zed (⟨#[13,10]⟩:ByteArray) b.2))]) (fun b=>b.1) (zb8,0) (by exact h) rfl (za1 rfl) (zae [0] kr rfl) ?_
   rintro ⟨n4,m6⟩ h
   cases n4 with
   | zero=>exact zdu h
   | succ n4 =>
    obtain ⟨ag4,hag4⟩:∃ ag,ag=zaT (fun _=>none) (zbQ j8) n4:=⟨_,rfl⟩
    have h:zbQ j8 ag4 m6=some r:=by rw [hag4]; exact h
    unfold zbQ at h
    refine zyG ?_
    refine zdo (b:=decide (m6<(pcs (⟨#[13,10]⟩:ByteArray).data.toList).length)) (fun hb13 => ?_) (fun hb13 => ?_)
    ·
     have h:=zc1 hb13 h
     obtain ⟨p2,hq7,h⟩:=zbT h
     refine zdA (k:=0) (m:=m6) (p:=p2) rfl dc rfl rfl hq7 (zaE rfl dc rfl rfl (zyN (zaF (zbg rfl (zar (zaH (zaL (zyG (zaE rfl dc rfl rfl (zaE rfl dc rfl rfl (zyR 1 rfl ?_)))))))))))
     refine zyR 1 rfl (zyH (zyR 1 rfl (zaQ rfl zaq (zyN ?_))))
     refine zyB rfl h (fun h => ?_) (fun h => ?_)
     ·
      refine zyG (zyR 2 rfl (zyN (zax (zaj (zag (zaj (zag (zaj ?_))))))))
      cases h
      exact zaC (rs:=[.tmp 4]) () (.inl rfl) Tryd.results92 (.cons (.tmp rfl) .nil) rfl Splits.nil
     refine zar (zal ?_)
     subst hag4
     exact za8 (n4,m6+1) h (Nat.lt_succ_self _) rfl (za1 rfl) (zae [0] kr rfl)
    have h:=zc2 hb13 h
    refine zdB (k:=0) (m:=m6) rfl dc rfl rfl (Nat.le_of_not_lt (of_decide_eq_false hb13)) (zaE rfl dc rfl rfl (zyN (zaF (zaP rfl (zbc (zap (zap (zaw ?_))))))))
    exact zai () h rfl (zfy) Splits.nil
  rintro _ h
  rw [hj8] at h
  refine zyG (zyR 1 rfl (zyN (zax (zaj ?_))))
  cases h
  exact zaC (rs:=[.tmp 4]) () (.inl rfl) Tryd.results92 (.cons (.tmp rfl) .nil) rfl Splits.nil
 refine zyG (zyR 1 rfl (zbb (v:=.bool (Lib.validRune r1)) (vs:=[.int .i32 r1]) rfl dc rfl rfl rfl zoK (zmr r1) (zdg rfl dc rfl zch (zyR 1 rfl (zyN ?_)))))
 refine zyB rfl h (fun h => ?_) (fun h => ?_)
 ·
  refine zyG (zyR 1 rfl (zyN (zax (zaj ?_))))
  cases h
  exact zaC (rs:=[.tmp 4]) () (.inl rfl) Tryd.results92 (.cons (.tmp rfl) .nil) rfl Splits.nil
 refine zeI (β:=Unit) (l:=1) (fun _=>False) (fun _=>[]) (fun _=>[]) rfl ?_ ?_
 ·
  obtain ⟨j9,hj9,h⟩:=zbU h
  refine zaZ (β:=Unit) 4 rfl (fun b=>j9=some r) (fun b=>[]) (fun b=>[]) (fun b=>[]) (fun cut => ?_) ?_
  ·
   refine zyG (zyR 1 rfl (zg8 rfl dc rfl (zgH Tryd.underlying21 Tryd.underlying9) (zyR 1 rfl (zyH (zyR 1 rfl (zbt rfl dc rfl Tryd.underlying9 ?_))))))
   obtain ⟨hg10,h⟩:=zbM h
   refine zaQ rfl (zcc (r:=((Utf8.encode r1).size:Int) - 1) (IntWalk.i64_in _ hg10)) (zyR 1 rfl (zyH (zyR 2 rfl (zyH (zyR 1 rfl (zaK ?_))))))
   refine zaH (cut (zaL ?_))
   refine zbK (β:=Nat) (fun b=>zaT none (zbP r1 j9) b=some r) (fun b=>[]) (fun b=>[(0,.string (⟨#[13,10]⟩:ByteArray)),(7,.string (Utf8.encode r1)),(8,zI (((Utf8.encode r1).size:Int) - 1)),(9,zI (((Utf8.encode r1).size:Int) - 1))]) (fun b=>[]) (fun b=>b) zb8 h rfl (za1 rfl) Splits.nil ?_
   rintro n5 h
   cases n5 with
   | zero=>exact zdu h
   | succ n5 =>
    obtain ⟨ag5,hag5⟩:∃ ag,ag=zaT none (zbP r1 j9) n5:=⟨_,rfl⟩
    have h:zbP r1 j9 ag5=some r:=by rw [hag5]; exact h
    unfold zbP at h
    refine zaF (zyG (zyR 2 rfl (zbt rfl dc rfl Tryd.underlying9 (zaQ rfl zbV (zyN ?_)))))
    refine zyB rfl h (fun h => ?_) (fun h => ?_)
    ·
     refine zar (zaH (zaL ?_))
     refine zeI (β:=Unit) (l:=0) (fun _=>False) (fun _=>[]) (fun _=>[]) rfl ?_ ?_
     ·
      obtain ⟨j10,hj10,h⟩:=zbU h
      refine zaZ (β:=Int) 0 rfl (fun b=>j10 b=some r) (fun b=>[]) (fun b=>[(0,.string (⟨#[13,10]⟩:ByteArray)),(7,.string (Utf8.encode r1)),(8,zI (((Utf8.encode r1).size:Int) - 1)),(9,zI b)]) (fun b=>[]) (fun cut => ?_) ?_
      ·
       refine cut (zaF ?_)
       obtain ⟨c6,hq8,h⟩:=zbT h
       obtain ⟨c7,hq9,h⟩:=zbT h
       refine zaN 6 [(0,27,.string (⟨#[13,10]⟩:ByteArray)),(1,28,zI (((Utf8.encode r1).size:Int) - 1)),(2,29,.int .u8 c6),(3,30,.string (Utf8.encode r1)),(4,31,zI (((Utf8.encode r1).size:Int) - 1)),(5,32,.int .u8 c7)] mixed kr kr dc (by rfl) kr kr (zyP 2 0 rfl (zaa ?_ (zyP 2 3 rfl (zaa ?_ DrawPre.nil)))) ?_
       · exact fun D n d c u i=>zcH rfl dc (zab (m:=0) u rfl (d 0 dc)) (zab (m:=1) u rfl (d 1 dc)) (zbl Tryd.underlying9 hq8) (zad 2 u i rfl)
       · exact fun D n d c u i=>zcH rfl dc (zab (m:=3) u rfl (d 3 dc)) (zab (m:=4) u rfl (d 4 dc)) (zbl Tryd.underlying9 hq9) (zad 5 u i rfl)
       refine zaQ rfl zbF (zyN ?_)
       refine zyB rfl h (fun h => ?_) (fun h => ?_)
       ·
        refine zaF ?_
        obtain ⟨hg11,h⟩:=zbM h
        obtain ⟨hg12,h⟩:=zbM h
        obtain ⟨c8,hq10,h⟩:=zbT h
        refine zaN 7 [(0,34,.string (⟨#[13,10]⟩:ByteArray)),(1,35,zI (((Utf8.encode r1).size:Int) - 1)),(2,36,zI ((((Utf8.encode r1).size:Int) - 1)+1)),(3,37,.string (zcu (⟨#[13,10]⟩:ByteArray) ((((Utf8.encode r1).size:Int) - 1)+1) ((⟨#[13,10]⟩:ByteArray).size:Int))),(4,38,.string (Utf8.encode r1)),(5,39,zI (((Utf8.encode r1).size:Int) - 1)),(6,40,.int .u8 c8)] mixed kr kr dc (by rfl) kr kr (zyP 2 0 rfl (zaa ?_ (zaa ?_ (zyP 2 4 rfl (zaa ?_ DrawPre.nil))))) ?_
        · exact fun D n d c u i=>zaM rfl dc (zab (m:=1) u rfl (d 1 dc)) rfl (zaW (r:=(((Utf8.encode r1).size:Int) - 1)+1) (IntWalk.i64_in _ hg11)) (zad 2 u i rfl)
        · exact fun D n d c u i=>zd5 rfl dc (zab (m:=0) u rfl (d 0 dc)) (evO.some (zab (m:=2) u rfl (d 2 dc))) zjA (zcf (i:=(((Utf8.encode r1).size:Int) - 1)+1) (j:=((⟨#[13,10]⟩:ByteArray).size:Int)) Tryd.underlying9 (.inr rfl) (.inl ⟨rfl,rfl⟩) hg12) (zad 3 u i rfl)
        · exact fun D n d c u i=>zcH rfl dc (zab (m:=4) u rfl (d 4 dc)) (zab (m:=5) u rfl (d 5 dc)) (zbl Tryd.underlying9 hq10) (zad 6 u i rfl)
        refine zbb (v:=zI (Lib.indexByte (zcu (⟨#[13,10]⟩:ByteArray) ((((Utf8.encode r1).size:Int) - 1)+1) ((⟨#[13,10]⟩:ByteArray).size:Int)).data.toList (c8:Int).toNat.toUInt8)) (vs:=[.string (zcu (⟨#[13,10]⟩:ByteArray) ((((Utf8.encode r1).size:Int) - 1)+1) ((⟨#[13,10]⟩:ByteArray).size:Int)),.int .u8 c8]) rfl dc rfl rfl rfl znk (zk1 (zcu (⟨#[13,10]⟩:ByteArray) ((((Utf8.encode r1).size:Int) - 1)+1) ((⟨#[13,10]⟩:ByteArray).size:Int)) c8) (zyR 1 rfl (zyN (zaF (zyG (zyR 1 rfl (zaQ rfl zbV (zyN ?_)))))))
        refine zyB rfl h (fun h => ?_) (fun h => ?_)
        ·
         refine zyG (zyR 1 rfl (zyN (zax (zag (zag (zbG (by simp) (zaj (zag (zaj (zag (zbG (by simp) ?_)))))))))))
         refine zaj ?_
         cases h
         exact zaC (rs:=[.tmp 4]) () (.inl rfl) Tryd.results92 (.cons (.tmp rfl) .nil) rfl Splits.nil
        refine zar (zaH (zaG (zyR 2 rfl ?_)))
        obtain ⟨hg13,h⟩:=zbM h
        refine zaQ rfl (zaW (r:=(Lib.indexByte (zcu (⟨#[13,10]⟩:ByteArray) ((((Utf8.encode r1).size:Int) - 1)+1) ((⟨#[13,10]⟩:ByteArray).size:Int)).data.toList (c8:Int).toNat.toUInt8)+1) (IntWalk.i64_in _ hg13)) ?_
        obtain ⟨hg14,h⟩:=zbM h
        refine zaQ rfl (zaW (r:=(((Utf8.encode r1).size:Int) - 1)+((Lib.indexByte (zcu (⟨#[13,10]⟩:ByteArray) ((((Utf8.encode r1).size:Int) - 1)+1) ((⟨#[13,10]⟩:ByteArray).size:Int)).data.toList (c8:Int).toNat.toUInt8)+1)) (IntWalk.i64_in _ hg14)) (zyR 1 rfl (zaK ?_))
        exact zai ((((Utf8.encode r1).size:Int) - 1)+((Lib.indexByte (zcu (⟨#[13,10]⟩:ByteArray) ((((Utf8.encode r1).size:Int) - 1)+1) ((⟨#[13,10]⟩:ByteArray).size:Int)).data.toList (c8:Int).toNat.toUInt8)+1)) h rfl (za1 rfl) Splits.nil
       refine zar ?_
       exact zai (((Utf8.encode r1).size:Int) - 1) h rfl (za1 rfl) Splits.nil
      rintro i2 h
      rw [hj10] at h
      obtain ⟨j11,hj11,h⟩:=zbU h
      refine zaZ (β:=Unit) 0 rfl (fun b=>j11=some r) (fun b=>[]) (fun b=>[(8,zI (((Utf8.encode r1).size:Int) - 1)),(9,zI i2)]) (fun b=>[]) (fun cut => ?_) ?_
      ·
       refine cut (zyG (zyR 1 rfl (zyN (zaL ?_))))
       refine zbK (β:=Nat×Int) (fun b=>zaT (fun _=>none) (zbO r1 i2 j11) b.1 b.2=some r) (fun b=>[]) (fun b=>[(0,.string (⟨#[13,10]⟩:ByteArray)),(7,.string (Utf8.encode r1)),(8,zI (((Utf8.encode r1).size:Int) - 1)),(9,zI i2),(12,zI b.2)]) (fun b=>[]) (fun b=>b.1) (zb8,1) h rfl (za1 rfl) Splits.nil ?_
       rintro ⟨n6,j14⟩ h
       cases n6 with
       | zero=>exact zdu h
       | succ n6 =>
        obtain ⟨ag6,hag6⟩:∃ ag,ag=zaT (fun _=>none) (zbO r1 i2 j11) n6:=⟨_,rfl⟩
        have h:zbO r1 i2 j11 ag6 j14=some r:=by rw [hag6]; exact h
        unfold zbO at h
        refine zaF (zyG (zyR 2 rfl (zbt rfl dc rfl Tryd.underlying9 (zaQ rfl zbV (zyN ?_)))))
        refine zyB rfl h (fun h => ?_) (fun h => ?_)
        ·
         refine zar (zaH (zaF (zaL (zaF ?_))))
         obtain ⟨hg15,h⟩:=zbM h
         obtain ⟨c9,hq11,h⟩:=zbT h
         obtain ⟨hg16,h⟩:=zbM h
         obtain ⟨c10,hq12,h⟩:=zbT h
         refine zaN 10 [(0,54,.string (⟨#[13,10]⟩:ByteArray)),(1,55,zI i2),(2,56,zI j14),(3,57,zI (i2 - j14)),(4,58,.int .u8 c9),(5,59,.string (Utf8.encode r1)),(6,60,zI (((Utf8.encode r1).size:Int) - 1)),(7,61,zI j14),(8,62,zI ((((Utf8.encode r1).size:Int) - 1) - j14)),(9,63,.int .u8 c10)] mixed kr kr dc (by rfl) kr kr (zyP 3 0 rfl (zaa ?_ (zaa ?_ (zyP 3 5 rfl (zaa ?_ (zaa ?_ DrawPre.nil)))))) ?_
         · exact fun D n d c u i=>zaM rfl dc (zab (m:=1) u rfl (d 1 dc)) (zab (m:=2) u rfl (d 2 dc)) (zcc (r:=i2 - j14) (IntWalk.i64_in _ hg15)) (zad 3 u i rfl)
         · exact fun D n d c u i=>zcH rfl dc (zab (m:=0) u rfl (d 0 dc)) (zab (m:=3) u rfl (d 3 dc)) (zbl Tryd.underlying9 hq11) (zad 4 u i rfl)
         · exact fun D n d c u i=>zaM rfl dc (zab (m:=6) u rfl (d 6 dc)) (zab (m:=7) u rfl (d 7 dc)) (zcc (r:=(((Utf8.encode r1).size:Int) - 1) - j14) (IntWalk.i64_in _ hg16)) (zad 8 u i rfl)
         · exact fun D n d c u i=>zcH rfl dc (zab (m:=5) u rfl (d 5 dc)) (zab (m:=8) u rfl (d 8 dc)) (zbl Tryd.underlying9 hq12) (zad 9 u i rfl)
         refine zaQ rfl zbF (zyN ?_)
         refine zyB rfl h (fun h => ?_) (fun h => ?_)
         ·
          exact zdu h
         refine zar (zal (zaH (zaG (zyR 1 rfl ?_))))
         obtain ⟨hg17,h⟩:=zbM h
         refine zaQ rfl (zaW (r:=j14+1) (IntWalk.i64_in _ hg17)) (zyR 1 rfl (zaK ?_))
         subst hag6
         exact za8 (n6,j14+1) h (Nat.lt_succ_self _) rfl (za1 rfl) Splits.nil
        refine zbc (zap (zap (zaw ?_)))
        exact zai () h rfl (za1 rfl) Splits.nil
      rintro _ h
      rw [hj11] at h
      refine zaF (zyG (zyR 2 rfl ?_))
      obtain ⟨hg18,h⟩:=zbM h
      refine zaQ rfl (zcc (r:=i2 - (((Utf8.encode r1).size:Int) - 1)) (IntWalk.i64_in _ hg18)) (zyR 1 rfl (zyN (zax (zag (zbG (by simp) (zaj (zag (zaj (zag (zbG (by simp) (zaj ?_)))))))))))
      cases h
      exact zaC (rs:=[.tmp 4]) () (.inl rfl) Tryd.results92 (.cons (.tmp rfl) .nil) rfl Splits.nil
     exact fun b hb=>hb.elim
    refine zbc (zap (zap (zaw ?_)))
    exact zai () h rfl (zfy) Splits.nil
  rintro _ h
  rw [hj9] at h
  refine zaF (zyG (zyR 1 rfl (zyN (zax (zag (zbG (by simp) (zaj ?_)))))))
  cases h
  exact zaC (rs:=[.tmp 4]) () (.inl rfl) Tryd.results92 (.cons (.tmp rfl) .nil) rfl Splits.nil
 exact fun b hb=>hb.elim
def za2 (s1:ByteArray) (j3:Option Int) (ag1:Nat→Option Int) (m3:Nat):Option Int :=
zam (decide (m3<(pcs s1.data.toList).length)) (
zan ((pcs s1.data.toList)[m3]?) fun (p1:Pc) =>
zan (zbz (p1.r:Int)) fun (r2:Int) =>
zam (decide ((0:Int)≤r2)) (
some (p1.i:Int)
) (
ag1 (m3+1)
)
) (
j3
)
def zb2 (s1:ByteArray):Option Int :=
zam (decide ((⟨#[13,10]⟩:ByteArray)=(⟨#[]⟩:ByteArray))) (
some (-1)
) (
zam ((((⟨#[13,10]⟩:ByteArray).size:Int):Int)==1) (
zbk (fun (j1:Int→Option Int) =>
zan (zfg (⟨#[13,10]⟩:ByteArray) 0) fun (c1:Int) =>
grd (I32 c1) <|
zam (decide ((128:Int)≤c1)) (
j1 65533
) (
j1 c1
)
) (fun (r1:Int) =>
none
)
) (
zbk (fun (j2:Option Int) =>
zam (decide (8<((s1.size:Int):Int))) (
none
) (
j2
)
) (
zbk (fun (j3:Option Int) =>
zaT (fun _=>none) (za2 s1 j3) zb8 0
) (
some (-1)
)
)
)
)
theorem zeR {s1:ByteArray} {r:Int} (h:zb2 s1=some r):FnP Tryd.prog 71 [.string s1,.string (⟨#[13,10]⟩:ByteArray)] (zI r):=by
 unfold zb2 at h
 refine FnP.intro Tryd.func71 rfl Tryd.ntmps71 (by simp) ?_
 intro w0 K
 refine zyG (zyR 1 rfl (zyN (zaF (zyG (zyR 1 rfl (zaQ rfl zfG (zyN ?_)))))))
 refine zyB rfl h (fun h => ?_) (fun h => ?_)
 ·
  refine zyG (zyR 1 rfl (zyN (zax (zag ?_))))
  cases h
  exact zaC (rs:=[.tmp 4]) () (.inl rfl) Tryd.results71 (.cons (.tmp rfl) .nil) rfl Splits.nil
 refine zar (zaH (zaF (zyG (zyR 1 rfl (zbt rfl dc rfl Tryd.underlying9 (zaQ rfl zaq (zyN ?_)))))))
 refine zyB rfl h (fun h => ?_) (fun h => ?_)
 ·
  obtain ⟨j1,hj1,h⟩:=zbU h
  refine zaZ (β:=Int) 1 rfl (fun b=>j1 b=some r) (fun b=>[]) (fun b=>[(0,.string s1),(5,.int .i32 b)]) (fun b=>[]) (fun cut => ?_) ?_
  ·
   refine zyG (zyR 1 rfl ?_)
   obtain ⟨c1,hq1,h⟩:=zbT h
   refine zcH rfl dc rfl rfl (zbl Tryd.underlying9 hq1) ?_
   obtain ⟨hg1,h⟩:=zbM h
   refine zg8 rfl dc rfl (zlz (r:=c1) Tryd.underlying5 Tryd.underlying21 (IntWalk.i32_in _ hg1)) (zyR 1 rfl (zyN (cut (zyG (zyR 1 rfl (zaQ rfl zeB (zyN ?_)))))))
   refine zyB rfl h (fun h => ?_) (fun h => ?_)
   ·
    refine zaG (zyR 1 rfl (zaK ?_))
    exact zai 65533 h rfl (za1 rfl) Splits.nil
   refine zar ?_
   exact zai c1 h rfl (za1 rfl) Splits.nil
  rintro r1 h
  rw [hj1] at h
  refine zaF ?_
  exact zdu h
 refine zar (zaH ?_)
 obtain ⟨j2,hj2,h⟩:=zbU h
 refine zaZ (β:=Unit) 0 rfl (fun b=>j2=some r) (fun b=>[]) (fun b=>[(0,.string s1),(1,.string (⟨#[13,10]⟩:ByteArray))]) (fun b=>[]) (fun cut => ?_) ?_
 ·
  refine cut (zyG (zyR 1 rfl (zbt rfl dc rfl Tryd.underlying9 (zbb (v:=.bool (decide (8<((s1.size:Int):Int)))) (vs:=[zI (s1.size:Int)]) rfl dc rfl rfl rfl zrn (zpR (s1.size:Int)) (zyN ?_)))))
  refine zyB rfl h (fun h => ?_) (fun h => ?_)
  ·
   refine zaF ?_
   exact zdu h
  refine zar ?_
  exact zai () h rfl (za1 rfl) Splits.nil
 rintro _ h
 rw [hj2] at h
 obtain ⟨j3,hj3,h⟩:=zbU h
 refine zaZ (β:=Unit) 0 rfl (fun b=>j3=some r) (fun b=>[]) (fun b=>[]) (fun b=>[]) (fun cut => ?_) ?_
 ·
  refine cut (zyG (zyR 1 rfl ?_))
  refine zdh Tryd.underlying9 rfl dc rfl (fun b1 => ?_)
  refine zyN (zaL ?_)
  refine zbK (β:=Nat×Nat) (fun b=>zaT (fun _=>none) (za2 s1 j3) b.1 b.2=some r) (fun b=>[]) (fun b=>[(1,.string (⟨#[13,10]⟩:ByteArray)),(45,zP b1)]) (fun b=>[obj b1 (.stringIter s1 (zed s1 b.2))]) (fun b=>b.1) (zb8,0) (by exact h) rfl (za1 rfl) (zae [0] kr rfl) ?_
  rintro ⟨n1,m3⟩ h
  cases n1 with
  | zero=>exact zdu h
  | succ n1 =>
   obtain ⟨ag1,hag1⟩:∃ ag,ag=zaT (fun _=>none) (za2 s1 j3) n1:=⟨_,rfl⟩
   have h:za2 s1 j3 ag1 m3=some r:=by rw [hag1]; exact h
   unfold za2 at h
   refine zyG ?_
   refine zdo (b:=decide (m3<(pcs s1.data.toList).length)) (fun hb5 => ?_) (fun hb5 => ?_)
   ·
    have h:=zc1 hb5 h
    obtain ⟨p1,hq2,h⟩:=zbT h
    refine zdA (k:=0) (m:=m3) (p:=p1) rfl dc rfl rfl hq2 (zaE rfl dc rfl rfl (zyN (zaF (zbg rfl (zar (zaH (zaL (zyG (zaE rfl dc rfl rfl (zaE rfl dc rfl rfl (zyR 1 rfl ?_)))))))))))
    refine zyR 1 rfl (zyH (zyR 2 rfl ?_))
    obtain ⟨r2,hq3,h⟩:=zbT h
    refine zbb (v:=zI r2) (vs:=[.string (⟨#[13,10]⟩:ByteArray),.int .i32 (p1.r:Int)]) rfl dc rfl rfl rfl zro (zeJ hq3) (zaQ rfl zeB (zyN ?_))
    refine zyB rfl h (fun h => ?_) (fun h => ?_)
    ·
     refine zyG (zyR 2 rfl (zyN (zax (zaj (zag (zaj (zag ?_)))))))
     cases h
     exact zaC (rs:=[.tmp 4]) () (.inl rfl) Tryd.results71 (.cons (.tmp rfl) .nil) rfl Splits.nil
    refine zar (zal ?_)
    subst hag1
    exact za8 (n1,m3+1) h (Nat.lt_succ_self _) rfl (za1 rfl) (zae [0] kr rfl)
   have h:=zc2 hb5 h
   refine zdB (k:=0) (m:=m3) rfl dc rfl rfl (Nat.le_of_not_lt (of_decide_eq_false hb5)) (zaE rfl dc rfl rfl (zyN (zaF (zaP rfl (zbc (zap (zap (zaw ?_))))))))
   exact zai () h rfl (zfy) Splits.nil
 rintro _ h
 rw [hj3] at h
 refine zyG (zyR 1 rfl (zyN (zax ?_)))
 cases h
 exact zaC (rs:=[.tmp 4]) () (.inl rfl) Tryd.results71 (.cons (.tmp rfl) .nil) rfl Splits.nil
end Go.Proofs.YtbempdelckaccaaDoor

namespace Go.Proofs.YtbempdelckaccaaDoor
open Go.RowKit Go.Lib Go.Shelf
set_option linter.unusedVariables false
set_option linter.unusedSimpArgs false
def zl0 (r:Int):Int:=if r=13 then 0 else if r=10 then 1 else -1
theorem zm0:∀ n:Nat,n<128→Lib.indexByte [13,10] (n:Int).toNat.toUInt8=zl0 (n:Int):=by decide +kernel
theorem zog:pcs (⟨#[13,10]⟩:ByteArray).data.toList=[⟨0,1,13⟩,⟨1,1,10⟩]:=by decide +kernel
theorem zmX (j:Option Int):zaT (fun _=>none) (zbo j) zb8 0=j:=by
 obtain ⟨n,hn,_⟩:=zm8 3 (by decide)
 rw [hn]
 rw [show n+3=n+2+1 from rfl,zbI]
 unfold zbo
 rw [zog]
 refine zaA rfl (za3 rfl (zav (by decide) ?_))
 rw [show n+2=n+1+1 from rfl,zbI]
 refine zaA rfl (za3 rfl (zav (by decide) ?_))
 rw [zbI]
 exact zav rfl rfl
theorem zjB (r:Nat) (hv:r<55296∨(57343<r∧r≤1114111)) (h:128≤r):2≤(encodeRune (r:Int)).length∧(encodeRune (r:Int)).length≤4∧∀ x∈encodeRune (r:Int),128≤x.toNat:=by
 unfold encodeRune
 rcases zg4 r hv with ⟨h1,_⟩ | ⟨h1,h2,e⟩ | ⟨h1,h2,e⟩ | ⟨h1,h2,e⟩
 ·omega
 all_goals
  rw [e]
  refine ⟨by simp,by simp,fun x hx => ?_⟩
  simp only [List.map_cons,List.map_nil,List.mem_cons,List.not_mem_nil,or_false] at hx
 ·rcases hx with rfl | rfl <;> rw [zc8 _ (by omega) (by omega)] <;> omega
 ·rcases hx with rfl | rfl | rfl <;> rw [zc8 _ (by omega) (by omega)] <;> omega
 ·rcases hx with rfl | rfl | rfl | rfl <;> rw [zc8 _ (by omega) (by omega)] <;> omega
theorem znj (r:Nat) (h:r<128):encodeRune (r:Int)=[r.toUInt8]:=by
 unfold encodeRune; rw [encodeRuneZ_one (by omega) (by omega)]; simp
theorem zn7 {e:ByteArray} (h2:∀ x∈e.data.toList,128≤x.toNat) {i:Int} (h0:0≤i) (hi:i<(e.size:Int)):∃ c,zfg e i=some c∧128≤c:=by
 obtain ⟨n,rfl⟩:∃ n:Nat,i=n:=⟨i.toNat,by omega⟩
 have hn:n<e.size:=by omega
 refine ⟨((e[n]'hn).toNat:Int),zm7 rfl hn,?_⟩
 have h3:128≤(e[n]'hn).toNat:=h2 _ (Array.mem_toList_iff.2 (Array.getElem_mem hn))
 omega
theorem zn6 {r:Nat} (hv:r<55296∨(57343<r∧r≤1114111)) (h:128≤r) {i:Int} (h0:0≤i) (hi:i<((Utf8.encode (r:Int)).size:Int)):∃ c,zfg (Utf8.encode (r:Int)) i=some c∧128≤c :=
 zn7 (by rw [zil]; exact (zjB r hv h).2.2) h0 hi
theorem zo7 (r:Nat) (hv:r<55296∨(57343<r∧r≤1114111)):zbz (r:Int)=some (zl0 (r:Int)):=by
 unfold zbz
 refine zaA (decide_eq_true (by omega)) ?_
 by_cases h1:r<128
 ·refine zaA (decide_eq_true (by omega)) ?_
  rw [u8w _ (by omega)]
  exact congrArg some (zm0 r h1)
 ·have he:zl0 (r:Int)=-1:=by unfold zl0; rw [if_neg (by omega),if_neg (by omega)]
  rw [he]
  refine zav (decide_eq_false (by omega)) ?_
  by_cases h2:r=65533
  ·refine zaA (beq_iff_eq.2 (by omega)) (zbC ?_)
   exact zmX _
  ·refine zav (beq_eq_false_iff_ne.2 (by omega)) ?_
   have hval:Lib.validRune (r:Int)=true:=by
    unfold Lib.validRune; simp; omega
   refine zav (by rw [hval]; rfl) (zbC ?_)
   obtain ⟨hs2,hs4,_⟩:=zjB r hv (by omega)
   rw [← zk3] at hs2 hs4
   refine zce ⟨by omega,by omega⟩ ?_
   obtain ⟨n,hn,_⟩:=zm8 1 (by decide)
   rw [hn,zbI]
   unfold zbv
   have hz:((⟨#[13,10]⟩:ByteArray).size:Int)=2:=rfl
   by_cases h3:(Utf8.encode (r:Int)).size=2
   ·refine zaA (decide_eq_true (by rw [hz]; omega)) (zbC ?_)
    obtain ⟨c,hc,hc128⟩:=zn6 hv (by omega) (i:=((Utf8.encode (r:Int)).size:Int) - 1) (by omega) (by omega)
    refine za3 (a:=10) (by rw [h3]; rfl) (za3 hc (zaA (bne_iff_ne.2 (by omega)) ?_))
    refine zce ⟨by omega,by omega⟩ (zce ⟨by omega,by rw [hz]; omega,Int.le_refl _⟩ (za3 hc (zaA ?_ rfl)))
    have:(zcu (⟨#[13,10]⟩:ByteArray) (((Utf8.encode (r:Int)).size:Int) - 1+1) ((⟨#[13,10]⟩:ByteArray).size:Int)).data.toList=[]:=by rw [h3]; decide +kernel
    rw [this]
    rfl
   ·refine zav (decide_eq_false (by rw [hz]; omega)) rfl
def isE (b:UInt8):Bool:=b==13||b==10
def zi6 (s:ByteArray):Bool:=s.data.toList.any isE
theorem zo6 {b:UInt8} (h:128≤b.toNat):isE b=false:=by
 unfold isE
 have h1:(b==13)=false:=beq_eq_false_iff_ne.2 (by rintro rfl; exact absurd h (by decide))
 have h2:(b==10)=false:=beq_eq_false_iff_ne.2 (by rintro rfl; exact absurd h (by decide))
 rw [h1,h2]; rfl
theorem zn2 (r:Int):decide (0≤zl0 r)=(decide (r=13)||decide (r=10)):=by
 unfold zl0
 by_cases h1:r=13
 ·subst h1; rfl
 ·by_cases h2:r=10
  ·subst h2; rfl
  ·rw [if_neg h1,if_neg h2]; simp [h1,h2]
theorem zmQ (l:List UInt8) (h:l≠[]):decide (0≤zl0 ((decodeL l).1:Int))=(l.take (decodeL l).2).any isE:=by
 rw [zn2]
 obtain ⟨b,t,rfl⟩:=List.exists_cons_of_ne_nil h
 by_cases hb:b.toNat<128
 ·rw [decodeL_ascii b t hb]
  simp only [List.take_succ_cons,List.take_zero,List.any_cons,List.any_nil,Bool.or_false]
  unfold isE
  congr 1
  ·rw [Bool.eq_iff_iff,decide_eq_true_iff,beq_iff_eq]
   exact ⟨fun h=>UInt8.toNat.inj (by show b.toNat=13; omega),fun h=>by subst h; rfl⟩
  ·rw [Bool.eq_iff_iff,decide_eq_true_iff,beq_iff_eq]
   exact ⟨fun h=>UInt8.toNat.inj (by show b.toNat=10; omega),fun h=>by subst h; rfl⟩
 ·have hd:=zof (b::t) (by simp)
  generalize (decodeL (b::t)).1=r at hd ⊢
  generalize (decodeL (b::t)).2=w at hd ⊢
  obtain ⟨w,rfl⟩:∃ v,w=v+1:=⟨w - 1,by have:=hd.pos; omega⟩
  have hall:128≤r∧∀ x∈(b::t).take (w+1),128≤x.toNat:=by
   by_cases hbr:r=65533∧w+1=1
   ·obtain ⟨rfl,hw⟩:=hbr
    obtain rfl:w=0:=by omega
    refine ⟨by omega,fun x hx => ?_⟩
    simp at hx; subst hx; omega
   ·have he:=hd.bytes hbr
    have hr:128≤r:=by
     rcases Nat.lt_or_ge r 128 with h1 | h1
     ·rw [znj r h1,List.take_succ_cons] at he
      have h2:r.toUInt8=b:=(List.cons.inj he).1
      have h3:b.toNat=r:=by rw [← h2]; simp; omega
      omega
     ·exact h1
    refine ⟨hr,?_⟩
    rw [← he]
    exact (zjB r hd.valid hr).2.2
  rw [decide_eq_false (show ¬ (r:Int)=13 by omega),decide_eq_false (show ¬ (r:Int)=10 by omega)]
  symm
  rw [Bool.or_false,List.any_eq_false]
  intro x hx
  rw [zo6 (hall.2 x hx)]
  decide
theorem zlN (s:ByteArray) (j:Option Int):∀ (n m:Nat),(pcs s.data.toList).length - m<n→(∀ p∈pcs s.data.toList,zbz (p.r:Int)=some (zl0 (p.r:Int))) →
  ∃ x:Option Int,zaT (fun _=>none) (za2 s j) n m=x∧((((pcs s.data.toList).drop m).any (fun p=>decide (0≤zl0 (p.r:Int)))=true∧∃ k:Nat,x=some (k:Int))∨(((pcs s.data.toList).drop m).any (fun p=>decide (0≤zl0 (p.r:Int)))=false∧x=j)):=by
 intro n
 induction n with
 | zero=>intro m h; omega
 | succ n ih =>
  intro m hm hp
  rw [zbI]
  rcases Nat.lt_or_ge m (pcs s.data.toList).length with h1 | h1
  ·obtain ⟨p,hq⟩:∃ p,(pcs s.data.toList)[m]?=some p:=⟨_,List.getElem?_eq_getElem h1⟩
   have hd:(pcs s.data.toList).drop m=p::(pcs s.data.toList).drop (m+1):=by
    rw [List.drop_eq_getElem_cons h1]; congr 1
    rw [List.getElem?_eq_getElem h1] at hq; exact Option.some.inj hq
   rw [hd,List.any_cons]
   cases hh:decide (0≤zl0 (p.r:Int)) with
   | true =>
    refine ⟨some (p.i:Int),?_,.inl ⟨rfl,p.i,rfl⟩⟩
    unfold za2
    exact zaA (decide_eq_true h1) (za3 hq (za3 (hp p (List.mem_of_getElem? hq)) (zaA hh rfl)))
   | false =>
    obtain ⟨x,hx,h3⟩:=ih (m+1) (by omega) hp
    refine ⟨x,?_,by rw [Bool.false_or]; exact h3⟩
    conv=>lhs; unfold za2
    refine zaA (decide_eq_true h1) (za3 hq (za3 (hp p (List.mem_of_getElem? hq)) (zav hh hx)))
  ·rw [List.drop_eq_nil_of_le h1]
   refine ⟨j,?_,.inr ⟨rfl,rfl⟩⟩
   unfold za2
   exact zav (decide_eq_false (by omega)) rfl
theorem zh4:∀ (n:Nat) (l:List UInt8) (i:Nat),l.length≤n→(zcB i l).any (fun p=>decide (0≤zl0 (p.r:Int)))=l.any isE
 | 0,l,i,h=>by
  obtain rfl:l=[]:=List.length_eq_zero_iff.1 (by omega)
  rw [zca]; rfl
 | n+1,l,i,h=>by
  by_cases hl:l=[]
  ·subst hl; rw [zca]; rfl
  ·have hw:=zeA l
   have hle:=zhm l hl
   rw [zct i l hl,List.any_cons,zh4 n _ _ (by rw [List.length_drop]; omega)]
   show (decide (0≤zl0 ((decodeL l).1:Int))||_)=_
   rw [zmQ l hl,← List.any_append,List.take_append_drop]
theorem zh3:∀ (n:Nat) (l:List UInt8) (i:Nat),l.length≤n→(zcB i l).length≤l.length
 | 0,l,i,h=>by
  obtain rfl:l=[]:=List.length_eq_zero_iff.1 (by omega)
  rw [zca]; exact Nat.le_refl _
 | n+1,l,i,h=>by
  by_cases hl:l=[]
  ·subst hl; rw [zca]; exact Nat.le_refl _
  ·have hw:=zeA l
   have hle:=zhm l hl
   rw [zct i l hl,List.length_cons]
   have:=zh3 n (l.drop (decodeL l).2) (i+(decodeL l).2) (by rw [List.length_drop]; omega)
   rw [List.length_drop] at this
   omega
theorem zmR (l:List UInt8):∀ p∈pcs l,p.r<55296∨(57343<p.r∧p.r≤1114111):=by
 have key:∀ (n:Nat) (l:List UInt8) (i:Nat),l.length≤n→∀ p∈zcB i l,p.r<55296∨(57343<p.r∧p.r≤1114111):=by
  intro n
  induction n with
  | zero =>
   intro l i h p hp
   obtain rfl:l=[]:=List.length_eq_zero_iff.1 (by omega)
   rw [zca] at hp; cases hp
  | succ n ih =>
   intro l i h p hp
   by_cases hl:l=[]
   ·subst hl; rw [zca] at hp; cases hp
   ·have hw:=zeA l
    have hle:=zhm l hl
    rw [zct i l hl] at hp
    rcases List.mem_cons.1 hp with rfl | hp
    ·exact zkx l
    ·exact ih _ _ (by rw [List.length_drop]; omega) p hp
 exact key _ l 0 (Nat.le_refl _)
theorem zoI (s:ByteArray) (h8:s.size≤8):∃ r,zb2 s=some r∧decide (0≤r)=zi6 s:=by
 unfold zb2
 obtain ⟨x,hx,h⟩:=zlN s (some (-1)) zb8 0 (by
  have:=zh3 s.data.toList.length s.data.toList 0 (Nat.le_refl _)
  have h2:s.data.toList.length=s.size:=by rw [Array.length_toList]; rfl
  have h3:(pcs s.data.toList).length≤s.data.toList.length:=this
  have h4:(9:Nat)<zb8:=by unfold zb8; omega
  omega) (fun p hp=>zo7 p.r (zmR _ p hp))
 have hany:=zh4 s.data.toList.length s.data.toList 0 (Nat.le_refl _)
 rw [List.drop_zero] at h
 have e:∀ r,x=some r→zam (decide ((⟨#[13,10]⟩:ByteArray)=(⟨#[]⟩:ByteArray))) (some (-1)) (zam ((((⟨#[13,10]⟩:ByteArray).size:Int):Int)==1) (zbk (fun (j1:Int→Option Int)=>zan (zfg (⟨#[13,10]⟩:ByteArray) 0) fun (c1:Int)=>grd (I32 c1)<|zam (decide ((128:Int)≤c1)) (j1 65533) (j1 c1)) (fun (r1:Int)=>none)) (zbk (fun (j2:Option Int)=>zam (decide (8<((s.size:Int):Int))) (none) (j2)) (zbk (fun (j3:Option Int)=>zaT (fun _=>none) (za2 s j3) zb8 0) (some (-1)))))=some r:=fun r hr =>
  zav (by decide) (zav (by decide) (zbC (zav (decide_eq_false (by omega)) (zbC (hx.trans hr)))))
 rcases h with ⟨h1,k,rfl⟩ | ⟨h1,rfl⟩
 ·exact ⟨(k:Int),e _ rfl,by rw [decide_eq_true (by omega)]; exact (hany.symm.trans h1).symm⟩
 ·exact ⟨-1,e _ rfl,by rw [decide_eq_false (by omega)]; exact (hany.symm.trans h1).symm⟩
def iaV (s:ByteArray):Int:=if 8<s.size then Lib.indexAny s.data.toList [13,10] else (zb2 s).getD 0
theorem zqb (s:ByteArray) (h:s.size≤4294967280):FnP Tryd.prog 71 [.string s,.string (⟨#[13,10]⟩:ByteArray)] (.int .i64 (iaV s)):=by
 unfold iaV
 split
 ·rename_i h8; exact zn3 s h8 (by omega)
 ·rename_i h8
  obtain ⟨r,hr,_⟩:=zoI s (by omega)
  rw [hr]
  exact zeR hr
theorem zqc (s:ByteArray):decide (0≤iaV s)=zi6 s:=by
 unfold iaV
 split
 ·rename_i h8
  unfold zi6
  generalize s.data.toList=l
  induction l with
  | nil=>rfl
  | cons b l ih =>
   have hge:=Lib.indexAny_ge [13,10] l
   have hc:([13,10]:List UInt8).contains b=isE b:=by unfold isE; simp only [List.contains_cons,List.contains_nil,Bool.or_false]
   rw [Lib.indexAny,hc,List.any_cons]
   cases hb:isE b with
   | true=>rfl
   | false =>
    rw [Bool.false_or,← ih,if_neg (by decide)]
    split
    ·rename_i h2; rw [beq_iff_eq.1 h2]
    ·rename_i h2
     have h3:Lib.indexAny l [13,10]≠-1:=fun e=>h2 (by rw [e]; rfl)
     rw [decide_eq_true (by omega),decide_eq_true (by omega)]
 ·rename_i h8
  obtain ⟨r,hr,h1⟩:=zoI s (by omega)
  rw [hr]; exact h1
end Go.Proofs.YtbempdelckaccaaDoor

namespace Go.Proofs.YtbempdelckaccaaDoor
open Go.RowKit Go.Lib
set_option linter.unusedVariables false
set_option linter.unusedSimpArgs false
def zcs (s1:ByteArray) (j1:(List Gapi_Place)→(List Gplace_ended)→Int→Int→Int→Int→Int→Int→Int→Option ((Option Gplace_Map)×Int)) (ag1:(List Gapi_Place)→(List Gplace_ended)→Int→Int→Int→Int→Int→Int→Int→Nat→Option ((Option Gplace_Map)×Int)) (m10:List Gapi_Place) (m11:List Gplace_ended) (p16:Int) (p17:Int) (p18:Int) (p19:Int) (p20:Int) (line7:Int) (line8:Int) (m12:Nat):Option ((Option Gplace_Map)×Int) :=
zam (decide (m12<(pcs s1.data.toList).length)) (
zan ((pcs s1.data.toList)[m12]?) fun (p21:Pc) =>
zbk (fun (j2:Int→Option ((Option Gplace_Map)×Int)) =>
grd (m10.length+1≤2147483648) <|
grd (I64 (p17+1)) <|
grd (I64 (p18+1)) <|
grd (I64 (p20+1)) <|
zam (decide ((65536:Int)≤(p21.r:Int))) (
grd (I64 ((p18+1)+1)) <|
j2 ((p18+1)+1)
) (
j2 (p18+1)
)
) (fun (p22:Int) =>
zbk (fun (j3:Int→Option ((Option Gplace_Map)×Int)) =>
zam (((p21.r:Int):Int)==13) (
grd (I64 ((p21.i:Int)+1)) <|
zam (decide ((((p21.i:Int)+1):Int)<(s1.size:Int))) (
grd (I64 ((p21.i:Int)+1)) <|
zan (zfg s1 ((p21.i:Int)+1)) fun (c1:Int) =>
zam ((c1:Int)==10) (
ag1 (m10++[(⟨(p21.i:Int),p17,p18,p19,p20⟩:Gapi_Place)]) m11 (p21.i:Int) (p17+1) p22 p19 (p20+1) line7 line8 (m12+1)
) (
zam (((p21.r:Int):Int)==10) (
zam (decide ((0:Int)<(p21.i:Int))) (
grd (I64 ((p21.i:Int) - 1)) <|
zan (zfg s1 ((p21.i:Int) - 1)) fun (c2:Int) =>
zam ((c2:Int)==13) (
j3 2
) (
zam (((p21.r:Int):Int) != 13) (
zam (((p21.r:Int):Int) != 10) (
ag1 (m10++[(⟨(p21.i:Int),p17,p18,p19,p20⟩:Gapi_Place)]) m11 (p21.i:Int) (p17+1) p22 p19 (p20+1) line7 line8 (m12+1)
) (
j3 1
)
) (
j3 1
)
)
) (
zam (((p21.r:Int):Int) != 13) (
zam (((p21.r:Int):Int) != 10) (
ag1 (m10++[(⟨(p21.i:Int),p17,p18,p19,p20⟩:Gapi_Place)]) m11 (p21.i:Int) (p17+1) p22 p19 (p20+1) line7 line8 (m12+1)
) (
j3 1
)
) (
j3 1
)
)
) (
zam (((p21.r:Int):Int) != 13) (
zam (((p21.r:Int):Int) != 10) (
ag1 (m10++[(⟨(p21.i:Int),p17,p18,p19,p20⟩:Gapi_Place)]) m11 (p21.i:Int) (p17+1) p22 p19 (p20+1) line7 line8 (m12+1)
) (
j3 1
)
) (
j3 1
)
)
)
) (
zam (((p21.r:Int):Int)==10) (
zam (decide ((0:Int)<(p21.i:Int))) (
grd (I64 ((p21.i:Int) - 1)) <|
zan (zfg s1 ((p21.i:Int) - 1)) fun (c3:Int) =>
zam ((c3:Int)==13) (
j3 2
) (
zam (((p21.r:Int):Int) != 13) (
zam (((p21.r:Int):Int) != 10) (
ag1 (m10++[(⟨(p21.i:Int),p17,p18,p19,p20⟩:Gapi_Place)]) m11 (p21.i:Int) (p17+1) p22 p19 (p20+1) line7 line8 (m12+1)
) (
j3 1
)
) (
j3 1
)
)
) (
zam (((p21.r:Int):Int) != 13) (
zam (((p21.r:Int):Int) != 10) (
ag1 (m10++[(⟨(p21.i:Int),p17,p18,p19,p20⟩:Gapi_Place)]) m11 (p21.i:Int) (p17+1) p22 p19 (p20+1) line7 line8 (m12+1)
) (
j3 1
)
) (
j3 1
)
)
) (
zam (((p21.r:Int):Int) != 13) (
zam (((p21.r:Int):Int) != 10) (
ag1 (m10++[(⟨(p21.i:Int),p17,p18,p19,p20⟩:Gapi_Place)]) m11 (p21.i:Int) (p17+1) p22 p19 (p20+1) line7 line8 (m12+1)
) (
j3 1
)
) (
j3 1
)
)
)
) (
zam (((p21.r:Int):Int)==10) (
zam (decide ((0:Int)<(p21.i:Int))) (
grd (I64 ((p21.i:Int) - 1)) <|
zan (zfg s1 ((p21.i:Int) - 1)) fun (c4:Int) =>
zam ((c4:Int)==13) (
j3 2
) (
zam (((p21.r:Int):Int) != 13) (
zam (((p21.r:Int):Int) != 10) (
ag1 (m10++[(⟨(p21.i:Int),p17,p18,p19,p20⟩:Gapi_Place)]) m11 (p21.i:Int) (p17+1) p22 p19 (p20+1) line7 line8 (m12+1)
) (
j3 1
)
) (
j3 1
)
)
) (
zam (((p21.r:Int):Int) != 13) (
zam (((p21.r:Int):Int) != 10) (
ag1 (m10++[(⟨(p21.i:Int),p17,p18,p19,p20⟩:Gapi_Place)]) m11 (p21.i:Int) (p17+1) p22 p19 (p20+1) line7 line8 (m12+1)
) (
j3 1
)
) (
j3 1
)
)
) (
zam (((p21.r:Int):Int) != 13) (
zam (((p21.r:Int):Int) != 10) (
ag1 (m10++[(⟨(p21.i:Int),p17,p18,p19,p20⟩:Gapi_Place)]) m11 (p21.i:Int) (p17+1) p22 p19 (p20+1) line7 line8 (m12+1)
) (
j3 1
)
) (
j3 1
)
)
)
) (fun (width1:Int) =>
grd (I64 ((p21.i:Int)+1)) <|
grd (I64 (((p21.i:Int)+1) - width1)) <|
grd (m11.length+1≤2147483648) <|
grd (I64 ((p21.i:Int)+1)) <|
grd (I64 (p19+1)) <|
ag1 (m10++[(⟨(p21.i:Int),p17,p18,p19,p20⟩:Gapi_Place)]) (m11++[(⟨line7,((p21.i:Int)+1) - width1,width1,line8⟩:Gplace_ended)]) (p21.i:Int) (p17+1) p22 (p19+1) 0 ((p21.i:Int)+1) ((m10++[(⟨(p21.i:Int),p17,p18,p19,p20⟩:Gapi_Place)]).length:Int) (m12+1)
)
)
) (
j1 m10 m11 p16 p17 p18 p19 p20 line7 line8
)
def zds (s1:ByteArray):Option ((Option Gplace_Map)×Int) :=
zam (decide ((65536:Int)<(s1.size:Int))) (
some (none,3)
) (
zbk (fun (j1:(List Gapi_Place)→(List Gplace_ended)→Int→Int→Int→Int→Int→Int→Int→Option ((Option Gplace_Map)×Int)) =>
zaT (fun _ _ _ _ _ _ _ _ _ _=>none) (zcs s1 j1) zb8 ([]:List Gapi_Place) ([]:List Gplace_ended) 0 0 0 0 0 0 0 0
) (fun (m1:List Gapi_Place) (m2:List Gplace_ended) (p1:Int) (p2:Int) (p3:Int) (p4:Int) (p5:Int) (line1:Int) (line2:Int) =>
grd (m1.length+1≤2147483648) <|
grd (m2.length+1≤2147483648) <|
some ((some (⟨s1,m1++[(⟨(s1.size:Int),p2,p3,p4,p5⟩:Gapi_Place)],m2++[(⟨line1,(s1.size:Int),0,line2⟩:Gplace_ended)]⟩:Gplace_Map)),0)
)
)
theorem zkb {s1:ByteArray} {r:((Option Gplace_Map)×Int)} (h:zds s1=some r):Fn Tryd.prog 32 [.string s1] [] (fun v0:Value=>.tuple #[v0,zI r.2]) (fun v0=>[zhG zdd zdc 128 v0 r.1]):=by
 unfold zds at h
 refine Fn.intro Tryd.func32 rfl Tryd.ntmps32 (by simp) ?_
 intro w0 K
 refine zyG (zyR 2 rfl (zyN ?_))
 refine zeI (β:=Unit) (l:=0) (fun _=>False) (fun _=>[]) (fun _=>[]) rfl ?_ ?_
 ·
  refine zaF (zyG (zyR 1 rfl (zbt rfl dc rfl Tryd.underlying9 (zaQ rfl zcQ (zyN ?_)))))
  refine zyB rfl h (fun h => ?_) (fun h => ?_)
  ·
   refine zyG (zyR 2 rfl (zyN (zax (zag (zbG (by simp) (zcA zdd zdc 128 ?_))))))
   cases h
   exact zaC (rs:=[.tmp 2,.tmp 3]) (.pointer none) (.inl rfl) Tryd.results32 (.cons (.tmp rfl) (.cons (.tmp rfl) .nil)) rfl (zae [0] kr rfl)
  refine zar (zaH ?_)
  obtain ⟨j1,hj1,h⟩:=zbU h
  refine zaZ (β:=(List Gapi_Place)×(List Gplace_ended)×Int×Int×Int×Int×Int×Int×Int×Nat×Hd×Hd×Nat×Nat) 4 rfl (fun b=>j1 b.1 b.2.1 b.2.2.1 b.2.2.2.1 b.2.2.2.2.1 b.2.2.2.2.2.1 b.2.2.2.2.2.2.1 b.2.2.2.2.2.2.2.1 b.2.2.2.2.2.2.2.2.1=some r) (fun b=>[]) (fun b=>[(0,.string s1),(4,zP b.2.2.2.2.2.2.2.2.2.1),(5,zP b.2.2.2.2.2.2.2.2.2.2.2.2.1),(6,zP b.2.2.2.2.2.2.2.2.2.2.2.2.2)]) (fun b=>[cells b.2.2.2.2.2.2.2.2.2.1 [.string s1,b.2.2.2.2.2.2.2.2.2.2.1.v,b.2.2.2.2.2.2.2.2.2.2.2.1.v] 128,zv2 b.2.2.2.2.2.2.2.2.2.2.1.v b.1,zv1 b.2.2.2.2.2.2.2.2.2.2.2.1.v b.2.1,cells b.2.2.2.2.2.2.2.2.2.2.2.2.1 [zI b.2.2.1,zI b.2.2.2.1,zI b.2.2.2.2.1,zI b.2.2.2.2.2.1,zI b.2.2.2.2.2.2.1] 130,cells b.2.2.2.2.2.2.2.2.2.2.2.2.2 [zI b.2.2.2.2.2.2.2.1,zI 0,zI 0,zI b.2.2.2.2.2.2.2.2.1] 132]) (fun cut => ?_) ?_
  ·
   refine zyG (zyR 1 rfl ?_)
   refine zbJ (v:=.agg #[.string s1,.slice none 0 0,.slice none 0 0]) (ps:=[(0,.tmp 13)]) rfl dc rfl (fun _=>by kernel_rfl) ?_
   refine zeC rfl dc rfl (fun b4 => ?_)
   refine zyR 1 rfl (zyH ?_)
   refine zbJ (v:=.agg #[zI 0,zI 0,zI 0,zI 0,zI 0]) (ps:=[]) rfl dc rfl (fun _=>by kernel_rfl) ?_
   refine zbY zpE rfl dc (fun b5 => ?_)
   refine za6 (k:=1) (vs:=[zI 0,zI 0,zI 0,zI 0,zI 0]) (l':=[zI 0,zI 0,zI 0,zI 0,zI 0]) zpO rfl rfl rfl rfl rfl (show _≤_ by simp) rfl rfl (zyH ?_)
   refine zbJ (v:=.agg #[zI 0,zI 0,zI 0,zI 0]) (ps:=[]) rfl dc rfl (fun _=>by kernel_rfl) ?_
   refine zbY zpD rfl dc (fun b6 => ?_)
   refine za6 (k:=2) (vs:=[zI 0,zI 0,zI 0,zI 0]) (l':=[zI 0,zI 0,zI 0,zI 0]) ziQ rfl rfl rfl rfl rfl (show _≤_ by simp) rfl rfl (zyN (zaF (zhM (zaH (cut (zyG (zyR 1 rfl ?_)))))))
   refine zdh Tryd.underlying9 rfl dc rfl (fun b7 => ?_)
   refine zyN (zaL (zeD (enc:=zc4) (e:=130) (size:=5) ?_))
   refine zeD (enc:=zcD) (e:=132) (size:=4) ?_
   refine zbK (β:=Nat×(List Gapi_Place)×(List Gplace_ended)×Int×Int×Int×Int×Int×Int×Int×Nat×Hd×Hd) (fun b=>zaT (fun _ _ _ _ _ _ _ _ _ _=>none) (zcs s1 j1) b.1 b.2.1 b.2.2.1 b.2.2.2.1 b.2.2.2.2.1 b.2.2.2.2.2.1 b.2.2.2.2.2.2.1 b.2.2.2.2.2.2.2.1 b.2.2.2.2.2.2.2.2.1 b.2.2.2.2.2.2.2.2.2.1 b.2.2.2.2.2.2.2.2.2.2.1=some r) (fun b=>[]) (fun b=>[(0,.string s1),(4,zP b4),(5,zP b5),(6,zP b6),(19,zP b7)]) (fun b=>[cells b4 [.string s1,b.2.2.2.2.2.2.2.2.2.2.2.1.v,b.2.2.2.2.2.2.2.2.2.2.2.2.v] 128,zv2 b.2.2.2.2.2.2.2.2.2.2.2.1.v b.2.1,zv1 b.2.2.2.2.2.2.2.2.2.2.2.2.v b.2.2.1,cells b5 [zI b.2.2.2.1,zI b.2.2.2.2.1,zI b.2.2.2.2.2.1,zI b.2.2.2.2.2.2.1,zI b.2.2.2.2.2.2.2.1] 130,cells b6 [zI b.2.2.2.2.2.2.2.2.1,zI 0,zI 0,zI b.2.2.2.2.2.2.2.2.2.1] 132,obj b7 (.stringIter s1 (zed s1 b.2.2.2.2.2.2.2.2.2.2.1))]) (fun b=>b.1) (zb8,([]:List Gapi_Place),([]:List Gplace_ended),0,0,0,0,0,0,0,0,Hd.nil,Hd.nil) (by exact h) rfl (za1 rfl) (zae [0,4,5,1,2,3] kr rfl) ?_
   rintro ⟨n1,m10,m11,p16,p17,p18,p19,p20,line7,line8,m12,hd8,hd9⟩ h
   cases n1 with
   | zero=>exact zdu h
   | succ n1 =>
    obtain ⟨ag1,hag1⟩:∃ ag,ag=zaT (fun _ _ _ _ _ _ _ _ _ _=>none) (zcs s1 j1) n1:=⟨_,rfl⟩
    have h:zcs s1 j1 ag1 m10 m11 p16 p17 p18 p19 p20 line7 line8 m12=some r:=by rw [hag1]; exact h
    unfold zcs at h
    refine zyG ?_
    refine zdo (b:=decide (m12<(pcs s1.data.toList).length)) (fun hb2 => ?_) (fun hb2 => ?_)
    ·
     have h:=zc1 hb2 h
     obtain ⟨p21,hq1,h⟩:=zbT h
     refine zdA (k:=5) (m:=m12) (p:=p21) rfl dc rfl rfl hq1 (zaE rfl dc rfl rfl (zyN (zaF (zbg rfl (zar (zaH (zaL ?_)))))))
     obtain ⟨j2,hj2,h⟩:=zbU h
     refine zaZ (β:=Int×Hd) 6 rfl (fun b=>j2 b.1=some r) (fun b=>[]) (fun b=>[(0,.string s1),(4,zP b4),(5,zP b5),(6,zP b6),(7,zI (p21.i:Int)),(8,.int .i32 (p21.r:Int)),(19,zP b7)]) (fun b=>[cells b4 [.string s1,b.2.v,hd9.v] 128,zv2 b.2.v (m10++[(⟨(p21.i:Int),p17,p18,p19,p20⟩:Gapi_Place)]),zv1 hd9.v m11,cells b5 [zI (p21.i:Int),zI (p17+1),zI b.1,zI p19,zI (p20+1)] 130,cells b6 [zI line7,zI 0,zI 0,zI line8] 132,obj b7 (.stringIter s1 (zed s1 (m12+1)))]) (fun cut => ?_) ?_
     ·
      refine zyG (zaE rfl dc rfl rfl (zaE rfl dc rfl rfl (zyR 2 rfl (zyH (zyR 1 rfl (zac zlx rfl dc rfl (show _=0 from rfl) ?_))))))
      refine zbu (k:=3) (l':=[zI (p21.i:Int),zI p17,zI p18,zI p19,zI p20]) zhs rfl rfl rfl rfl rfl (fun _ _=>rfl) rfl ?_
      refine zyN (zaF ?_)
      obtain ⟨hg1,h⟩:=zbM h
      refine zfU 1 ?_
      refine let vals1:(Nat×Hd)→List (Nat×Nat×Value):=fun b=>[(0,26,zP b4),(1,27,zP b4),(2,28,zP b4),(3,29,.pointer (some ⟨b4,1,none⟩)),(4,30,hd8.v),(5,31,.agg #[zI (p21.i:Int),zI p17,zI p18,zI p19,zI p20]),(6,32,.slice (some ⟨b.1,0,none⟩) 1 1),(7,33,b.2.v)]; let LL1:(Nat→Prop)→(Nat×Hd)→List Asn:=fun D b=>[cells b4 [.string s1,hd8.v,hd9.v] 128,eD D (zv2 hd8.v m10) [(7,zv2 b.2.v (m10++[(⟨(p21.i:Int),p17,p18,p19,p20⟩:Gapi_Place)]))],zv1 hd9.v m11,cells b5 [zI (p21.i:Int),zI p17,zI p18,zI p19,zI p20] 130,cells b6 [zI line7,zI 0,zI 0,zI line8] 132,obj b7 (.stringIter s1 (zed s1 (m12+1))),eD D emp [(6,cells b.1 [zI (p21.i:Int),zI p17,zI p18,zI p19,zI p20] 130)]]; ?_
      have zhq:zyQ [6,7] LL1:=fun i h D b=>zaf rfl (zaf (zmd rfl h) (zaf rfl (zaf rfl (zaf rfl (zaf rfl (zaf (zmd rfl h) rfl))))))
      refine zdS (β:=Nat×Hd) 8 ((0:Nat),Hd.nil) vals1 LL1 mixed kr kr dc (fun _=>rfl) (zaf rfl (zaf zcz (zdr (zaf zcz rfl)))) (znC zhq (fun _=>rfl) (fun _=>rfl) 2 0 (fun _=>rfl) rfl (zyq zhq rfl (fun _=>rfl) (fun _=>rfl) ?_ (zyq zhq rfl (fun _=>rfl) (fun _=>rfl) ?_ (zho zhq rfl (fun _=>rfl) (fun _=>rfl) ?_ (zho zhq rfl (fun _=>rfl) (fun _=>rfl) ?_ (zay ?_ (zay ?_ DrawG.nil))))))) ?_
      · exact fun D ⟨b8,hd11⟩ n d c u i=>zat rfl dc (zab (m:=1) u rfl (d 1 dc)) (zad 2 u i rfl)
      · exact fun D ⟨b8,hd11⟩ n d c u i=>zac zgy rfl dc (zab (m:=2) u rfl (d 2 dc)) (show _=1 from rfl) (zad 3 u i rfl)
      · exact fun D ⟨b8,hd11⟩ n d c u i=>⟨_,(zaf rfl (zaf (zao (fun hD=>n (c 7 _ rfl hD 4 dc)) zas) (zlf rfl))),zah (k:=0) zmC rfl dc (zab (m:=3) u rfl (d 3 dc)) rfl rfl (zad 4 u i rfl)⟩
      · exact fun D ⟨b8,hd11⟩ n d c u i=>⟨_,(zaf rfl (zaf (zao (fun hD=>n (c 6 _ rfl (c 7 _ rfl hD 6 dc) 5 dc)) zas) (zdr (zaf (zao (fun hD=>n (c 6 _ rfl hD 5 dc)) zas) rfl)))),zbf (k:=3) (cs:=[zI (p21.i:Int),zI p17,zI p18,zI p19,zI p20]) zoB rfl dc (zaD (by rfl) rfl) rfl rfl rfl (zad 5 u i rfl)⟩
      ·
       intro D b hn hd hcl
       obtain ⟨zb0,hd11⟩:=b
       refine zaO (zaf rfl (zaf (zao (fun hD=>hn (hcl 7 _ rfl hD 6 dc)) zas) (zdr (zaf (zao hn zas) rfl)))) ?_
       refine zbn (cs:=[zI (p21.i:Int),zI p17,zI p18,zI p19,zI p20]) (te:=130) (ps:=[(0,.tmp 31)]) rfl dc (evP.cons (zab (m:=5) rfl rfl (hd 5 dc)) evP.nil) (fun _=>by kernel_rfl) (fun b8 => ?_)
       refine zd6 6 rfl rfl ?_
       exact za0 (b:=(zb0,hd11)) (b8,hd11) 6 (by rfl) (by rfl) rfl (zpt (zak (fun hD=>absurd hD hn) (zak (fun _=>rfl) rfl))) (zaf rfl (zaf ((zaB (by rfl)).trans (zao (fun hD=>hn (hcl 7 _ rfl hD 6 dc)) zas)) (zdr (zaf (zba (Or.inr rfl) rfl) rfl))))
      ·
       intro D b hn hd hcl
       obtain ⟨b8,zb1⟩:=b
       refine zaO (zaf rfl (zaf (zao hn zas) (zdr (zaf (zba (hd 6 dc) rfl) rfl)))) ?_
       refine zbH (k:=1) (k2:=6) (ys:=[(⟨(p21.i:Int),p17,p18,p19,p20⟩:Gapi_Place)]) Tryd.underlying125 zoN zeH zeG rfl dc (zab (m:=4) rfl rfl (hd 4 dc)) (zab (m:=6) rfl rfl (hd 6 dc)) rfl rfl rfl rfl hg1 (fun v1 => ?_)
       refine zcn (k:=1) rfl (fun hd11 he1 => ?_)
       subst he1
       exact za0 (b:=(b8,zb1)) (b8,hd11) 7 (by rfl) (by rfl) rfl (zoU (zak (fun hD=>absurd hD hn) rfl)) (zaf rfl (zaf (zba (Or.inr rfl) rfl) (zdr (zaf ((zaB (by rfl)).trans (zba (hd 6 dc) rfl)) rfl))))
      intro D b hall
      obtain ⟨b8,hd11⟩:=b
      refine zaO (zaf rfl (zaf (zba (hall 7 dc) rfl) (zdr (zaf (zba (hall 6 dc) rfl) rfl)))) (zat rfl dc rfl (zac zgy rfl dc rfl (show _=1 from rfl) ?_))
      refine zbu (k:=0) (l':=[.string s1,hd11.v,hd9.v]) zoy rfl rfl rfl rfl rfl (fun _ _=>rfl) rfl ?_
      refine zyH (zac zlw rfl dc rfl (show _=1 from rfl) (zah (k:=3) za5 rfl dc rfl rfl rfl ?_))
      obtain ⟨hg2,h⟩:=zbM h
      refine zaQ rfl (zaW (r:=p17+1) (IntWalk.i64_in _ hg2)) (zac zlw rfl dc rfl (show _=1 from rfl) ?_)
      refine zbu (k:=3) (l':=[zI (p21.i:Int),zI (p17+1),zI p18,zI p19,zI p20]) zhs rfl rfl rfl rfl rfl (fun _ _=>rfl) rfl ?_
      refine zyH (zac zhK rfl dc rfl (show _=2 from rfl) (zah (k:=3) za5 rfl dc rfl rfl rfl ?_))
      obtain ⟨hg3,h⟩:=zbM h
      refine zaQ rfl (zaW (r:=p18+1) (IntWalk.i64_in _ hg3)) (zac zhK rfl dc rfl (show _=2 from rfl) ?_)
      refine zbu (k:=3) (l':=[zI (p21.i:Int),zI (p17+1),zI (p18+1),zI p19,zI p20]) zhs rfl rfl rfl rfl rfl (fun _ _=>rfl) rfl ?_
      refine zyH (zac zjz rfl dc rfl (show _=4 from rfl) (zah (k:=3) za5 rfl dc rfl rfl rfl ?_))
      obtain ⟨hg4,h⟩:=zbM h
      refine zaQ rfl (zaW (r:=p20+1) (IntWalk.i64_in _ hg4)) (zac zjz rfl dc rfl (show _=4 from rfl) ?_)
      refine zbu (k:=3) (l':=[zI (p21.i:Int),zI (p17+1),zI (p18+1),zI p19,zI (p20+1)]) zhs rfl rfl rfl rfl rfl (fun _ _=>rfl) rfl ?_
      refine zyN (cut (zyG (zyR 1 rfl (zaQ rfl zeB (zyN ?_)))))
      refine zyB rfl h (fun h => ?_) (fun h => ?_)
      ·
       refine zaG (zac zhK rfl dc rfl (show _=2 from rfl) (zah (k:=3) za5 rfl dc rfl rfl rfl ?_))
       obtain ⟨hg5,h⟩:=zbM h
       refine zaQ rfl (zaW (r:=(p18+1)+1) (IntWalk.i64_in _ hg5)) (zac zhK rfl dc rfl (show _=2 from rfl) ?_)
       refine zbu (k:=3) (l':=[zI (p21.i:Int),zI (p17+1),zI ((p18+1)+1),zI p19,zI (p20+1)]) zhs rfl rfl rfl rfl rfl (fun _ _=>rfl) rfl ?_
       refine zaK ?_
       exact zai ((p18+1)+1,hd11) h rfl (za1 rfl) (zae [0,1,2,3,4,5] kr rfl)
      refine zar ?_
      exact zai (p18+1,hd11) h rfl (za1 rfl) (zae [0,1,2,3,4,5] kr rfl)
     rintro ⟨p22,hd10⟩ h
     rw [hj2] at h
     obtain ⟨j3,hj3,h⟩:=zbU h
     refine zaZ (β:=Int) 1 rfl (fun b=>j3 b=some r) (fun b=>[]) (fun b=>[(0,.string s1),(4,zP b4),(5,zP b5),(6,zP b6),(7,zI (p21.i:Int)),(9,zI b),(19,zP b7)]) (fun b=>[cells b4 [.string s1,hd10.v,hd9.v] 128,zv2 hd10.v (m10++[(⟨(p21.i:Int),p17,p18,p19,p20⟩:Gapi_Place)]),zv1 hd9.v m11,cells b5 [zI (p21.i:Int),zI (p17+1),zI p22,zI p19,zI (p20+1)] 130,cells b6 [zI line7,zI 0,zI 0,zI line8] 132,obj b7 (.stringIter s1 (zed s1 (m12+1)))]) (fun cut => ?_) ?_
     ·
      refine zyG (zyR 1 rfl (zyN (cut (zaL (zyG (zyR 1 rfl (zaQ rfl zaq (zyR 1 rfl ?_))))))))
      refine zyS (s:=57) rfl h (fun h => ?_) (fun h => ?_)
      ·
       refine zyR 1 rfl ?_
       obtain ⟨hg6,h⟩:=zbM h
       refine zaQ rfl (zaW (r:=(p21.i:Int)+1) (IntWalk.i64_in _ hg6)) (zyR 1 rfl (zbt rfl dc rfl Tryd.underlying9 (zaQ rfl zbV (zyR 2 rfl ?_))))
       refine zyS (s:=64) rfl h (fun h => ?_) (fun h => ?_)
       ·
        refine zyR 2 rfl ?_
        obtain ⟨hg7,h⟩:=zbM h
        refine zaQ rfl (zaW (r:=(p21.i:Int)+1) (IntWalk.i64_in _ hg7)) ?_
        obtain ⟨c1,hq2,h⟩:=zbT h
        refine zcH rfl dc rfl rfl (zbl Tryd.underlying9 hq2) (zaQ rfl zaq (zyR 2 rfl (zyN ?_)))
        refine zyB rfl h (fun h => ?_) (fun h => ?_)
        ·
         refine zbc (zbX dc (zap (zaw ?_)))
         subst hag1
         exact za8 (n1,m10++[(⟨(p21.i:Int),p17,p18,p19,p20⟩:Gapi_Place)],m11,(p21.i:Int),p17+1,p22,p19,p20+1,line7,line8,m12+1,hd10,hd9) h (Nat.lt_succ_self _) rfl (za1 rfl) (zae [0,1,2,3,4,5] kr rfl)
        refine zyG (zyR 1 rfl (zaQ rfl zaq (zyR 1 rfl ?_)))
        refine zyS (s:=74) rfl h (fun h => ?_) (fun h => ?_)
        ·
         refine zyR 1 rfl (zaQ rfl zcQ (zyR 2 rfl ?_))
         refine zyS (s:=78) rfl h (fun h => ?_) (fun h => ?_)
         ·
          refine zyR 2 rfl ?_
          obtain ⟨hg8,h⟩:=zbM h
          refine zaQ rfl (zcc (r:=(p21.i:Int) - 1) (IntWalk.i64_in _ hg8)) ?_
          obtain ⟨c2,hq3,h⟩:=zbT h
          refine zcH rfl dc rfl rfl (zbl Tryd.underlying9 hq3) (zaQ rfl zaq (zyR 2 rfl (zyN ?_)))
          refine zyB rfl h (fun h => ?_) (fun h => ?_)
          ·
           refine zaG (zyR 1 rfl (zaK (zal ?_)))
           exact zai 2 h rfl (za1 rfl) (zae [0,1,2,3,4,5] kr rfl)
          refine zyG (zyR 1 rfl (zaQ rfl zbF (zyR 1 rfl ?_)))
          refine zyS (s:=88) rfl h (fun h => ?_) (fun h => ?_)
          ·
           refine zyR 1 rfl (zaQ rfl zbF (zyR 2 rfl (zyN ?_)))
           refine zyB rfl h (fun h => ?_) (fun h => ?_)
           ·
            refine zbc (zbX dc (zap (zaw ?_)))
            subst hag1
            exact za8 (n1,m10++[(⟨(p21.i:Int),p17,p18,p19,p20⟩:Gapi_Place)],m11,(p21.i:Int),p17+1,p22,p19,p20+1,line7,line8,m12+1,hd10,hd9) h (Nat.lt_succ_self _) rfl (za1 rfl) (zae [0,1,2,3,4,5] kr rfl)
           refine zar (zal ?_)
           exact zai 1 h rfl (za1 rfl) (zae [0,1,2,3,4,5] kr rfl)
          refine zyR 4 rfl (zyN (zaP rfl (zar (zal ?_))))
          exact zai 1 h rfl (za1 rfl) (zae [0,1,2,3,4,5] kr rfl)
         refine zyR 7 rfl (zyN (zaP rfl (zyG (zyR 1 rfl (zaQ rfl zbF ?_)))))
         refine zyR 1 rfl ?_
         refine zyS (s:=88) rfl h (fun h => ?_) (fun h => ?_)
         ·
          refine zyR 1 rfl (zaQ rfl zbF (zyR 2 rfl (zyN ?_)))
          refine zyB rfl h (fun h => ?_) (fun h => ?_)
          ·
           refine zbc (zbX dc (zap (zaw ?_)))
           subst hag1
           exact za8 (n1,m10++[(⟨(p21.i:Int),p17,p18,p19,p20⟩:Gapi_Place)],m11,(p21.i:Int),p17+1,p22,p19,p20+1,line7,line8,m12+1,hd10,hd9) h (Nat.lt_succ_self _) rfl (za1 rfl) (zae [0,1,2,3,4,5] kr rfl)
          refine zar (zal ?_)
          exact zai 1 h rfl (za1 rfl) (zae [0,1,2,3,4,5] kr rfl)
         refine zyR 4 rfl (zyN (zaP rfl (zar (zal ?_))))
         exact zai 1 h rfl (za1 rfl) (zae [0,1,2,3,4,5] kr rfl)
        refine zyR 11 rfl (zyN (zaP rfl ?_))
        refine zyG (zyR 1 rfl (zaQ rfl zbF (zyR 1 rfl ?_)))
        refine zyS (s:=88) rfl h (fun h => ?_) (fun h => ?_)
        ·
         refine zyR 1 rfl (zaQ rfl zbF (zyR 2 rfl (zyN ?_)))
         refine zyB rfl h (fun h => ?_) (fun h => ?_)
         ·
          refine zbc (zbX dc (zap (zaw ?_)))
          subst hag1
          exact za8 (n1,m10++[(⟨(p21.i:Int),p17,p18,p19,p20⟩:Gapi_Place)],m11,(p21.i:Int),p17+1,p22,p19,p20+1,line7,line8,m12+1,hd10,hd9) h (Nat.lt_succ_self _) rfl (za1 rfl) (zae [0,1,2,3,4,5] kr rfl)
         refine zar (zal ?_)
         exact zai 1 h rfl (za1 rfl) (zae [0,1,2,3,4,5] kr rfl)
        refine zyR 4 rfl (zyN (zaP rfl (zar (zal ?_))))
        exact zai 1 h rfl (za1 rfl) (zae [0,1,2,3,4,5] kr rfl)
       refine zyR 7 rfl (zyN (zaP rfl (zyG (zyR 1 rfl (zaQ rfl zaq ?_)))))
       refine zyR 1 rfl ?_
       refine zyS (s:=74) rfl h (fun h => ?_) (fun h => ?_)
       ·
        refine zyR 1 rfl (zaQ rfl zcQ (zyR 2 rfl ?_))
        refine zyS (s:=78) rfl h (fun h => ?_) (fun h => ?_)
        ·
         refine zyR 2 rfl ?_
         obtain ⟨hg9,h⟩:=zbM h
         refine zaQ rfl (zcc (r:=(p21.i:Int) - 1) (IntWalk.i64_in _ hg9)) ?_
         obtain ⟨c3,hq4,h⟩:=zbT h
         refine zcH rfl dc rfl rfl (zbl Tryd.underlying9 hq4) (zaQ rfl zaq (zyR 2 rfl (zyN ?_)))
         refine zyB rfl h (fun h => ?_) (fun h => ?_)
         ·
          refine zaG (zyR 1 rfl (zaK (zal ?_)))
          exact zai 2 h rfl (za1 rfl) (zae [0,1,2,3,4,5] kr rfl)
         refine zyG (zyR 1 rfl (zaQ rfl zbF (zyR 1 rfl ?_)))
         refine zyS (s:=88) rfl h (fun h => ?_) (fun h => ?_)
         ·
          refine zyR 1 rfl (zaQ rfl zbF (zyR 2 rfl (zyN ?_)))
          refine zyB rfl h (fun h => ?_) (fun h => ?_)
          ·
           refine zbc (zbX dc (zap (zaw ?_)))
           subst hag1
           exact za8 (n1,m10++[(⟨(p21.i:Int),p17,p18,p19,p20⟩:Gapi_Place)],m11,(p21.i:Int),p17+1,p22,p19,p20+1,line7,line8,m12+1,hd10,hd9) h (Nat.lt_succ_self _) rfl (za1 rfl) (zae [0,1,2,3,4,5] kr rfl)
          refine zar (zal ?_)
          exact zai 1 h rfl (za1 rfl) (zae [0,1,2,3,4,5] kr rfl)
         refine zyR 4 rfl (zyN (zaP rfl (zar (zal ?_))))
         exact zai 1 h rfl (za1 rfl) (zae [0,1,2,3,4,5] kr rfl)
        refine zyR 7 rfl (zyN (zaP rfl (zyG (zyR 1 rfl (zaQ rfl zbF ?_)))))
        refine zyR 1 rfl ?_
        refine zyS (s:=88) rfl h (fun h => ?_) (fun h => ?_)
        ·
         refine zyR 1 rfl (zaQ rfl zbF (zyR 2 rfl (zyN ?_)))
         refine zyB rfl h (fun h => ?_) (fun h => ?_)
         ·
          refine zbc (zbX dc (zap (zaw ?_)))
          subst hag1
          exact za8 (n1,m10++[(⟨(p21.i:Int),p17,p18,p19,p20⟩:Gapi_Place)],m11,(p21.i:Int),p17+1,p22,p19,p20+1,line7,line8,m12+1,hd10,hd9) h (Nat.lt_succ_self _) rfl (za1 rfl) (zae [0,1,2,3,4,5] kr rfl)
         refine zar (zal ?_)
         exact zai 1 h rfl (za1 rfl) (zae [0,1,2,3,4,5] kr rfl)
        refine zyR 4 rfl (zyN (zaP rfl (zar (zal ?_))))
        exact zai 1 h rfl (za1 rfl) (zae [0,1,2,3,4,5] kr rfl)
       refine zyR 11 rfl (zyN (zaP rfl ?_))
       refine zyG (zyR 1 rfl (zaQ rfl zbF (zyR 1 rfl ?_)))
       refine zyS (s:=88) rfl h (fun h => ?_) (fun h => ?_)
       ·
        refine zyR 1 rfl (zaQ rfl zbF (zyR 2 rfl (zyN ?_)))
        refine zyB rfl h (fun h => ?_) (fun h => ?_)
        ·
         refine zbc (zbX dc (zap (zaw ?_)))
         subst hag1
         exact za8 (n1,m10++[(⟨(p21.i:Int),p17,p18,p19,p20⟩:Gapi_Place)],m11,(p21.i:Int),p17+1,p22,p19,p20+1,line7,line8,m12+1,hd10,hd9) h (Nat.lt_succ_self _) rfl (za1 rfl) (zae [0,1,2,3,4,5] kr rfl)
        refine zar (zal ?_)
        exact zai 1 h rfl (za1 rfl) (zae [0,1,2,3,4,5] kr rfl)
       refine zyR 4 rfl (zyN (zaP rfl (zar (zal ?_))))
       exact zai 1 h rfl (za1 rfl) (zae [0,1,2,3,4,5] kr rfl)
      refine zyR 14 rfl ?_
      refine zyN (zaP rfl (zyG (zyR 1 rfl (zaQ rfl zaq (zyR 1 rfl ?_)))))
      refine zyS (s:=74) rfl h (fun h => ?_) (fun h => ?_)
      ·
       refine zyR 1 rfl (zaQ rfl zcQ (zyR 2 rfl ?_))
       refine zyS (s:=78) rfl h (fun h => ?_) (fun h => ?_)
       ·
        refine zyR 2 rfl ?_
        obtain ⟨hg10,h⟩:=zbM h
        refine zaQ rfl (zcc (r:=(p21.i:Int) - 1) (IntWalk.i64_in _ hg10)) ?_
        obtain ⟨c4,hq5,h⟩:=zbT h
        refine zcH rfl dc rfl rfl (zbl Tryd.underlying9 hq5) (zaQ rfl zaq (zyR 2 rfl (zyN ?_)))
        refine zyB rfl h (fun h => ?_) (fun h => ?_)
        ·
         refine zaG (zyR 1 rfl (zaK (zal ?_)))
         exact zai 2 h rfl (za1 rfl) (zae [0,1,2,3,4,5] kr rfl)
        refine zyG (zyR 1 rfl (zaQ rfl zbF (zyR 1 rfl ?_)))
        refine zyS (s:=88) rfl h (fun h => ?_) (fun h => ?_)
        ·
         refine zyR 1 rfl (zaQ rfl zbF (zyR 2 rfl (zyN ?_)))
         refine zyB rfl h (fun h => ?_) (fun h => ?_)
         ·
          refine zbc (zbX dc (zap (zaw ?_)))
          subst hag1
          exact za8 (n1,m10++[(⟨(p21.i:Int),p17,p18,p19,p20⟩:Gapi_Place)],m11,(p21.i:Int),p17+1,p22,p19,p20+1,line7,line8,m12+1,hd10,hd9) h (Nat.lt_succ_self _) rfl (za1 rfl) (zae [0,1,2,3,4,5] kr rfl)
         refine zar (zal ?_)
         exact zai 1 h rfl (za1 rfl) (zae [0,1,2,3,4,5] kr rfl)
        refine zyR 4 rfl (zyN (zaP rfl (zar (zal ?_))))
        exact zai 1 h rfl (za1 rfl) (zae [0,1,2,3,4,5] kr rfl)
       refine zyR 7 rfl (zyN (zaP rfl (zyG (zyR 1 rfl (zaQ rfl zbF ?_)))))
       refine zyR 1 rfl ?_
       refine zyS (s:=88) rfl h (fun h => ?_) (fun h => ?_)
       ·
        refine zyR 1 rfl (zaQ rfl zbF (zyR 2 rfl (zyN ?_)))
        refine zyB rfl h (fun h => ?_) (fun h => ?_)
        ·
         refine zbc (zbX dc (zap (zaw ?_)))
         subst hag1
         exact za8 (n1,m10++[(⟨(p21.i:Int),p17,p18,p19,p20⟩:Gapi_Place)],m11,(p21.i:Int),p17+1,p22,p19,p20+1,line7,line8,m12+1,hd10,hd9) h (Nat.lt_succ_self _) rfl (za1 rfl) (zae [0,1,2,3,4,5] kr rfl)
        refine zar (zal ?_)
        exact zai 1 h rfl (za1 rfl) (zae [0,1,2,3,4,5] kr rfl)
       refine zyR 4 rfl (zyN (zaP rfl (zar (zal ?_))))
       exact zai 1 h rfl (za1 rfl) (zae [0,1,2,3,4,5] kr rfl)
      refine zyR 11 rfl (zyN (zaP rfl ?_))
      refine zyG (zyR 1 rfl (zaQ rfl zbF (zyR 1 rfl ?_)))
      refine zyS (s:=88) rfl h (fun h => ?_) (fun h => ?_)
      ·
       refine zyR 1 rfl (zaQ rfl zbF (zyR 2 rfl (zyN ?_)))
       refine zyB rfl h (fun h => ?_) (fun h => ?_)
       ·
        refine zbc (zbX dc (zap (zaw ?_)))
        subst hag1
        exact za8 (n1,m10++[(⟨(p21.i:Int),p17,p18,p19,p20⟩:Gapi_Place)],m11,(p21.i:Int),p17+1,p22,p19,p20+1,line7,line8,m12+1,hd10,hd9) h (Nat.lt_succ_self _) rfl (za1 rfl) (zae [0,1,2,3,4,5] kr rfl)
       refine zar (zal ?_)
       exact zai 1 h rfl (za1 rfl) (zae [0,1,2,3,4,5] kr rfl)
      refine zyR 4 rfl (zyN (zaP rfl (zar (zal ?_))))
      exact zai 1 h rfl (za1 rfl) (zae [0,1,2,3,4,5] kr rfl)
     rintro width1 h
     rw [hj3] at h
     refine zyG (zyR 1 rfl ?_)
     obtain ⟨hg11,h⟩:=zbM h
     refine zaQ rfl (zaW (r:=(p21.i:Int)+1) (IntWalk.i64_in _ hg11)) (zyR 1 rfl ?_)
     obtain ⟨hg12,h⟩:=zbM h
     refine zaQ rfl (zcc (r:=((p21.i:Int)+1) - width1) (IntWalk.i64_in _ hg12)) (zac zhJ rfl dc rfl (show _=0 from rfl) (zac zez rfl dc rfl (show _=1 from rfl) ?_))
     refine zbu (k:=4) (l':=[zI line7,zI (((p21.i:Int)+1) - width1),zI 0,zI line8]) zhs rfl rfl rfl rfl rfl (fun _ _=>rfl) rfl ?_
     refine zyH (zyR 1 rfl (zac zjy rfl dc rfl (show _=2 from rfl) ?_))
     refine zbu (k:=4) (l':=[zI line7,zI (((p21.i:Int)+1) - width1),zI width1,zI line8]) zhs rfl rfl rfl rfl rfl (fun _ _=>rfl) rfl ?_
     refine zyN (zaF ?_)
     obtain ⟨hg13,h⟩:=zbM h
     refine zfU 1 ?_
     refine let vals2:(Nat×Hd)→List (Nat×Nat×Value):=fun b=>[(0,100,zP b4),(1,101,zP b4),(2,102,zP b4),(3,103,.pointer (some ⟨b4,2,none⟩)),(4,104,hd9.v),(5,105,.agg #[zI line7,zI (((p21.i:Int)+1) - width1),zI width1,zI line8]),(6,106,.slice (some ⟨b.1,0,none⟩) 1 1),(7,107,b.2.v)]; let LL2:(Nat→Prop)→(Nat×Hd)→List Asn:=fun D b=>[cells b4 [.string s1,hd10.v,hd9.v] 128,zv2 hd10.v (m10++[(⟨(p21.i:Int),p17,p18,p19,p20⟩:Gapi_Place)]),eD D (zv1 hd9.v m11) [(7,zv1 b.2.v (m11++[(⟨line7,((p21.i:Int)+1) - width1,width1,line8⟩:Gplace_ended)]))],cells b5 [zI (p21.i:Int),zI (p17+1),zI p22,zI p19,zI (p20+1)] 130,cells b6 [zI line7,zI (((p21.i:Int)+1) - width1),zI width1,zI line8] 132,obj b7 (.stringIter s1 (zed s1 (m12+1))),eD D emp [(6,cells b.1 [zI line7,zI (((p21.i:Int)+1) - width1),zI width1,zI line8] 132)]]; ?_
     refine zdS (β:=Nat×Hd) 8 ((0:Nat),Hd.nil) vals2 LL2 mixed kr kr dc (fun _=>rfl) (zdU (zaf zcz (zbZ (zaf zcz rfl)))) (zay ?_ (zay ?_ (zay ?_ (zay ?_ (zay ?_ (zay ?_ (zay ?_ (zay ?_ DrawG.nil)))))))) ?_
     ·
      intro D b hn hd hcl
      obtain ⟨b9,hd12⟩:=b
      refine zaO (zqF rfl) (zfb rfl dc (zaD (by rfl) rfl) ?_)
      exact za0 (b:=(b9,hd12)) (b9,hd12) 0 (by rfl) (by rfl) rfl (zhp rfl) (zdU (zaf (zaB (by rfl)) (zbZ (zaf (zaB (by rfl)) rfl))))
     ·
      intro D b hn hd hcl
      obtain ⟨b9,hd12⟩:=b
      refine zaO (zdU (zaf (zao (fun hD=>hn (hcl 2 _ rfl (hcl 3 _ rfl (hcl 4 _ rfl (hcl 7 _ rfl hD 4 dc) 3 dc) 2 dc) 1 dc)) zas) (zdr rfl))) ?_
      refine zfb rfl dc (zaD (by rfl) rfl) ?_
      exact za0 (b:=(b9,hd12)) (b9,hd12) 1 (by rfl) (by rfl) rfl (zhp rfl) (zdU (zaf ((zaB (by rfl)).trans (zao (fun hD=>hn (hcl 2 _ rfl (hcl 3 _ rfl (hcl 4 _ rfl (hcl 7 _ rfl hD 4 dc) 3 dc) 2 dc) 1 dc)) zas)) (zbZ (zaf (zaB (by rfl)) rfl))))
     ·
      intro D b hn hd hcl
      obtain ⟨b9,hd12⟩:=b
      refine zaO (zdU (zaf (zao (fun hD=>hn (hcl 3 _ rfl (hcl 4 _ rfl (hcl 7 _ rfl hD 4 dc) 3 dc) 2 dc)) zas) (zdr rfl))) ?_
      refine zat rfl dc (zab (m:=1) rfl rfl (hd 1 dc)) ?_
      exact za0 (b:=(b9,hd12)) (b9,hd12) 2 (by rfl) (by rfl) rfl (zhp rfl) (zdU (zaf ((zaB (by rfl)).trans (zao (fun hD=>hn (hcl 3 _ rfl (hcl 4 _ rfl (hcl 7 _ rfl hD 4 dc) 3 dc) 2 dc)) zas)) (zbZ (zaf (zaB (by rfl)) rfl))))
     ·
      intro D b hn hd hcl
      obtain ⟨b9,hd12⟩:=b
      refine zaO (zdU (zaf (zao (fun hD=>hn (hcl 4 _ rfl (hcl 7 _ rfl hD 4 dc) 3 dc)) zas) (zdr rfl))) ?_
      refine zac zd3 rfl dc (zab (m:=2) rfl rfl (hd 2 dc)) (show _=2 from rfl) ?_
      exact za0 (b:=(b9,hd12)) (b9,hd12) 3 (by rfl) (by rfl) rfl (zhp rfl) (zdU (zaf ((zaB (by rfl)).trans (zao (fun hD=>hn (hcl 4 _ rfl (hcl 7 _ rfl hD 4 dc) 3 dc)) zas)) (zbZ (zaf (zaB (by rfl)) rfl))))
     ·
      intro D b hn hd hcl
      obtain ⟨b9,hd12⟩:=b
      refine zaO (zdU (zaf (zao (fun hD=>hn (hcl 7 _ rfl hD 4 dc)) zas) (zdr rfl))) ?_
      refine zah (k:=0) zhc rfl dc (zab (m:=3) rfl rfl (hd 3 dc)) rfl rfl ?_
      exact za0 (b:=(b9,hd12)) (b9,hd12) 4 (by rfl) (by rfl) rfl (zhp rfl) (zdU (zaf ((zaB (by rfl)).trans (zao (fun hD=>hn (hcl 7 _ rfl hD 4 dc)) zas)) (zbZ (zaf (zaB (by rfl)) rfl))))
     ·
      intro D b hn hd hcl
      obtain ⟨b9,hd12⟩:=b
      refine zaO (zdU (zaf (zao (fun hD=>hn (hcl 6 _ rfl (hcl 7 _ rfl hD 6 dc) 5 dc)) zas) (zbZ (zaf (zao (fun hD=>hn (hcl 6 _ rfl hD 5 dc)) zas) rfl)))) ?_
      refine zbf (k:=4) (cs:=[zI line7,zI (((p21.i:Int)+1) - width1),zI width1,zI line8]) zoA rfl dc (zaD (by rfl) rfl) rfl rfl rfl ?_
      exact za0 (b:=(b9,hd12)) (b9,hd12) 5 (by rfl) (by rfl) rfl (zhp rfl) (zdU (zaf ((zaB (by rfl)).trans (zao (fun hD=>hn (hcl 6 _ rfl (hcl 7 _ rfl hD 6 dc) 5 dc)) zas)) (zbZ (zaf ((zaB (by rfl)).trans (zao (fun hD=>hn (hcl 6 _ rfl hD 5 dc)) zas)) rfl))))
     ·
      intro D b hn hd hcl
      obtain ⟨zb0,hd12⟩:=b
      refine zaO (zdU (zaf (zao (fun hD=>hn (hcl 7 _ rfl hD 6 dc)) zas) (zbZ (zaf (zao hn zas) rfl)))) ?_
      refine zbn (cs:=[zI line7,zI (((p21.i:Int)+1) - width1),zI width1,zI line8]) (te:=132) (ps:=[(0,.tmp 105)]) rfl dc (evP.cons (zab (m:=5) rfl rfl (hd 5 dc)) evP.nil) (fun _=>by kernel_rfl) (fun b9 => ?_)
      refine zd6 6 rfl rfl ?_
      exact za0 (b:=(zb0,hd12)) (b9,hd12) 6 (by rfl) (by rfl) rfl (zpt (zak (fun hD=>absurd hD hn) (zak (fun _=>rfl) rfl))) (zdU (zaf ((zaB (by rfl)).trans (zao (fun hD=>hn (hcl 7 _ rfl hD 6 dc)) zas)) (zbZ (zaf (zba (Or.inr rfl) rfl) rfl))))
     ·
      intro D b hn hd hcl
      obtain ⟨b9,zb1⟩:=b
      refine zaO (zdU (zaf (zao hn zas) (zbZ (zaf (zba (hd 6 dc) rfl) rfl)))) ?_
      refine zbH (k:=2) (k2:=6) (ys:=[(⟨line7,((p21.i:Int)+1) - width1,width1,line8⟩:Gplace_ended)]) Tryd.underlying126 zoM zb5 zej rfl dc (zab (m:=4) rfl rfl (hd 4 dc)) (zab (m:=6) rfl rfl (hd 6 dc)) rfl rfl rfl rfl hg13 (fun v2 => ?_)
      refine zcn (k:=2) rfl (fun hd12 he2 => ?_)
      subst he2
      exact za0 (b:=(b9,zb1)) (b9,hd12) 7 (by rfl) (by rfl) rfl (zoU (zak (fun hD=>absurd hD hn) rfl)) (zdU (zaf (zba (Or.inr rfl) rfl) (zbZ (zaf ((zaB (by rfl)).trans (zba (hd 6 dc) rfl)) rfl))))
     intro D b hall
     obtain ⟨b9,hd12⟩:=b
     refine zaO (zdU (zaf (zba (hall 7 dc) rfl) (zbZ (zaf (zba (hall 6 dc) rfl) rfl)))) (zat rfl dc rfl (zac zd3 rfl dc rfl (show _=2 from rfl) ?_))
     refine zbu (k:=0) (l':=[.string s1,hd10.v,hd12.v]) zox rfl rfl rfl rfl rfl (fun _ _=>rfl) rfl ?_
     refine zyH (zyR 1 rfl ?_)
     obtain ⟨hg14,h⟩:=zbM h
     refine zaQ rfl (zaW (r:=(p21.i:Int)+1) (IntWalk.i64_in _ hg14)) ?_
     refine zbJ (v:=.agg #[zI ((p21.i:Int)+1),zI 0]) (ps:=[(0,.tmp 111)]) rfl dc rfl (fun _=>by kernel_rfl) ?_
     refine zyR 1 rfl (zat rfl dc rfl (zac zgy rfl dc rfl (show _=1 from rfl) (zah (k:=0) zmC rfl dc rfl rfl rfl (zdj (k:=1) rfl dc rfl rfl Tryd.underlying125 ?_))))
     refine zbJ (v:=.agg #[zI ((p21.i:Int)+1),zI 0,zI 0,zI ((m10++[(⟨(p21.i:Int),p17,p18,p19,p20⟩:Gapi_Place)]).length:Int)]) (ps:=[(0,.tmp 112),(2,.tmp 117)]) rfl dc rfl (fun _=>by kernel_rfl) ?_
     refine za6 (k:=4) (vs:=[zI ((p21.i:Int)+1),zI 0,zI 0,zI ((m10++[(⟨(p21.i:Int),p17,p18,p19,p20⟩:Gapi_Place)]).length:Int)]) (l':=[zI ((p21.i:Int)+1),zI 0,zI 0,zI ((m10++[(⟨(p21.i:Int),p17,p18,p19,p20⟩:Gapi_Place)]).length:Int)]) ziQ rfl rfl rfl rfl rfl (show _≤_ by simp) rfl rfl ?_
     refine zyH (zac zlv rfl dc rfl (show _=3 from rfl) (zah (k:=3) za5 rfl dc rfl rfl rfl ?_))
     obtain ⟨hg15,h⟩:=zbM h
     refine zaQ rfl (zaW (r:=p19+1) (IntWalk.i64_in _ hg15)) (zac zlv rfl dc rfl (show _=3 from rfl) ?_)
     refine zbu (k:=3) (l':=[zI (p21.i:Int),zI (p17+1),zI p22,zI (p19+1),zI (p20+1)]) zhs rfl rfl rfl rfl rfl (fun _ _=>rfl) rfl ?_
     refine zyN (zaG (zac zjz rfl dc rfl (show _=4 from rfl) ?_))
     refine zbu (k:=3) (l':=[zI (p21.i:Int),zI (p17+1),zI p22,zI (p19+1),zI 0]) zhs rfl rfl rfl rfl rfl (fun _ _=>rfl) rfl ?_
     refine zaK (zal ?_)
     subst hag1
     exact za8 (n1,m10++[(⟨(p21.i:Int),p17,p18,p19,p20⟩:Gapi_Place)],m11++[(⟨line7,((p21.i:Int)+1) - width1,width1,line8⟩:Gplace_ended)],(p21.i:Int),p17+1,p22,p19+1,0,(p21.i:Int)+1,((m10++[(⟨(p21.i:Int),p17,p18,p19,p20⟩:Gapi_Place)]).length:Int),m12+1,hd10,hd12) h (Nat.lt_succ_self _) rfl (za1 rfl) (zae [0,1,2,3,4,5] kr rfl)
    have h:=zc2 hb2 h
    refine zdB (k:=5) (m:=m12) rfl dc rfl rfl (Nat.le_of_not_lt (of_decide_eq_false hb2)) (zaE rfl dc rfl rfl (zyN (zaF (zaP rfl (zbc (zap (zap (zaw ?_))))))))
    exact zai (m10,m11,p16,p17,p18,p19,p20,line7,line8,b4,hd8,hd9,b5,b6) h rfl (za1 rfl) (zae [0,1,2,3,4] kr rfl)
  rintro ⟨m1,m2,p1,p2,p3,p4,p5,line1,line2,b1,hd1,hd2,b2,b3⟩ h
  rw [hj1] at h
  refine zyG (zyR 1 rfl (zbt rfl dc rfl Tryd.underlying9 (zac zlx rfl dc rfl (show _=0 from rfl) ?_)))
  refine zbu (k:=3) (l':=[zI (s1.size:Int),zI p2,zI p3,zI p4,zI p5]) zhs rfl rfl rfl rfl rfl (fun _ _=>rfl) rfl ?_
  refine zyN (zaF ?_)
  obtain ⟨hg16,h⟩:=zbM h
  refine zfU 1 ?_
  refine let vals3:(Nat×Hd)→List (Nat×Nat×Value):=fun b=>[(0,127,zP b1),(1,128,zP b1),(2,129,zP b1),(3,130,.pointer (some ⟨b1,1,none⟩)),(4,131,hd1.v),(5,132,.agg #[zI (s1.size:Int),zI p2,zI p3,zI p4,zI p5]),(6,133,.slice (some ⟨b.1,0,none⟩) 1 1),(7,134,b.2.v)]; let LL3:(Nat→Prop)→(Nat×Hd)→List Asn:=fun D b=>[cells b1 [.string s1,hd1.v,hd2.v] 128,eD D (zv2 hd1.v m1) [(7,zv2 b.2.v (m1++[(⟨(s1.size:Int),p2,p3,p4,p5⟩:Gapi_Place)]))],zv1 hd2.v m2,cells b2 [zI (s1.size:Int),zI p2,zI p3,zI p4,zI p5] 130,cells b3 [zI line1,zI 0,zI 0,zI line2] 132,eD D emp [(6,cells b.1 [zI (s1.size:Int),zI p2,zI p3,zI p4,zI p5] 130)]]; ?_
  refine zdS (β:=Nat×Hd) 8 ((0:Nat),Hd.nil) vals3 LL3 mixed kr kr dc (fun _=>rfl) (zaf rfl (zaf zcz (zbZ (zaf zcz rfl)))) (zay ?_ (zay ?_ (zay ?_ (zay ?_ (zay ?_ (zay ?_ (zay ?_ (zay ?_ DrawG.nil)))))))) ?_
  ·
   intro D b hn hd hcl
   obtain ⟨b10,hd13⟩:=b
   refine zaO (zqR rfl) (zfb rfl dc (zaD (by rfl) rfl) ?_)
   exact za0 (b:=(b10,hd13)) (b10,hd13) 0 (by rfl) (by rfl) rfl (zhp rfl) (zaf rfl (zaf (zaB (by rfl)) (zbZ (zaf (zaB (by rfl)) rfl))))
  ·
   intro D b hn hd hcl
   obtain ⟨b10,hd13⟩:=b
   refine zaO (zaf rfl (zaf (zao (fun hD=>hn (hcl 2 _ rfl (hcl 3 _ rfl (hcl 4 _ rfl (hcl 7 _ rfl hD 4 dc) 3 dc) 2 dc) 1 dc)) zas) (zdr rfl))) ?_
   refine zfb rfl dc (zaD (by rfl) rfl) ?_
   exact za0 (b:=(b10,hd13)) (b10,hd13) 1 (by rfl) (by rfl) rfl (zhp rfl) (zaf rfl (zaf ((zaB (by rfl)).trans (zao (fun hD=>hn (hcl 2 _ rfl (hcl 3 _ rfl (hcl 4 _ rfl (hcl 7 _ rfl hD 4 dc) 3 dc) 2 dc) 1 dc)) zas)) (zbZ (zaf (zaB (by rfl)) rfl))))
  ·
   intro D b hn hd hcl
   obtain ⟨b10,hd13⟩:=b
   refine zaO (zaf rfl (zaf (zao (fun hD=>hn (hcl 3 _ rfl (hcl 4 _ rfl (hcl 7 _ rfl hD 4 dc) 3 dc) 2 dc)) zas) (zdr rfl))) ?_
   refine zat rfl dc (zab (m:=1) rfl rfl (hd 1 dc)) ?_
   exact za0 (b:=(b10,hd13)) (b10,hd13) 2 (by rfl) (by rfl) rfl (zhp rfl) (zaf rfl (zaf ((zaB (by rfl)).trans (zao (fun hD=>hn (hcl 3 _ rfl (hcl 4 _ rfl (hcl 7 _ rfl hD 4 dc) 3 dc) 2 dc)) zas)) (zbZ (zaf (zaB (by rfl)) rfl))))
  ·
   intro D b hn hd hcl
   obtain ⟨b10,hd13⟩:=b
   refine zaO (zaf rfl (zaf (zao (fun hD=>hn (hcl 4 _ rfl (hcl 7 _ rfl hD 4 dc) 3 dc)) zas) (zdr rfl))) ?_
   refine zac zgy rfl dc (zab (m:=2) rfl rfl (hd 2 dc)) (show _=1 from rfl) ?_
   exact za0 (b:=(b10,hd13)) (b10,hd13) 3 (by rfl) (by rfl) rfl (zhp rfl) (zaf rfl (zaf ((zaB (by rfl)).trans (zao (fun hD=>hn (hcl 4 _ rfl (hcl 7 _ rfl hD 4 dc) 3 dc)) zas)) (zbZ (zaf (zaB (by rfl)) rfl))))
  ·
   intro D b hn hd hcl
   obtain ⟨b10,hd13⟩:=b
   refine zaO (zaf rfl (zaf (zao (fun hD=>hn (hcl 7 _ rfl hD 4 dc)) zas) (zdr rfl))) ?_
   refine zah (k:=0) zmC rfl dc (zab (m:=3) rfl rfl (hd 3 dc)) rfl rfl ?_
   exact za0 (b:=(b10,hd13)) (b10,hd13) 4 (by rfl) (by rfl) rfl (zhp rfl) (zaf rfl (zaf ((zaB (by rfl)).trans (zao (fun hD=>hn (hcl 7 _ rfl hD 4 dc)) zas)) (zbZ (zaf (zaB (by rfl)) rfl))))
  ·
   intro D b hn hd hcl
   obtain ⟨b10,hd13⟩:=b
   refine zaO (zaf rfl (zaf (zao (fun hD=>hn (hcl 6 _ rfl (hcl 7 _ rfl hD 6 dc) 5 dc)) zas) (zbZ (zaf (zao (fun hD=>hn (hcl 6 _ rfl hD 5 dc)) zas) rfl)))) ?_
   refine zbf (k:=3) (cs:=[zI (s1.size:Int),zI p2,zI p3,zI p4,zI p5]) zoB rfl dc (zaD (by rfl) rfl) rfl rfl rfl ?_
   exact za0 (b:=(b10,hd13)) (b10,hd13) 5 (by rfl) (by rfl) rfl (zhp rfl) (zaf rfl (zaf ((zaB (by rfl)).trans (zao (fun hD=>hn (hcl 6 _ rfl (hcl 7 _ rfl hD 6 dc) 5 dc)) zas)) (zbZ (zaf ((zaB (by rfl)).trans (zao (fun hD=>hn (hcl 6 _ rfl hD 5 dc)) zas)) rfl))))
  ·
   intro D b hn hd hcl
   obtain ⟨zb0,hd13⟩:=b
   refine zaO (zaf rfl (zaf (zao (fun hD=>hn (hcl 7 _ rfl hD 6 dc)) zas) (zbZ (zaf (zao hn zas) rfl)))) ?_
   refine zbn (cs:=[zI (s1.size:Int),zI p2,zI p3,zI p4,zI p5]) (te:=130) (ps:=[(0,.tmp 132)]) rfl dc (evP.cons (zab (m:=5) rfl rfl (hd 5 dc)) evP.nil) (fun _=>by kernel_rfl) (fun b10 => ?_)
   refine zd6 5 rfl rfl ?_
   exact za0 (b:=(zb0,hd13)) (b10,hd13) 6 (by rfl) (by rfl) rfl (zpt (zak (fun hD=>absurd hD hn) (zak (fun _=>rfl) rfl))) (zaf rfl (zaf ((zaB (by rfl)).trans (zao (fun hD=>hn (hcl 7 _ rfl hD 6 dc)) zas)) (zbZ (zaf (zba (Or.inr rfl) rfl) rfl))))
  ·
   intro D b hn hd hcl
   obtain ⟨b10,zb1⟩:=b
   refine zaO (zaf rfl (zaf (zao hn zas) (zbZ (zaf (zba (hd 6 dc) rfl) rfl)))) ?_
   refine zbH (k:=1) (k2:=5) (ys:=[(⟨(s1.size:Int),p2,p3,p4,p5⟩:Gapi_Place)]) Tryd.underlying125 zoN zeH zeG rfl dc (zab (m:=4) rfl rfl (hd 4 dc)) (zab (m:=6) rfl rfl (hd 6 dc)) rfl rfl rfl rfl hg16 (fun v3 => ?_)
   refine zcn (k:=1) rfl (fun hd13 he3 => ?_)
   subst he3
   exact za0 (b:=(b10,zb1)) (b10,hd13) 7 (by rfl) (by rfl) rfl (zoU (zak (fun hD=>absurd hD hn) rfl)) (zaf rfl (zaf (zba (Or.inr rfl) rfl) (zbZ (zaf ((zaB (by rfl)).trans (zba (hd 6 dc) rfl)) rfl))))
  intro D b hall
  obtain ⟨b10,hd13⟩:=b
  refine zaO (zaf rfl (zaf (zba (hall 7 dc) rfl) (zbZ (zaf (zba (hall 6 dc) rfl) rfl)))) (zat rfl dc rfl (zac zgy rfl dc rfl (show _=1 from rfl) ?_))
  refine zbu (k:=0) (l':=[.string s1,hd13.v,hd2.v]) zoy rfl rfl rfl rfl rfl (fun _ _=>rfl) rfl ?_
  refine zyH (zyR 1 rfl (zbt rfl dc rfl Tryd.underlying9 (zac zhJ rfl dc rfl (show _=0 from rfl) (zac zez rfl dc rfl (show _=1 from rfl) ?_))))
  refine zbu (k:=4) (l':=[zI line1,zI (s1.size:Int),zI 0,zI line2]) zhs rfl rfl rfl rfl rfl (fun _ _=>rfl) rfl ?_
  refine zyN (zaF ?_)
  obtain ⟨hg17,h⟩:=zbM h
  refine zfU 1 ?_
  refine let vals4:(Nat×Hd)→List (Nat×Nat×Value):=fun b=>[(0,141,zP b1),(1,142,zP b1),(2,143,zP b1),(3,144,.pointer (some ⟨b1,2,none⟩)),(4,145,hd2.v),(5,146,.agg #[zI line1,zI (s1.size:Int),zI 0,zI line2]),(6,147,.slice (some ⟨b.1,0,none⟩) 1 1),(7,148,b.2.v)]; let LL4:(Nat→Prop)→(Nat×Hd)→List Asn:=fun D b=>[cells b1 [.string s1,hd13.v,hd2.v] 128,zv2 hd13.v (m1++[(⟨(s1.size:Int),p2,p3,p4,p5⟩:Gapi_Place)]),eD D (zv1 hd2.v m2) [(7,zv1 b.2.v (m2++[(⟨line1,(s1.size:Int),0,line2⟩:Gplace_ended)]))],cells b2 [zI (s1.size:Int),zI p2,zI p3,zI p4,zI p5] 130,cells b3 [zI line1,zI (s1.size:Int),zI 0,zI line2] 132,cells b10 [zI (s1.size:Int),zI p2,zI p3,zI p4,zI p5] 130,eD D emp [(6,cells b.1 [zI line1,zI (s1.size:Int),zI 0,zI line2] 132)]]; ?_
  refine zdS (β:=Nat×Hd) 8 ((0:Nat),Hd.nil) vals4 LL4 mixed kr kr dc (fun _=>rfl) (zdU (zaf zcz (zbZ (zaf zcz rfl)))) (zay ?_ (zay ?_ (zay ?_ (zay ?_ (zay ?_ (zay ?_ (zay ?_ (zay ?_ DrawG.nil)))))))) ?_
  ·
   intro D b hn hd hcl
   obtain ⟨b11,hd14⟩:=b
   refine zaO (zqF rfl) (zfb rfl dc (zaD (by rfl) rfl) ?_)
   exact za0 (b:=(b11,hd14)) (b11,hd14) 0 (by rfl) (by rfl) rfl (zhp rfl) (zdU (zaf (zaB (by rfl)) (zbZ (zaf (zaB (by rfl)) rfl))))
  ·
   intro D b hn hd hcl
   obtain ⟨b11,hd14⟩:=b
   refine zaO (zdU (zaf (zao (fun hD=>hn (hcl 2 _ rfl (hcl 3 _ rfl (hcl 4 _ rfl (hcl 7 _ rfl hD 4 dc) 3 dc) 2 dc) 1 dc)) zas) (zdr rfl))) ?_
   refine zfb rfl dc (zaD (by rfl) rfl) ?_
   exact za0 (b:=(b11,hd14)) (b11,hd14) 1 (by rfl) (by rfl) rfl (zhp rfl) (zdU (zaf ((zaB (by rfl)).trans (zao (fun hD=>hn (hcl 2 _ rfl (hcl 3 _ rfl (hcl 4 _ rfl (hcl 7 _ rfl hD 4 dc) 3 dc) 2 dc) 1 dc)) zas)) (zbZ (zaf (zaB (by rfl)) rfl))))
  ·
   intro D b hn hd hcl
   obtain ⟨b11,hd14⟩:=b
   refine zaO (zdU (zaf (zao (fun hD=>hn (hcl 3 _ rfl (hcl 4 _ rfl (hcl 7 _ rfl hD 4 dc) 3 dc) 2 dc)) zas) (zdr rfl))) ?_
   refine zat rfl dc (zab (m:=1) rfl rfl (hd 1 dc)) ?_
   exact za0 (b:=(b11,hd14)) (b11,hd14) 2 (by rfl) (by rfl) rfl (zhp rfl) (zdU (zaf ((zaB (by rfl)).trans (zao (fun hD=>hn (hcl 3 _ rfl (hcl 4 _ rfl (hcl 7 _ rfl hD 4 dc) 3 dc) 2 dc)) zas)) (zbZ (zaf (zaB (by rfl)) rfl))))
  ·
   intro D b hn hd hcl
   obtain ⟨b11,hd14⟩:=b
   refine zaO (zdU (zaf (zao (fun hD=>hn (hcl 4 _ rfl (hcl 7 _ rfl hD 4 dc) 3 dc)) zas) (zdr rfl))) ?_
   refine zac zd3 rfl dc (zab (m:=2) rfl rfl (hd 2 dc)) (show _=2 from rfl) ?_
   exact za0 (b:=(b11,hd14)) (b11,hd14) 3 (by rfl) (by rfl) rfl (zhp rfl) (zdU (zaf ((zaB (by rfl)).trans (zao (fun hD=>hn (hcl 4 _ rfl (hcl 7 _ rfl hD 4 dc) 3 dc)) zas)) (zbZ (zaf (zaB (by rfl)) rfl))))
  ·
   intro D b hn hd hcl
   obtain ⟨b11,hd14⟩:=b
   refine zaO (zdU (zaf (zao (fun hD=>hn (hcl 7 _ rfl hD 4 dc)) zas) (zdr rfl))) ?_
   refine zah (k:=0) zhc rfl dc (zab (m:=3) rfl rfl (hd 3 dc)) rfl rfl ?_
   exact za0 (b:=(b11,hd14)) (b11,hd14) 4 (by rfl) (by rfl) rfl (zhp rfl) (zdU (zaf ((zaB (by rfl)).trans (zao (fun hD=>hn (hcl 7 _ rfl hD 4 dc)) zas)) (zbZ (zaf (zaB (by rfl)) rfl))))
  ·
   intro D b hn hd hcl
   obtain ⟨b11,hd14⟩:=b
   refine zaO (zdU (zaf (zao (fun hD=>hn (hcl 6 _ rfl (hcl 7 _ rfl hD 6 dc) 5 dc)) zas) (zbZ (zaf (zao (fun hD=>hn (hcl 6 _ rfl hD 5 dc)) zas) rfl)))) ?_
   refine zbf (k:=4) (cs:=[zI line1,zI (s1.size:Int),zI 0,zI line2]) zoA rfl dc (zaD (by rfl) rfl) rfl rfl rfl ?_
   exact za0 (b:=(b11,hd14)) (b11,hd14) 5 (by rfl) (by rfl) rfl (zhp rfl) (zdU (zaf ((zaB (by rfl)).trans (zao (fun hD=>hn (hcl 6 _ rfl (hcl 7 _ rfl hD 6 dc) 5 dc)) zas)) (zbZ (zaf ((zaB (by rfl)).trans (zao (fun hD=>hn (hcl 6 _ rfl hD 5 dc)) zas)) rfl))))
  ·
   intro D b hn hd hcl
   obtain ⟨zb0,hd14⟩:=b
   refine zaO (zdU (zaf (zao (fun hD=>hn (hcl 7 _ rfl hD 6 dc)) zas) (zbZ (zaf (zao hn zas) rfl)))) ?_
   refine zbn (cs:=[zI line1,zI (s1.size:Int),zI 0,zI line2]) (te:=132) (ps:=[(0,.tmp 146)]) rfl dc (evP.cons (zab (m:=5) rfl rfl (hd 5 dc)) evP.nil) (fun _=>by kernel_rfl) (fun b11 => ?_)
   refine zd6 6 rfl rfl ?_
   exact za0 (b:=(zb0,hd14)) (b11,hd14) 6 (by rfl) (by rfl) rfl (zpt (zak (fun hD=>absurd hD hn) (zak (fun _=>rfl) rfl))) (zdU (zaf ((zaB (by rfl)).trans (zao (fun hD=>hn (hcl 7 _ rfl hD 6 dc)) zas)) (zbZ (zaf (zba (Or.inr rfl) rfl) rfl))))
  ·
   intro D b hn hd hcl
   obtain ⟨b11,zb1⟩:=b
   refine zaO (zdU (zaf (zao hn zas) (zbZ (zaf (zba (hd 6 dc) rfl) rfl)))) ?_
   refine zbH (k:=2) (k2:=6) (ys:=[(⟨line1,(s1.size:Int),0,line2⟩:Gplace_ended)]) Tryd.underlying126 zoM zb5 zej rfl dc (zab (m:=4) rfl rfl (hd 4 dc)) (zab (m:=6) rfl rfl (hd 6 dc)) rfl rfl rfl rfl hg17 (fun v4 => ?_)
   refine zcn (k:=2) rfl (fun hd14 he4 => ?_)
   subst he4
   exact za0 (b:=(b11,zb1)) (b11,hd14) 7 (by rfl) (by rfl) rfl (zoU (zak (fun hD=>absurd hD hn) rfl)) (zdU (zaf (zba (Or.inr rfl) rfl) (zbZ (zaf ((zaB (by rfl)).trans (zba (hd 6 dc) rfl)) rfl))))
  intro D b hall
  obtain ⟨b11,hd14⟩:=b
  refine zaO (zdU (zaf (zba (hall 7 dc) rfl) (zbZ (zaf (zba (hall 6 dc) rfl) rfl)))) (zat rfl dc rfl (zac zd3 rfl dc rfl (show _=2 from rfl) ?_))
  refine zbu (k:=0) (l':=[.string s1,hd13.v,hd14.v]) zox rfl rfl rfl rfl rfl (fun _ _=>rfl) rfl ?_
  refine zyH (zyR 3 rfl (zyN (zax (zbG (by simp) ?_))))
  refine znw (As:=[cells b1 [.string s1,hd13.v,hd14.v] 128,zv2 hd13.v (m1++[(⟨(s1.size:Int),p2,p3,p4,p5⟩:Gapi_Place)]),zv1 hd14.v (m2++[(⟨line1,(s1.size:Int),0,line2⟩:Gplace_ended)])]) (zae [0,1,2] kr rfl) (zja (enc:=zdd) (nest:=zdc) (t:=128) (x:=(⟨s1,m1++[(⟨(s1.size:Int),p2,p3,p4,p5⟩:Gapi_Place)],m2++[(⟨line1,(s1.size:Int),0,line2⟩:Gplace_ended)]⟩:Gplace_Map)) (b:=b1) (hd:=(hd13,hd14))) (fun _ _ => ?_)
  cases h
  exact zaC (rs:=[.tmp 2,.tmp 3]) (zP b1) (.inl rfl) Tryd.results32 (.cons (.tmp rfl) (.cons (.tmp rfl) .nil)) rfl (zae [7] kr rfl)
 exact fun b hb=>hb.elim
def zdW (m1:Gplace_Map):Option Int :=
some (m1.lines.length:Int)
theorem zgo {bm1:Nat} {m1:Gplace_Map} {m1_h0 m1_h1:Hd} {r:Int} (h:zdW m1=some r):FnR Tryd.prog 33 [zP bm1] [cells bm1 [.string m1.text,m1_h0.v,m1_h1.v] 128,zv2 m1_h0.v m1.places,zv1 m1_h1.v m1.lines] [] (fun _:Unit=>(zI r)) (fun _=>[]):=by
 unfold zdW at h
 refine FnR.intro Tryd.func33 rfl Tryd.ntmps33 (by simp) ?_
 intro w0 K hrd
 refine zyG (zyR 1 rfl (zyN (zaF (zyG (zyR 1 rfl (zaQ rfl (zcK Tryd.underlying86) (zyN (zaP rfl (zar ?_)))))))))
 refine zaH (zyG (zyR 1 rfl (zat rfl dc rfl (zac zd3 rfl dc rfl (show _=2 from rfl) (zbs (i:=0) hrd rfl zhc rfl dc rfl rfl (zdR (hrd.vw (i:=2) rfl) rfl dc rfl Tryd.underlying126 (zyR 1 rfl (zyN (zax ?_)))))))))
 cases h
 exact zaC (rs:=[.tmp 2]) () (.inl rfl) Tryd.results33 (.cons (.tmp rfl) .nil) rfl Splits.nil
def zcZ (m1:Gplace_Map) (line1:Int):Option (Gapi_Span×Int×Int) :=
zam (decide ((line1:Int)<0)) (
some ((⟨0,0⟩:Gapi_Span),0,5)
) (
zam (decide (((m1.lines.length:Int):Int)≤line1)) (
some ((⟨0,0⟩:Gapi_Span),0,5)
) (
zan (zcI m1.lines line1) fun (q1:Gplace_ended) =>
some ((⟨q1.span_From,q1.span_To⟩:Gapi_Span),q1.end_,0)
)
)
theorem zgT {bm1:Nat} {m1:Gplace_Map} {m1_h0 m1_h1:Hd} {line1:Int} {r:(Gapi_Span×Int×Int)} (h:zcZ m1 line1=some r):FnR Tryd.prog 34 [zP bm1,zI line1] [cells bm1 [.string m1.text,m1_h0.v,m1_h1.v] 128,zv2 m1_h0.v m1.places,zv1 m1_h1.v m1.lines] [] (fun _:Unit=>(.tuple #[.agg (zr5 r.1).toArray,zI r.2.1,zI r.2.2])) (fun _=>[]):=by
 unfold zcZ at h
 refine FnR.intro Tryd.func34 rfl Tryd.ntmps34 (by simp) ?_
 intro w0 K hrd
 refine zyG ?_
 refine zbY zoW rfl dc (fun b1 => ?_)
 refine zyR 2 rfl (zyN (zaF (zyG (zyR 1 rfl (zaQ rfl (zcK Tryd.underlying86) (zyN (zaP rfl (zar (zaH ?_)))))))))
 refine zaF (zyG (zyR 1 rfl (zaQ rfl zbV (zyR 1 rfl ?_))))
 refine zyS (s:=12) rfl h (fun h => ?_) (fun h => ?_)
 ·
  refine zyR 8 rfl (zyN (zbg rfl (zyG ?_)))
  refine zbJ (v:=.agg #[zI 0,zI 0]) (ps:=[]) rfl dc rfl (fun _=>by kernel_rfl) ?_
  refine za6 (k:=0) (vs:=[zI 0,zI 0]) (l':=[zI 0,zI 0]) zlM rfl rfl rfl rfl rfl (show _≤_ by simp) rfl rfl ?_
  refine zyR 2 rfl (zyN (zax (zag ?_)))
  cases h
  exact zaC (rs:=[.cell 4 55,.tmp 5,.tmp 6]) () (.inl rfl) Tryd.results34 (.cons (.cells zlO (k:=0) rfl rfl rfl) (.cons (.tmp rfl) (.cons (.tmp rfl) .nil))) rfl Splits.nil
 refine zyR 2 rfl (zat rfl dc rfl (zac zd3 rfl dc rfl (show _=2 from rfl) (zbs (i:=0) hrd rfl zhc rfl dc rfl rfl (zdR (hrd.vw (i:=2) rfl) rfl dc rfl Tryd.underlying126 (zaQ rfl zeB (zyR 1 rfl (zyN ?_)))))))
 refine zyB rfl h (fun h => ?_) (fun h => ?_)
 ·
  refine zyG ?_
  refine zbJ (v:=.agg #[zI 0,zI 0]) (ps:=[]) rfl dc rfl (fun _=>by kernel_rfl) ?_
  refine za6 (k:=0) (vs:=[zI 0,zI 0]) (l':=[zI 0,zI 0]) zlM rfl rfl rfl rfl rfl (show _≤_ by simp) rfl rfl ?_
  refine zyR 2 rfl (zyN (zax (zag ?_)))
  cases h
  exact zaC (rs:=[.cell 4 55,.tmp 5,.tmp 6]) () (.inl rfl) Tryd.results34 (.cons (.cells zlO (k:=0) rfl rfl rfl) (.cons (.tmp rfl) (.cons (.tmp rfl) .nil))) rfl Splits.nil
 refine zar (zaH (zaF ?_))
 obtain ⟨q1,hq1,h⟩:=zbT h
 refine zoo (β:=Unit) 17 16 _ [(0,22,zP bm1),(1,23,zP bm1),(2,24,.pointer (some ⟨bm1,2,none⟩)),(3,25,m1_h1.v),(4,26,zI line1),(5,27,.pointer (some ⟨zc7 m1_h1.v,(0+(line1:Int).toNat)*4,none⟩)),(6,28,.pointer (some ⟨zc7 m1_h1.v,(0+(line1:Int).toNat)*4,none⟩)),(7,29,.agg #[zI q1.span_From,zI q1.span_To]),(8,30,zP bm1),(9,31,zP bm1),(10,32,.pointer (some ⟨bm1,2,none⟩)),(11,33,m1_h1.v),(12,34,zI line1),(13,35,.pointer (some ⟨zc7 m1_h1.v,(0+(line1:Int).toNat)*4,none⟩)),(14,36,.pointer (some ⟨zc7 m1_h1.v,(0+(line1:Int).toNat)*4+2,none⟩)),(15,37,zI q1.end_)] (fun _b=>[]) (fun _b=>[cells b1 [zI q1.span_From,zI q1.span_To] 55]) mixed kr kr rfl dc dc (by rfl) kr kr (zyE 1 0 rfl (zaS ?_ (zaS ?_ (zaS ?_ (zyE 1 4 rfl (zaS ?_ (zaS ?_ (zaS ?_ (zyE 1 8 rfl (zaS ?_ (zaS ?_ (zaS ?_ (zyE 1 12 rfl (zaS ?_ (zaS ?_ (zaS ?_ (zgO DrawPreX.nil))))))))))))))))) (fun _b=>(zyE 1 0 rfl (zaS ?_ (zaS ?_ (zaS ?_ (zyE 1 4 rfl (zaS ?_ (zaS ?_ (zaS ?_ (zyE 1 8 rfl (zaS ?_ (zaS ?_ (zaS ?_ (zyE 1 12 rfl (zaS ?_ (zaS ?_ (zaS ?_ (zgO DrawPreX.nil)))))))))))))))))) ?_ ?_
 · exact fun D n d c u i=>zat rfl dc (zab (m:=0) u rfl (d 0 dc)) (zad 1 u i rfl)
 · exact fun D n d c u i=>zac zd3 rfl dc (zab (m:=1) u rfl (d 1 dc)) (show _=2 from rfl) (zad 2 u i rfl)
 · exact fun D n d c u i=>zbs (i:=0) hrd rfl zhc rfl dc (zab (m:=2) u rfl (d 2 dc)) rfl (zad 3 u i rfl)
 · exact fun D n d c u i=>zbx (hrd.vw (i:=2) rfl) hq1 Tryd.underlying126 ziQ rfl dc (zab (m:=3) u rfl (d 3 dc)) (zab (m:=4) u rfl (d 4 dc)) rfl (zad 5 u i rfl)
 · exact fun D n d c u i=>zac zhJ rfl dc (zab (m:=5) u rfl (d 5 dc)) (show _=(0+(line1:Int).toNat)*4 from rfl) (zad 6 u i rfl)
 · exact fun D n d c u i=>zdQ (m:=0+(line1:Int).toNat) (j:=0) (i:=2) (q:=q1) (cs:=[zI q1.span_From,zI q1.span_To]) hrd rfl zlO zb5 rfl dc (zab (m:=6) u rfl (d 6 dc)) (Vw.get (hrd.vw (i:=2) rfl) hq1) rfl rfl rfl (zad 7 u i rfl)
 · exact fun D n d c u i=>zat rfl dc (zab (m:=8) u rfl (d 8 dc)) (zad 9 u i rfl)
 · exact fun D n d c u i=>zac zd3 rfl dc (zab (m:=9) u rfl (d 9 dc)) (show _=2 from rfl) (zad 10 u i rfl)
 · exact fun D n d c u i=>zbs (i:=0) hrd rfl zhc rfl dc (zab (m:=10) u rfl (d 10 dc)) rfl (zad 11 u i rfl)
 · exact fun D n d c u i=>zbx (hrd.vw (i:=2) rfl) hq1 Tryd.underlying126 ziQ rfl dc (zab (m:=11) u rfl (d 11 dc)) (zab (m:=12) u rfl (d 12 dc)) rfl (zad 13 u i rfl)
 · exact fun D n d c u i=>zac zjy rfl dc (zab (m:=13) u rfl (d 13 dc)) (show _=(0+(line1:Int).toNat)*4+2 from rfl) (zad 14 u i rfl)
 · exact fun D n d c u i=>zcT (n:=0+(line1:Int).toNat) (j:=2) (i:=2) (q:=q1) hrd rfl za5 zb5 rfl dc (zab (m:=14) u rfl (d 14 dc)) (Vw.get (hrd.vw (i:=2) rfl) hq1) rfl dc rfl (zad 15 u i rfl)
 · exact fun D n d c u i=>zat rfl dc (zab (m:=0) u rfl (d 0 dc)) (zad 1 u i rfl)
 · exact fun D n d c u i=>zac zd3 rfl dc (zab (m:=1) u rfl (d 1 dc)) (show _=2 from rfl) (zad 2 u i rfl)
 · exact fun D n d c u i=>zbs (i:=0) hrd rfl zhc rfl dc (zab (m:=2) u rfl (d 2 dc)) rfl (zad 3 u i rfl)
 · exact fun D n d c u i=>zbx (hrd.vw (i:=2) rfl) hq1 Tryd.underlying126 ziQ rfl dc (zab (m:=3) u rfl (d 3 dc)) (zab (m:=4) u rfl (d 4 dc)) rfl (zad 5 u i rfl)
 · exact fun D n d c u i=>zac zhJ rfl dc (zab (m:=5) u rfl (d 5 dc)) (show _=(0+(line1:Int).toNat)*4 from rfl) (zad 6 u i rfl)
 · exact fun D n d c u i=>zdQ (m:=0+(line1:Int).toNat) (j:=0) (i:=2) (q:=q1) (cs:=[zI q1.span_From,zI q1.span_To]) hrd rfl zlO zb5 rfl dc (zab (m:=6) u rfl (d 6 dc)) (Vw.get (hrd.vw (i:=2) rfl) hq1) rfl rfl rfl (zad 7 u i rfl)
 · exact fun D n d c u i=>zat rfl dc (zab (m:=8) u rfl (d 8 dc)) (zad 9 u i rfl)
 · exact fun D n d c u i=>zac zd3 rfl dc (zab (m:=9) u rfl (d 9 dc)) (show _=2 from rfl) (zad 10 u i rfl)
 · exact fun D n d c u i=>zbs (i:=0) hrd rfl zhc rfl dc (zab (m:=10) u rfl (d 10 dc)) rfl (zad 11 u i rfl)
 · exact fun D n d c u i=>zbx (hrd.vw (i:=2) rfl) hq1 Tryd.underlying126 ziQ rfl dc (zab (m:=11) u rfl (d 11 dc)) (zab (m:=12) u rfl (d 12 dc)) rfl (zad 13 u i rfl)
 · exact fun D n d c u i=>zac zjy rfl dc (zab (m:=13) u rfl (d 13 dc)) (show _=(0+(line1:Int).toNat)*4+2 from rfl) (zad 14 u i rfl)
 · exact fun D n d c u i=>zcT (n:=0+(line1:Int).toNat) (j:=2) (i:=2) (q:=q1) hrd rfl za5 zb5 rfl dc (zab (m:=14) u rfl (d 14 dc)) (Vw.get (hrd.vw (i:=2) rfl) hq1) rfl dc rfl (zad 15 u i rfl)
 ·
  intro D hn hd hcl
  refine za6 (k:=0) (vs:=[zI q1.span_From,zI q1.span_To]) (l':=[zI q1.span_From,zI q1.span_To]) zlM rfl (zaD (by rfl) rfl) (zab (m:=7) kr rfl (hd 7 dc)) rfl rfl (show _≤_ by simp) rfl rfl ?_
  exact fun a w ha hw=>⟨(),ha,hw⟩
 intro _b
 refine zyR 2 rfl (zyN (zax ?_))
 cases h
 exact zaC (rs:=[.cell 4 55,.tmp 5,.tmp 6]) () (.inl rfl) Tryd.results34 (.cons (.cells zlO (k:=0) rfl rfl rfl) (.cons (.tmp rfl) (.cons (.tmp rfl) .nil))) rfl Splits.nil
end Go.Proofs.YtbempdelckaccaaDoor

namespace Go.Proofs.YtbempdelckaccaaDoor
open Go.RowKit Go.Lib
set_option linter.unusedVariables false
set_option linter.unusedSimpArgs false
def zeN (s1:ByteArray) (j1:Option Bool) (ag1:Int→Option Bool) (i3:Int):Option Bool :=
zam (decide ((i3:Int)<(s1.size:Int))) (
zbk (fun (j2:Option Bool) =>
zan (zfg s1 i3) fun (c1:Int) =>
zam ((c1:Int) != 32) (
zam ((c1:Int) != 9) (
some false
) (
j2
)
) (
j2
)
) (
grd (I64 (i3+1)) <|
ag1 (i3+1)
)
) (
j1
)
def zek (s1:ByteArray):Option Bool :=
zbk (fun (j1:Option Bool) =>
zaT (fun _=>none) (zeN s1 j1) zb8 0
) (
some true
)
def zeM (s1:ByteArray):Option Bool :=
zam (decide (s1=(⟨#[35]⟩:ByteArray))) (
some true
) (
zam (decide ((1:Int)<(s1.size:Int))) (
zan (zfg s1 0) fun (c1:Int) =>
zam ((c1:Int)==35) (
zan (zfg s1 1) fun (c2:Int) =>
some ((c2:Int)==32)
) (
some false
)
) (
some false
)
)
def zdF (s1:ByteArray) (j1:Int→Option Int) (ag1:Int→Option Int) (n4:Int):Option Int :=
zam (decide ((n4:Int)<(s1.size:Int))) (
zan (zfg s1 n4) fun (c1:Int) =>
zam ((c1:Int)==32) (
grd (I64 (n4+1)) <|
ag1 (n4+1)
) (
j1 n4
)
) (
j1 n4
)
def zbS (s1:ByteArray):Option Int :=
zbk (fun (j1:Int→Option Int) =>
zaT (fun _=>none) (zdF s1 j1) zb8 0
) (fun (n1:Int) =>
some n1
)
def zel (s1:ByteArray) (j1:(List Gapi_Span)→Option (List Gapi_Span)) (ag1:(List Gapi_Span)→Int→Option (List Gapi_Span)) (l4:List Gapi_Span) (i3:Int):Option (List Gapi_Span) :=
zam (decide ((i3:Int)<(s1.size:Int))) (
zbk (fun (j2:(List Gapi_Span)→Int→Option (List Gapi_Span)) =>
zan (zfg s1 i3) fun (c1:Int) =>
zam ((c1:Int)==13) (
grd (I64 (i3+1)) <|
zam (decide (((i3+1):Int)<(s1.size:Int))) (
grd (I64 (i3+1)) <|
zan (zfg s1 (i3+1)) fun (c2:Int) =>
zam ((c2:Int)==10) (
grd (I64 (i3+2)) <|
grd (l4.length+1≤2147483648) <|
grd (I64 (i3+1)) <|
j2 (l4++[(⟨i3,i3+2⟩:Gapi_Span)]) (i3+1)
) (
zan (zfg s1 i3) fun (c3:Int) =>
zam ((c3:Int)==13) (
grd (I64 (i3+1)) <|
grd (l4.length+1≤2147483648) <|
j2 (l4++[(⟨i3,i3+1⟩:Gapi_Span)]) i3
) (
zam ((c3:Int)==10) (
grd (I64 (i3+1)) <|
grd (l4.length+1≤2147483648) <|
j2 (l4++[(⟨i3,i3+1⟩:Gapi_Span)]) i3
) (
j2 l4 i3
)
)
)
) (
zan (zfg s1 i3) fun (c4:Int) =>
zam ((c4:Int)==13) (
grd (I64 (i3+1)) <|
grd (l4.length+1≤2147483648) <|
j2 (l4++[(⟨i3,i3+1⟩:Gapi_Span)]) i3
) (
zam ((c4:Int)==10) (
grd (I64 (i3+1)) <|
grd (l4.length+1≤2147483648) <|
j2 (l4++[(⟨i3,i3+1⟩:Gapi_Span)]) i3
) (
j2 l4 i3
)
)
)
) (
zan (zfg s1 i3) fun (c5:Int) =>
zam ((c5:Int)==13) (
grd (I64 (i3+1)) <|
grd (l4.length+1≤2147483648) <|
j2 (l4++[(⟨i3,i3+1⟩:Gapi_Span)]) i3
) (
zam ((c5:Int)==10) (
grd (I64 (i3+1)) <|
grd (l4.length+1≤2147483648) <|
j2 (l4++[(⟨i3,i3+1⟩:Gapi_Span)]) i3
) (
j2 l4 i3
)
)
)
) (fun (l5:List Gapi_Span) (i4:Int) =>
grd (I64 (i4+1)) <|
ag1 l5 (i4+1)
)
) (
j1 l4
)
def zeE (s1:ByteArray):Option (List Gapi_Span) :=
zbk (fun (j1:(List Gapi_Span)→Option (List Gapi_Span)) =>
zaT (fun _ _=>none) (zel s1 j1) zb8 ([]:List Gapi_Span) 0
) (fun (l1:List Gapi_Span) =>
some l1
)
def zdq (s1:ByteArray) (j1:(List Gapi_Span)→Option (List Gapi_Span)) (r1:(List Gapi_Span)) (r2:(List Gapi_Span)) (ag1:(List Gapi_Span)→Int→Int→Option (List Gapi_Span)) (l4:List Gapi_Span) (from3:Int) (i3:Int):Option (List Gapi_Span) :=
zam (decide ((i3:Int)<((r1.length:Int)+1))) (
zbk (fun (j2:Int→Int→Option (List Gapi_Span)) =>
zam (decide ((i3:Int)<(r2.length:Int))) (
zan (zcI r2 i3) fun (q1:Gapi_Span) =>
zan (zcI r2 i3) fun (q2:Gapi_Span) =>
j2 q2.To q1.From
) (
j2 from3 (s1.size:Int)
)
) (fun (from4:Int) (x1:Int) =>
grd (l4.length+1≤2147483648) <|
grd (I64 (i3+1)) <|
ag1 (l4++[(⟨from3,x1⟩:Gapi_Span)]) from4 (i3+1)
)
) (
j1 l4
)
def ze3 (s1:ByteArray):Option (List Gapi_Span) :=
zbk (fun (j1:(List Gapi_Span)→Option (List Gapi_Span)) =>
zan (zeE s1) fun (r1:(List Gapi_Span)) =>
grd (I64 ((r1.length:Int)+1)) <|
zan (zeE s1) fun (r2:(List Gapi_Span)) =>
zaT (fun _ _ _=>none) (zdq s1 j1 r1 r2) zb8 ([]:List Gapi_Span) 0 0
) (fun (l1:List Gapi_Span) =>
some l1
)
end Go.Proofs.YtbempdelckaccaaDoor

namespace Go.Proofs.YtbempdelckaccaaDoor
open Go.RowKit Go.Lib
set_option linter.unusedVariables false
set_option linter.unusedSimpArgs false
theorem zi4 (s:ByteArray):s.data.toList.length=s.size:=by rw [Array.length_toList]; rfl
theorem zdZ {s:ByteArray} {i:Nat} {b:UInt8} {t:List UInt8} (h:s.data.toList.drop i=b::t):zfg s (i:Int)=some (b.toNat:Int)∧i<s.size:=by
 have hl:i<s.data.toList.length:=by
  rcases Nat.lt_or_ge i s.data.toList.length with h1 | h1
  ·exact h1
  ·rw [List.drop_eq_nil_of_le h1] at h; cases h
 have hs:i<s.size:=by rw [← zi4]; exact hl
 refine ⟨?_,hs⟩
 rw [zm7 rfl hs]
 rw [List.drop_eq_getElem_cons hl] at h
 have h2:=(List.cons.inj h).1
 rw [Array.getElem_toList] at h2
 rw [← h2]; rfl
theorem zdM {s:ByteArray} {i:Nat} (h:s.data.toList.drop i=[]) (hi:i≤s.size):i=s.size:=by
 rw [List.drop_eq_nil_iff,zi4] at h; omega
theorem zea {l:List UInt8} {i:Nat} {b:UInt8} {t:List UInt8} (h:l.drop i=b::t):l.drop (i+1)=t:=by
 rw [← List.drop_drop,h]; rfl
theorem n13 (b:UInt8):((b.toNat:Int)==13)=decide (b=13):=by
 by_cases h:b=13
 ·subst h; rfl
 ·rw [decide_eq_false h]; exact beq_eq_false_iff_ne.2 (fun e=>h (UInt8.toNat.inj (by show b.toNat=13; omega)))
theorem n10 (b:UInt8):((b.toNat:Int)==10)=decide (b=10):=by
 by_cases h:b=10
 ·subst h; rfl
 ·rw [decide_eq_false h]; exact beq_eq_false_iff_ne.2 (fun e=>h (UInt8.toNat.inj (by show b.toNat=10; omega)))
theorem n32 (b:UInt8):((b.toNat:Int)==32)=decide (b=32):=by
 by_cases h:b=32
 ·subst h; rfl
 ·rw [decide_eq_false h]; exact beq_eq_false_iff_ne.2 (fun e=>h (UInt8.toNat.inj (by show b.toNat=32; omega)))
theorem n9 (b:UInt8):((b.toNat:Int)==9)=decide (b=9):=by
 by_cases h:b=9
 ·subst h; rfl
 ·rw [decide_eq_false h]; exact beq_eq_false_iff_ne.2 (fun e=>h (UInt8.toNat.inj (by show b.toNat=9; omega)))
theorem n35 (b:UInt8):((b.toNat:Int)==35)=decide (b=35):=by
 by_cases h:b=35
 ·subst h; rfl
 ·rw [decide_eq_false h]; exact beq_eq_false_iff_ne.2 (fun e=>h (UInt8.toNat.inj (by show b.toNat=35; omega)))
def spP:Bool→Nat→Nat→List UInt8→List (Nat×Nat)
 | _,f,a,[]=>[(f,a)]
 | p,f,a,b::t =>
  if b=13 then (if t.head?=some 10 then spP true f (a+1) t else (f,a)::spP true (a+1) (a+1) t)
  else if b=10 then (f,if p then a - 1 else a)::spP false (a+1) (a+1) t
  else spP false f (a+1) t
def zb6 (l:List UInt8):List (Nat×Nat):=spP false 0 0 l
def mkS (x:Nat×Nat):Gapi_Span:=⟨x.1,x.2⟩
def enP:Bool→Nat→List UInt8→List (Nat×Nat)
 | _,_,[]=>[]
 | p,a,b::t =>
  if b=13 then (if t.head?=some 10 then enP true (a+1) t else (a,a+1)::enP true (a+1) t)
  else if b=10 then ((if p then a - 1 else a),a+1)::enP false (a+1) t
  else enP false (a+1) t
def liE (n:Nat):Nat→List (Nat×Nat)→List (Nat×Nat)
 | f,[]=>[(f,n)]
 | f,(x,y)::es=>(f,x)::liE n y es
theorem zh9:∀ (l:List UInt8) (p:Bool) (f a:Nat),liE (a+l.length) f (enP p a l)=spP p f a l
 | [],p,f,a=>rfl
 | b::t,p,f,a=>by
  have e:a+(b::t).length=a+1+t.length:=by rw [List.length_cons]; omega
  rw [e]
  unfold enP spP
  split
  ·split
   ·exact zh9 t _ _ _
   ·show (f,a)::liE _ _ _=_
    rw [zh9 t]
  ·split
   ·show (f,_)::liE _ _ _=_
    rw [zh9 t]
   ·exact zh9 t _ _ _
theorem zpd {t:List UInt8} (h:t.head?≠some 10) (a:Nat):enP true a t=enP false a t:=by
 cases t with
 | nil=>rfl
 | cons b t =>
  have hb:b≠10:=fun e=>h (by rw [e]; rfl)
  unfold enP
  rw [if_neg hb,if_neg hb]
theorem zim:∀ (l:List UInt8) (p:Bool) (a:Nat),(enP p a l).length≤l.length
 | [],p,a=>Nat.le_refl _
 | b::t,p,a=>by
  unfold enP
  rw [List.length_cons]
  split
  ·split
   ·have:=zim t true (a+1); omega
   ·rw [List.length_cons]; have:=zim t true (a+1); omega
  ·split
   ·rw [List.length_cons]; have:=zim t false (a+1); omega
   ·have:=zim t false (a+1); omega
theorem zni (s:ByteArray) (J:List Gapi_Span→Option (List Gapi_Span)) (hs:s.size≤1073741824):∀ (n i:Nat) (acc:List Gapi_Span),i≤s.size→s.size - i<n→acc.length≤i →
  zaT (fun _ _=>none) (zel s J) n acc (i:Int)=J (acc++(enP false i (s.data.toList.drop i)).map mkS):=by
 intro n
 induction n with
 | zero=>intro i acc h1 h2; omega
 | succ n ih =>
  intro i acc hi hn ha
  rw [zbI]
  obtain ⟨ag,hag⟩:∃ ag,ag=zaT (fun _ _=>none) (zel s J) n:=⟨_,rfl⟩
  have ihn:∀ (i:Nat) (acc:List Gapi_Span),i≤s.size→s.size - i<n→acc.length≤i→ag acc (i:Int)=J (acc++(enP false i (s.data.toList.drop i)).map mkS):=by rw [hag]; exact ih
  rw [← hag]
  clear ih hag
  unfold zel
  cases hd:s.data.toList.drop i with
  | nil =>
   have:=zdM hd hi
   refine zav (decide_eq_false (by omega)) ?_
   show J acc=J (acc++[])
   rw [List.append_nil]
  | cons b t =>
   obtain ⟨hb,hlt⟩:=zdZ hd
   have hd1:=zea hd
   refine zaA (decide_eq_true (by omega)) (zbC (za3 hb ?_))
   have hcast:(i:Int)+1=((i+1:Nat):Int):=by omega
   have goOn:∀ (acc2:List Gapi_Span),acc2.length≤i+1→(grd (I64 ((i:Int)+1))<|ag acc2 ((i:Int)+1))=J (acc2++(enP false (i+1) t).map mkS):=fun acc2 h2=>by
    refine zce ⟨by omega,by omega⟩ ?_
    rw [hcast,ihn (i+1) acc2 (by omega) (by omega) h2,hd1]
   by_cases h13:b=13
   ·refine zaA (by rw [n13]; exact decide_eq_true h13) (zce ⟨by omega,by omega⟩ ?_)
    have one:(grd (I64 ((i:Int)+1))<|grd (acc.length+1≤2147483648)<|(grd (I64 ((i:Int)+1))<|ag (acc++[(⟨i,(i:Int)+1⟩:Gapi_Span)]) ((i:Int)+1)))=J (acc++((i,i+1)::enP false (i+1) t).map mkS):=by
     refine zce ⟨by omega,by omega⟩ (zce (by omega) ?_)
     rw [goOn _ (by simp; omega),List.map_cons,List.append_assoc]
     rfl
    cases t with
    | nil =>
     have hsz:i+1=s.size:=zdM hd1 (by omega)
     refine zav (decide_eq_false (by omega)) (za3 hb (zaA (by rw [n13]; exact decide_eq_true h13) ?_))
     refine one.trans ?_
     unfold enP; rw [if_pos h13,if_neg (by simp)]; rfl
    | cons c u =>
     obtain ⟨hc,hlt2⟩:=zdZ hd1
     refine zaA (decide_eq_true (by omega)) (zce ⟨by omega,by omega⟩ (za3 (by rw [hcast]; exact hc) ?_))
     by_cases h10:c=10
     ·refine zaA (by rw [n10]; exact decide_eq_true h10) (zce ⟨by omega,by omega⟩ (zce (by omega) (zce ⟨by omega,by omega⟩ ?_)))
      refine zce ⟨by omega,by omega⟩ ?_
      have hd2:=zea hd1
      show ag _ ((i:Int)+1+1)=_
      rw [show (i:Int)+1+1=((i+2:Nat):Int) by omega,ihn (i+2) _ (by omega) (by omega) (by simp; omega),hd2,List.append_assoc]
      have e2:enP false i (b::c::u)=(i,i+2)::enP false (i+2) u:=by
       rw [enP,if_pos h13,if_pos (by rw [h10]; rfl),enP,if_neg (by rw [h10]; decide),if_pos h10,if_pos rfl]
       rfl
      rw [e2]
      rfl
     ·refine zav (by rw [n10]; exact decide_eq_false h10) (za3 hb (zaA (by rw [n13]; exact decide_eq_true h13) ?_))
      refine one.trans ?_
      rw [show enP false i (b::c::u)=(i,i+1)::enP true (i+1) (c::u) by rw [enP,if_pos h13,if_neg (by simp [h10])],zpd (by simp [h10])]
   ·refine zav (by rw [n13]; exact decide_eq_false h13) (za3 hb (zav (by rw [n13]; exact decide_eq_false h13) ?_))
    by_cases h10:b=10
    ·refine zaA (by rw [n10]; exact decide_eq_true h10) (zce ⟨by omega,by omega⟩ (zce (by omega) ?_))
     refine (goOn _ (by simp; omega)).trans ?_
     rw [List.append_assoc]
     rw [enP,if_neg h13,if_pos h10]; rfl
    ·refine zav (by rw [n10]; exact decide_eq_false h10) ?_
     refine (goOn _ (by omega)).trans ?_
     rw [enP,if_neg h13,if_neg h10]
theorem zoJ (s:ByteArray) (hs:s.size≤1073741824):zeE s=some ((enP false 0 s.data.toList).map mkS):=by
 unfold zeE
 refine zbC ?_
 have:=zni s (fun l=>some l) hs zb8 0 [] (Nat.zero_le _) (by unfold zb8; omega) (Nat.le_refl _)
 rw [List.drop_zero,List.nil_append] at this
 exact this
theorem zlY (s:ByteArray) (J:List Gapi_Span→Option (List Gapi_Span)) (E:List (Nat×Nat)) (hE:E.length≤1073741824):∀ (n i f:Nat) (acc:List Gapi_Span),i≤E.length→E.length+1 - i<n→acc.length=i →
  zaT (fun _ _ _=>none) (zdq s J (E.map mkS) (E.map mkS)) n acc (f:Int) (i:Int)=J (acc++(liE s.size f (E.drop i)).map mkS):=by
 intro n
 induction n with
 | zero=>intro i f acc h1 h2; omega
 | succ n ih =>
  intro i f acc hi hn ha
  rw [zbI]
  obtain ⟨ag,hag⟩:∃ ag,ag=zaT (fun _ _ _=>none) (zdq s J (E.map mkS) (E.map mkS)) n:=⟨_,rfl⟩
  rw [← hag]
  unfold zdq
  refine zaA (decide_eq_true (by rw [List.length_map]; omega)) (zbC ?_)
  cases hd:E.drop i with
  | nil =>
   have hl:E.length≤i:=List.drop_eq_nil_iff.1 hd
   obtain rfl:i=E.length:=by omega
   refine zav (decide_eq_false (by rw [List.length_map]; omega)) (zce (by omega) (zce ⟨by omega,by omega⟩ ?_))
   obtain ⟨n,rfl⟩:∃ m,n=m+1:=⟨n - 1,by omega⟩
   rw [hag,zbI]
   unfold zdq
   refine zav (decide_eq_false (by rw [List.length_map]; omega)) rfl
  | cons x es =>
   have hl:i<E.length:=by
    rcases Nat.lt_or_ge i E.length with h | h
    ·exact h
    ·rw [List.drop_eq_nil_of_le h] at hd; cases hd
   have hx:E[i]?=some x:=by
    rw [List.drop_eq_getElem_cons hl] at hd
    rw [List.getElem?_eq_getElem hl,(List.cons.inj hd).1]
   have hg:zcI (E.map mkS) (i:Int)=some (mkS x):=zbm (by rw [List.getElem?_map,hx]; rfl)
   refine zaA (decide_eq_true (by rw [List.length_map]; omega)) (za3 hg (za3 hg (zce (by omega) (zce ⟨by omega,by omega⟩ ?_))))
   have hd1:E.drop (i+1)=es:=by rw [← List.drop_drop,hd]; rfl
   have:=ih (i+1) x.2 (acc++[(⟨f,x.1⟩:Gapi_Span)]) (by omega) (by omega) (by simp; omega)
   rw [hd1,List.append_assoc,← hag] at this
   exact this
theorem zlQ (s:ByteArray) (hs:s.size≤65536):ze3 s=some ((zb6 s.data.toList).map mkS):=by
 unfold ze3
 have hl:=zim s.data.toList false 0
 rw [zi4] at hl
 refine zbC (za3 (zoJ s (by omega)) (zce ⟨by omega,by rw [List.length_map]; omega⟩ (za3 (zoJ s (by omega)) ?_)))
 have:=zlY s (fun l=>some l) (enP false 0 s.data.toList) (by omega) zb8 0 0 [] (Nat.zero_le _) (by unfold zb8; omega) rfl
 rw [List.drop_zero,List.nil_append] at this
 refine this.trans ?_
 unfold zb6
 rw [← zh9,zi4,Nat.zero_add]
end Go.Proofs.YtbempdelckaccaaDoor

namespace Go.Proofs.YtbempdelckaccaaDoor
open Go.RowKit Go.Lib
set_option linter.unusedVariables false
set_option linter.unusedSimpArgs false
theorem zkB {b:UInt8} {t:List UInt8} (hb:128≤b.toNat):128≤(decodeL (b::t)).1∧∀ x∈(b::t).take (decodeL (b::t)).2,128≤x.toNat:=by
 have hd:=zof (b::t) (by simp)
 generalize (decodeL (b::t)).1=r at hd ⊢
 generalize (decodeL (b::t)).2=w at hd ⊢
 obtain ⟨w,rfl⟩:∃ v,w=v+1:=⟨w - 1,by have:=hd.pos; omega⟩
 by_cases hbr:r=65533∧w+1=1
 ·obtain ⟨rfl,hw⟩:=hbr
  obtain rfl:w=0:=by omega
  refine ⟨by omega,fun x hx => ?_⟩
  simp at hx; subst hx; omega
 ·have he:=hd.bytes hbr
  have hr:128≤r:=by
   rcases Nat.lt_or_ge r 128 with h1 | h1
   ·rw [znj r h1,List.take_succ_cons] at he
    have h2:r.toUInt8=b:=(List.cons.inj he).1
    have h3:b.toNat=r:=by rw [← h2]; simp; omega
    omega
   ·exact h1
  refine ⟨hr,?_⟩
  rw [← he]
  exact (zjB r hd.valid hr).2.2
def spE (e:Gplace_ended):Gapi_Span:=⟨e.span_From,e.span_To⟩
def pv (l:List UInt8) (i:Nat):Bool:=decide (0<i)&&l.getD (i - 1) 0==13
theorem zm5 {l:List UInt8} {i:Nat} {b:UInt8} {t:List UInt8} (h:l.drop i=b::t):l.getD i 0=b:=by
 have h2:(l.drop i)[0]?=some b:=by rw [h]; rfl
 rw [List.getElem?_drop] at h2
 rw [List.getD_eq_getElem?_getD,show i=i+0 from rfl,h2]; rfl
theorem zmK {l:List UInt8} {i:Nat} {b:UInt8} {t:List UInt8} (h:l.drop i=b::t):pv l (i+1)=(b==13):=by
 unfold pv
 rw [Nat.add_sub_cancel,zm5 h,decide_eq_true (by omega),Bool.true_and]
theorem zo1 {l:List UInt8} {i w:Nat} (hw:1≤w) (hle:w≤(l.drop i).length) (h:∀ x∈(l.drop i).take w,128≤x.toNat):pv l (i+w)=false:=by
 unfold pv
 obtain ⟨w,rfl⟩:∃ v,w=v+1:=⟨w - 1,by omega⟩
 have hlt:w<(l.drop i).length:=by omega
 have h1:(l.drop i)[w]?=some ((l.drop i)[w]):=List.getElem?_eq_getElem hlt
 have h2:(l.drop i)[w]∈(l.drop i).take (w+1):=by
  refine List.mem_of_getElem? (i:=w) ?_
  rw [List.getElem?_take,if_pos (by omega)]; exact h1
 have h3:=h _ h2
 rw [List.getElem?_drop] at h1
 rw [show i+(w+1) - 1=i+w by omega,List.getD_eq_getElem?_getD,h1,Option.getD_some]
 have:((l.drop i)[w]==13)=false:=beq_eq_false_iff_ne.2 (fun e=>by rw [e] at h3; exact absurd h3 (by decide))
 rw [this,Bool.and_false]
theorem zmv:∀ (x t:List UInt8) (p:Bool) (f i:Nat),(∀ b∈x,128≤b.toNat)→x≠[]→spP p f i (x++t)=spP false f (i+x.length) t
 | [],t,p,f,i,h,hx=>absurd rfl hx
 | b::x,t,p,f,i,h,hx=>by
  have hb:=h b (by simp)
  have h13:b≠13:=fun e=>by rw [e] at hb; exact absurd hb (by decide)
  have h10:b≠10:=fun e=>by rw [e] at hb; exact absurd hb (by decide)
  rw [List.cons_append,spP,if_neg h13,if_neg h10]
  by_cases hx2:x=[]
  ·subst hx2; rfl
  ·rw [zmv x t false f (i+1) (fun y hy=>h y (by simp [hy])) hx2,List.length_cons]
   rw [show i+1+x.length=i+(x.length+1) by omega]
section
variable {s:ByteArray} {j1:(List Gapi_Place)→(List Gplace_ended)→Int→Int→Int→Int→Int→Int→Int→Option ((Option Gplace_Map)×Int)} {ag:(List Gapi_Place)→(List Gplace_ended)→Int→Int→Int→Int→Int→Int→Int→Nat→Option ((Option Gplace_Map)×Int)}
 {M:List Gapi_Place} {E:List Gplace_ended} {p16 p17 p18 p19 p20 f7 f8:Int} {m:Nat} {p:Pc}
def u22 (p:Pc) (p18:Int):Int:=if 65536≤p.r then p18+1+1 else p18+1
theorem zrg {X:Option ((Option Gplace_Map)×Int)} {A B C D:Prop} [Decidable A] [Decidable B] [Decidable C] [Decidable D] (hA:A) (hB:B) (hC:C) (hD:D) (h18:I64 (p18+1+1)) {K:Int→Option ((Option Gplace_Map)×Int)} (h:K (u22 p p18)=X) :
  zbk (fun (j2:Int→Option ((Option Gplace_Map)×Int))=>grd A<|grd B<|grd C<|grd D<|zam (decide ((65536:Int)≤(p.r:Int))) (grd (I64 ((p18+1)+1))<|j2 ((p18+1)+1)) (j2 (p18+1))) K=X:=by
 refine zbC (zce hA (zce hB (zce hC (zce hD ?_))))
 unfold u22 at h
 by_cases h1:65536≤p.r
 ·rw [if_pos h1] at h; exact zaA (decide_eq_true (by omega)) (zce h18 h)
 ·rw [if_neg h1] at h; exact zav (decide_eq_false (by omega)) h
theorem znW {X:Option ((Option Gplace_Map)×Int)} (hp:(pcs s.data.toList)[m]?=some p) (hm:M.length+1≤2147483648) (h17:I64 (p17+1)) (h18:I64 (p18+1+1)) (h18':I64 (p18+1)) (h20:I64 (p20+1))
  (hi:p.i<s.size) (hs:s.size≤65536) (hE:E.length+1≤2147483648) (h19:I64 (p19+1))
  (hX:(p.r≠13∧p.r≠10∨p.r=13∧∃ c u,s.data.toList.drop (p.i+1)=c::u∧c=10)∧ag (M++[(⟨p.i,p17,p18,p19,p20⟩:Gapi_Place)]) E p.i (p17+1) (u22 p p18) p19 (p20+1) f7 f8 (m+1)=X ∨
   ∃ w:Nat,w≤p.i+1∧(p.r=13∧s.data.toList[p.i+1]?≠some 10∧w=1∨p.r=10∧w=(if pv s.data.toList p.i then 2 else 1)) ∧
    ag (M++[(⟨p.i,p17,p18,p19,p20⟩:Gapi_Place)]) (E++[(⟨f7,((p.i+1 - w:Nat):Int),w,f8⟩:Gplace_ended)]) p.i (p17+1) (u22 p p18) (p19+1) 0 ((p.i+1:Nat):Int) ((M.length+1:Nat):Int) (m+1)=X) :
  zcs s j1 ag M E p16 p17 p18 p19 p20 f7 f8 m=X:=by
 have hl:=(List.getElem?_eq_some_iff.1 hp).1
 unfold zcs
 refine zaA (decide_eq_true hl) (za3 hp (zrg hm h17 h18' h20 h18 ?_))
 refine zbC ?_
 have e13:((p.r:Int)==13)=decide (p.r=13):=by
  by_cases h:p.r=13
  ·rw [h]; rfl
  ·rw [decide_eq_false h]; exact beq_eq_false_iff_ne.2 (by omega)
 have e10:((p.r:Int)==10)=decide (p.r=10):=by
  by_cases h:p.r=10
  ·rw [h]; rfl
  ·rw [decide_eq_false h]; exact beq_eq_false_iff_ne.2 (by omega)
 have n13':((p.r:Int) != 13)=!decide (p.r=13):=by unfold bne; rw [e13]
 have n10':((p.r:Int) != 10)=!decide (p.r=10):=by unfold bne; rw [e10]
 have hsucc:(p.i:Int)+1=((p.i+1:Nat):Int):=by omega
 have fin:∀ w:Nat,w≤p.i+1→ag (M++[(⟨p.i,p17,p18,p19,p20⟩:Gapi_Place)]) (E++[(⟨f7,((p.i+1 - w:Nat):Int),w,f8⟩:Gplace_ended)]) p.i (p17+1) (u22 p p18) (p19+1) 0 ((p.i+1:Nat):Int) ((M.length+1:Nat):Int) (m+1)=X →
   (grd (I64 ((p.i:Int)+1))<|grd (I64 (((p.i:Int)+1) - (w:Int)))<|grd (E.length+1≤2147483648)<|grd (I64 ((p.i:Int)+1))<|grd (I64 (p19+1)) <|
    ag (M++[(⟨(p.i:Int),p17,p18,p19,p20⟩:Gapi_Place)]) (E++[(⟨f7,((p.i:Int)+1) - (w:Int),(w:Int),f8⟩:Gplace_ended)]) (p.i:Int) (p17+1) (u22 p p18) (p19+1) 0 ((p.i:Int)+1) ((M++[(⟨(p.i:Int),p17,p18,p19,p20⟩:Gapi_Place)]).length:Int) (m+1))=X:=fun w hw h=>by
  refine zce ⟨by omega,by omega⟩ (zce ⟨by omega,by omega⟩ (zce hE (zce ⟨by omega,by omega⟩ (zce h19 ?_))))
  rw [← h]
  rw [show ((p.i:Int)+1) - (w:Int)=((p.i+1 - w:Nat):Int) by omega,show (p.i:Int)+1=((p.i+1:Nat):Int) by omega,List.length_append]
  rfl
 by_cases h13:p.r=13
 ·refine zaA (by rw [e13]; exact decide_eq_true h13) (zce ⟨by omega,by omega⟩ ?_)
  have no10:p.r≠10:=by omega
  rcases hX with ⟨hc,hX⟩ | ⟨w,hw,hc,hX⟩
  ·rcases hc with ⟨h,_⟩ | ⟨_,c,u,hd,hc⟩
   ·exact absurd h13 h
   ·obtain ⟨hg,hlt⟩:=zdZ hd
    refine zaA (decide_eq_true (by omega)) (zce ⟨by omega,by omega⟩ (za3 (by rw [hsucc]; exact hg) (zaA (by rw [n10]; exact decide_eq_true hc) hX)))
  ·have hw1:w=1∧s.data.toList[p.i+1]?≠some 10:=by
    rcases hc with ⟨_,h,rfl⟩ | ⟨h,_⟩
    ·exact ⟨rfl,h⟩
    ·exact absurd h no10
   obtain ⟨rfl,hne⟩:=hw1
   have tail:(zam (((p.r:Int):Int) != 13) (zam (((p.r:Int):Int) != 10) (ag (M++[(⟨(p.i:Int),p17,p18,p19,p20⟩:Gapi_Place)]) E (p.i:Int) (p17+1) (u22 p p18) p19 (p20+1) f7 f8 (m+1)) ((grd (I64 ((p.i:Int)+1))<|grd (I64 (((p.i:Int)+1) - (1:Int)))<|grd (E.length+1≤2147483648)<|grd (I64 ((p.i:Int)+1))<|grd (I64 (p19+1)) <|
    ag (M++[(⟨(p.i:Int),p17,p18,p19,p20⟩:Gapi_Place)]) (E++[(⟨f7,((p.i:Int)+1) - (1:Int),(1:Int),f8⟩:Gplace_ended)]) (p.i:Int) (p17+1) (u22 p p18) (p19+1) 0 ((p.i:Int)+1) ((M++[(⟨(p.i:Int),p17,p18,p19,p20⟩:Gapi_Place)]).length:Int) (m+1)))) ((grd (I64 ((p.i:Int)+1))<|grd (I64 (((p.i:Int)+1) - (1:Int)))<|grd (E.length+1≤2147483648)<|grd (I64 ((p.i:Int)+1))<|grd (I64 (p19+1)) <|
    ag (M++[(⟨(p.i:Int),p17,p18,p19,p20⟩:Gapi_Place)]) (E++[(⟨f7,((p.i:Int)+1) - (1:Int),(1:Int),f8⟩:Gplace_ended)]) (p.i:Int) (p17+1) (u22 p p18) (p19+1) 0 ((p.i:Int)+1) ((M++[(⟨(p.i:Int),p17,p18,p19,p20⟩:Gapi_Place)]).length:Int) (m+1))))=X :=
    zav (by rw [n13',decide_eq_true h13]; rfl) (fin 1 hw hX)
   cases hd:s.data.toList.drop (p.i+1) with
   | nil =>
    have hsz:=zdM hd (by omega)
    refine zav (decide_eq_false (by omega)) (zav (by rw [e10]; exact decide_eq_false no10) tail)
   | cons c u =>
    obtain ⟨hg,hlt⟩:=zdZ hd
    have hc10:c≠10:=fun e=>hne (by
     have:(s.data.toList.drop (p.i+1))[0]?=some c:=by rw [hd]; rfl
     rw [List.getElem?_drop] at this; rw [← e]; exact this)
    refine zaA (decide_eq_true (by omega)) (zce ⟨by omega,by omega⟩ (za3 (by rw [hsucc]; exact hg) (zav (by rw [n10]; exact decide_eq_false hc10) (zav (by rw [e10]; exact decide_eq_false no10) tail))))
 ·refine zav (by rw [e13]; exact decide_eq_false h13) ?_
  by_cases h10:p.r=10
  ·refine zaA (by rw [e10]; exact decide_eq_true h10) ?_
   rcases hX with ⟨hc,hX⟩ | ⟨w,hw,hc,hX⟩
   ·rcases hc with ⟨_,h⟩ | ⟨h,_⟩
    ·exact absurd h10 h
    ·exact absurd h h13
   ·have hw1:w=(if pv s.data.toList p.i then 2 else 1):=by
     rcases hc with ⟨h,_⟩ | ⟨_,h⟩
     ·exact absurd h h13
     ·exact h
    have t13:((p.r:Int) != 13)=true:=by rw [n13',decide_eq_false h13]; rfl
    have t10:((p.r:Int) != 10)=false:=by rw [n10',decide_eq_true h10]; rfl
    by_cases h0:0<p.i
    ·refine zaA (decide_eq_true (by omega)) (zce ⟨by omega,by omega⟩ ?_)
     obtain ⟨c,u,hd⟩:∃ c u,s.data.toList.drop (p.i - 1)=c::u:=by
      cases hd:s.data.toList.drop (p.i - 1) with
      | nil=>have:=zdM hd (by omega); omega
      | cons c u=>exact ⟨c,u,rfl⟩
     obtain ⟨hg,_⟩:=zdZ hd
     have hpv:pv s.data.toList p.i=(c==13):=by
      have:=zmK hd
      rwa [show p.i - 1+1=p.i by omega] at this
     refine za3 (by rw [show (p.i:Int) - 1=((p.i - 1:Nat):Int) by omega]; exact hg) ?_
     by_cases hc13:c=13
     ·have:w=2:=by rw [hw1,hpv,hc13]; rfl
      subst this
      exact zaA (by rw [n13]; exact decide_eq_true hc13) (fin 2 hw hX)
     ·have:w=1:=by rw [hw1,hpv,beq_eq_false_iff_ne.2 hc13]; rfl
      subst this
      exact zav (by rw [n13]; exact decide_eq_false hc13) (zaA t13 (zav t10 (fin 1 hw hX)))
    ·have:w=1:=by rw [hw1]; unfold pv; rw [decide_eq_false h0]; rfl
     subst this
     exact zav (decide_eq_false (by omega)) (zaA t13 (zav t10 (fin 1 hw hX)))
  ·refine zav (by rw [e10]; exact decide_eq_false h10) ?_
   rcases hX with ⟨hc,hX⟩ | ⟨w,hw,hc,hX⟩
   ·exact zaA (by rw [n13',decide_eq_false h13]; rfl) (zaA (by rw [n10',decide_eq_false h10]; rfl) hX)
   ·rcases hc with ⟨h,_⟩ | ⟨h,_⟩
    ·exact absurd h h13
    ·exact absurd h h10
end
theorem znX (s:ByteArray) (J:(List Gapi_Place)→(List Gplace_ended)→Int→Int→Int→Int→Int→Int→Int→Option ((Option Gplace_Map)×Int)) (hs:s.size≤65536) :
  ∀ (n m i:Nat) (M:List Gapi_Place) (E:List Gplace_ended) (p16 p17 p18 p19 p20 f8:Int) (f:Nat),(pcs s.data.toList).drop m=zcB i (s.data.toList.drop i)→i≤s.size→s.size - i<n→M.length≤i→E.length≤i →
   0≤p17→p17≤i→0≤p18→p18≤2*i→0≤p19→p19≤i→0≤p20→p20≤i →
   ∃ M' E' q1 q2 q3 q4 q5 g8,∃ g:Nat,zaT (fun _ _ _ _ _ _ _ _ _ _=>none) (zcs s J) n M E p16 p17 p18 p19 p20 (f:Int) f8 m=J M' E' q1 q2 q3 q4 q5 (g:Int) g8∧M'.length≤s.size∧E'.length≤s.size ∧
    E'.map spE++[mkS (g,s.size)]=E.map spE++(spP (pv s.data.toList i) f i (s.data.toList.drop i)).map mkS:=by
 intro n
 induction n with
 | zero=>intro m i M E p16 p17 p18 p19 p20 f8 f h1 h2 h3; omega
 | succ n ih =>
  intro m i M E p16 p17 p18 p19 p20 f8 f hd hi hn hM hE a1 a2 a3 a4 a5 a6 a7 a8
  rw [zbI]
  obtain ⟨ag,hag⟩:∃ ag,ag=zaT (fun _ _ _ _ _ _ _ _ _ _=>none) (zcs s J) n:=⟨_,rfl⟩
  rw [← hag] at ih ⊢
  cases hl:s.data.toList.drop i with
  | nil =>
   have hsz:=zdM hl hi
   rw [hl,zca] at hd
   have hge:=List.drop_eq_nil_iff.1 hd
   refine ⟨M,E,p16,p17,p18,p19,p20,f8,f,?_,by omega,by omega,?_⟩
   ·unfold zcs
    exact zav (decide_eq_false (by omega)) rfl
   ·subst hsz; rfl
  | cons b t =>
   have hlt:=(zdZ hl).2
   rw [hl,zct i (b::t) (by simp)] at hd
   have hlm:m<(pcs s.data.toList).length:=by
    rcases Nat.lt_or_ge m (pcs s.data.toList).length with h | h
    ·exact h
    ·rw [List.drop_eq_nil_of_le h] at hd; cases hd
   have hq:(pcs s.data.toList)[m]?=some ⟨i,(decodeL (b::t)).2,(decodeL (b::t)).1⟩:=by
    rw [List.drop_eq_getElem_cons hlm] at hd
    rw [List.getElem?_eq_getElem hlm,(List.cons.inj hd).1]
   have hw1:=zeA (b::t)
   have hwl:=zhm (b::t) (by simp)
   have hd2:(pcs s.data.toList).drop (m+1)=zcB (i+(decodeL (b::t)).2) (s.data.toList.drop (i+(decodeL (b::t)).2)):=by
    rw [← List.drop_drop,hd,← List.drop_drop,hl]; rfl
   have hisz:i+(decodeL (b::t)).2≤s.size:=by
    have:(s.data.toList.drop i).length=(b::t).length:=by rw [hl]
    rw [List.length_drop,zi4] at this; omega
   have hup:∀ (q:Pc),0≤u22 q p18∧u22 q p18≤p18+2:=fun q=>by unfold u22; split <;> omega
   obtain ⟨hu1,hu2⟩:=hup ⟨i,(decodeL (b::t)).2,(decodeL (b::t)).1⟩
   have hst:=@znW s J ag M E p16 p17 p18 p19 p20 (f:Int) f8 m ⟨i,(decodeL (b::t)).2,(decodeL (b::t)).1⟩
   by_cases hb:128≤b.toNat
   ·obtain ⟨hr,hall⟩:=zkB (t:=t) hb
    obtain ⟨M',E',q1,q2,q3,q4,q5,g8,g,h1,h2,h3,h4⟩:=ih (m+1) (i+(decodeL (b::t)).2) (M++[(⟨i,p17,p18,p19,p20⟩:Gapi_Place)]) E i (p17+1) (u22 ⟨i,(decodeL (b::t)).2,(decodeL (b::t)).1⟩ p18) p19 (p20+1) f8 f hd2 hisz (by omega) (by simp; omega) (by omega) (by omega) (by omega) hu1 (by omega) a5 (by omega) (by omega) (by omega)
    refine ⟨M',E',q1,q2,q3,q4,q5,g8,g,hst hq (by omega) ⟨by omega,by omega⟩ ⟨by omega,by omega⟩ ⟨by omega,by omega⟩ ⟨by omega,by omega⟩ hlt hs (by omega) ⟨by omega,by omega⟩ (.inl ⟨.inl ⟨by show (decodeL (b::t)).1≠13; omega,by show (decodeL (b::t)).1≠10; omega⟩,h1⟩),h2,h3,?_⟩
    rw [h4,zo1 hw1 (by rw [hl]; exact hwl) (by rw [hl]; exact hall)]
    congr 2
    have hsplit:b::t=(b::t).take (decodeL (b::t)).2++(b::t).drop (decodeL (b::t)).2:=(List.take_append_drop _ _).symm
    have hlen:((b::t).take (decodeL (b::t)).2).length=(decodeL (b::t)).2:=by rw [List.length_take]; omega
    conv=>rhs; rw [hsplit]
    rw [zmv _ _ _ _ _ hall (by intro e; rw [e] at hlen; simp at hlen; omega),hlen,← List.drop_drop,hl]
   ·have hdec:=decodeL_ascii b t (by omega)
    rw [hdec] at hst hq hd2 hisz
    dsimp only at hst hq hd2 hisz
    obtain ⟨hu3,hu4⟩:=hup ⟨i,1,b.toNat⟩
    clear hu1 hu2
    have hd1:=zea hl
    have hpn:=zmK hl
    by_cases h13:b=13
    ·by_cases ht:t.head?=some 10
     ·obtain ⟨c,u,rfl⟩:∃ c u,t=c::u:=by cases t with | nil=>cases ht | cons c u=>exact ⟨c,u,rfl⟩
      have hc:c=10:=Option.some.inj ht
      obtain ⟨M',E',q1,q2,q3,q4,q5,g8,g,h1,h2,h3,h4⟩:=ih (m+1) (i+1) (M++[(⟨i,p17,p18,p19,p20⟩:Gapi_Place)]) E i (p17+1) (u22 ⟨i,1,b.toNat⟩ p18) p19 (p20+1) f8 f hd2 hisz (by omega) (by simp; omega) (by omega) (by omega) (by omega) hu3 (by omega) a5 (by omega) (by omega) (by omega)
      refine ⟨M',E',q1,q2,q3,q4,q5,g8,g,hst hq (by omega) ⟨by omega,by omega⟩ ⟨by omega,by omega⟩ ⟨by omega,by omega⟩ ⟨by omega,by omega⟩ hlt hs (by omega) ⟨by omega,by omega⟩ (.inl ⟨.inr ⟨by rw [h13]; rfl,c,u,hd1,hc⟩,h1⟩),h2,h3,?_⟩
      rw [h4,hpn,hd1]
      congr 2
      conv=>rhs; rw [spP,if_pos h13,if_pos ht]
      rw [h13]; rfl
     ·obtain ⟨M',E',q1,q2,q3,q4,q5,g8,g,h1,h2,h3,h4⟩:=ih (m+1) (i+1) (M++[(⟨i,p17,p18,p19,p20⟩:Gapi_Place)]) (E++[(⟨f,((i+1 - 1:Nat):Int),(1:Nat),f8⟩:Gplace_ended)]) i (p17+1) (u22 ⟨i,1,b.toNat⟩ p18) (p19+1) 0 ((M.length+1:Nat):Int) (i+1) hd2 hisz (by omega) (by simp; omega) (by simp; omega) (by omega) (by omega) hu3 (by omega) (by omega) (by omega) (by omega) (by omega)
      refine ⟨M',E',q1,q2,q3,q4,q5,g8,g,hst hq (by omega) ⟨by omega,by omega⟩ ⟨by omega,by omega⟩ ⟨by omega,by omega⟩ ⟨by omega,by omega⟩ hlt hs (by omega) ⟨by omega,by omega⟩ (.inr ⟨1,by show 1≤i+1; omega,.inl ⟨by rw [h13]; rfl,?_,rfl⟩,h1⟩),h2,h3,?_⟩
      ·show s.data.toList[i+1]?≠some 10
       rw [← hd1,List.head?_eq_getElem?,List.getElem?_drop] at ht
       exact ht
      ·rw [h4,hpn,hd1,List.map_append,List.append_assoc]
       congr 1
       conv=>rhs; rw [spP,if_pos h13,if_neg ht]
       rw [h13]
       show spE _::List.map mkS (spP true (i+1) (i+1) t)=mkS (f,i)::_
       rfl
    ·by_cases h10:b=10
     ·have hw2:(if pv s.data.toList i then 2 else 1)≤i+1:=by
       split
       ·rename_i h; unfold pv at h; rw [Bool.and_eq_true,decide_eq_true_iff] at h; omega
       ·omega
      obtain ⟨M',E',q1,q2,q3,q4,q5,g8,g,h1,h2,h3,h4⟩:=ih (m+1) (i+1) (M++[(⟨i,p17,p18,p19,p20⟩:Gapi_Place)]) (E++[(⟨f,((i+1 - (if pv s.data.toList i then 2 else 1):Nat):Int),((if pv s.data.toList i then 2 else 1:Nat):Int),f8⟩:Gplace_ended)]) i (p17+1) (u22 ⟨i,1,b.toNat⟩ p18) (p19+1) 0 ((M.length+1:Nat):Int) (i+1) hd2 hisz (by omega) (by simp; omega) (by simp; omega) (by omega) (by omega) hu3 (by omega) (by omega) (by omega) (by omega) (by omega)
      refine ⟨M',E',q1,q2,q3,q4,q5,g8,g,hst hq (by omega) ⟨by omega,by omega⟩ ⟨by omega,by omega⟩ ⟨by omega,by omega⟩ ⟨by omega,by omega⟩ hlt hs (by omega) ⟨by omega,by omega⟩ (.inr ⟨_,hw2,.inr ⟨by rw [h10]; rfl,rfl⟩,h1⟩),h2,h3,?_⟩
      rw [h4,hpn,hd1,List.map_append,List.append_assoc]
      congr 1
      conv=>rhs; rw [spP,if_neg h13,if_pos h10]
      show spE _::List.map mkS (spP (b==13) (i+1) (i+1) t)=mkS (f,_)::_
      rw [beq_eq_false_iff_ne.2 h13]
      congr 1
      unfold spE mkS
      congr 1
      cases pv s.data.toList i <;> rfl
     ·obtain ⟨M',E',q1,q2,q3,q4,q5,g8,g,h1,h2,h3,h4⟩:=ih (m+1) (i+1) (M++[(⟨i,p17,p18,p19,p20⟩:Gapi_Place)]) E i (p17+1) (u22 ⟨i,1,b.toNat⟩ p18) p19 (p20+1) f8 f hd2 hisz (by omega) (by simp; omega) (by omega) (by omega) (by omega) hu3 (by omega) a5 (by omega) (by omega) (by omega)
      refine ⟨M',E',q1,q2,q3,q4,q5,g8,g,hst hq (by omega) ⟨by omega,by omega⟩ ⟨by omega,by omega⟩ ⟨by omega,by omega⟩ ⟨by omega,by omega⟩ hlt hs (by omega) ⟨by omega,by omega⟩ (.inl ⟨.inl ⟨fun e=>h13 (UInt8.toNat.inj e),fun e=>h10 (UInt8.toNat.inj e)⟩,h1⟩),h2,h3,?_⟩
      rw [h4,hpn,hd1,beq_eq_false_iff_ne.2 h13]
      congr 2
      conv=>rhs; rw [spP,if_neg h13,if_neg h10]
theorem zrf (s:ByteArray) (hs:s.size≤65536):∃ m:Gplace_Map,zds s=some (some m,0)∧m.text=s∧m.lines.map spE=(zb6 s.data.toList).map mkS:=by
 obtain ⟨M',E',q1,q2,q3,q4,q5,g8,g,h1,h2,h3,h4⟩:=znX s (fun (m1:List Gapi_Place) (m2:List Gplace_ended) (p1:Int) (p2:Int) (p3:Int) (p4:Int) (p5:Int) (line1:Int) (line2:Int) =>
  grd (m1.length+1≤2147483648)<|grd (m2.length+1≤2147483648)<|some ((some (⟨s,m1++[(⟨(s.size:Int),p2,p3,p4,p5⟩:Gapi_Place)],m2++[(⟨line1,(s.size:Int),0,line2⟩:Gplace_ended)]⟩:Gplace_Map)),0)) hs zb8 0 0 [] [] 0 0 0 0 0 0 0
  (by rw [List.drop_zero,List.drop_zero]; rfl) (Nat.zero_le _) (by unfold zb8; omega) (Nat.le_refl _) (Nat.le_refl _) (by omega) (by omega) (by omega) (by omega) (by omega) (by omega) (by omega) (by omega)
 refine ⟨⟨s,M'++[(⟨(s.size:Int),q2,q3,q4,q5⟩:Gapi_Place)],E'++[(⟨(g:Int),(s.size:Int),0,g8⟩:Gplace_ended)]⟩,?_,rfl,?_⟩
 ·unfold zds
  refine zav (decide_eq_false (by omega)) (zbC (h1.trans ?_))
  exact zce (by omega) (zce (by omega) rfl)
 ·show List.map spE (E'++[_])=_
  rw [List.map_append]
  exact h4
theorem znY (s:ByteArray) (hs:65536<s.size):zds s=some (none,3):=by
 unfold zds
 exact zaA (decide_eq_true (by omega)) rfl
end Go.Proofs.YtbempdelckaccaaDoor

namespace Go.Proofs.YtbempdelckaccaaDoor
open Go.RowKit Go.Lib
set_option linter.unusedVariables false
set_option linter.unusedSimpArgs false
def za9 (s1:ByteArray) (prefix1:ByteArray):Option Bool :=
zam (decide (((prefix1.size:Int):Int)≤(s1.size:Int))) (
grd (0≤(0:Int)∧(0:Int)≤(prefix1.size:Int)∧((prefix1.size:Int):Int)≤(s1.size:Int)) <|
some (decide (zcu s1 0 (prefix1.size:Int)=prefix1))
) (
some false
)
theorem zcG {s1:ByteArray} {prefix1:ByteArray} {r:Bool} (h:za9 s1 prefix1=some r):FnP Tryd.prog 44 [.string s1,.string prefix1] (.bool r):=by
 unfold za9 at h
 refine FnP.intro Tryd.func44 rfl Tryd.ntmps44 (by simp) ?_
 intro w0 K
 refine zyG (zyR 1 rfl (zyH (zyR 1 rfl (zbt rfl dc rfl Tryd.underlying9 (zyR 1 rfl (zbt rfl dc rfl Tryd.underlying9 (zaQ rfl zeB (zyR 1 rfl ?_))))))))
 refine zyS (s:=10) rfl h (fun h => ?_) (fun h => ?_)
 ·
  refine zyR 2 rfl (zbt rfl dc rfl Tryd.underlying9 ?_)
  obtain ⟨hg1,h⟩:=zbM h
  refine zd5 rfl dc rfl rfl rfl (zcf (i:=0) (j:=(prefix1.size:Int)) Tryd.underlying9 (.inl ⟨rfl,rfl⟩) (.inr rfl) hg1) (zyR 1 rfl (zaQ rfl zfG (zyR 2 rfl (zyN (zax ?_)))))
  cases h
  exact zaC (rs:=[.tmp 4]) () (.inl rfl) Tryd.results44 (.cons (.tmp rfl) .nil) rfl Splits.nil
 refine zyR 8 rfl (zyN (zax ?_))
 cases h
 exact zaC (rs:=[.tmp 4]) () (.inl rfl) Tryd.results44 (.cons (.tmp rfl) .nil) rfl Splits.nil
def zbh (s1:ByteArray) (prefix1:ByteArray):Option Bool :=
zan (za9 s1 prefix1) fun (r1:Bool) =>
some r1
theorem zei {s1:ByteArray} {prefix1:ByteArray} {r:Bool} (h:zbh s1 prefix1=some r):FnP Tryd.prog 23 [.string s1,.string prefix1] (.bool r):=by
 unfold zbh at h
 refine FnP.intro Tryd.func23 rfl Tryd.ntmps23 (by simp) ?_
 intro w0 K
 refine zyG (zyR 1 rfl (zyH (zyR 2 rfl ?_)))
 obtain ⟨r1,hq1,h⟩:=zbT h
 refine zbb (v:=.bool r1) (vs:=[.string s1,.string prefix1]) rfl dc rfl rfl rfl zqh (zcG hq1) (zyR 1 rfl (zyN (zax ?_)))
 cases h
 exact zaC (rs:=[.tmp 4]) () (.inl rfl) Tryd.results23 (.cons (.tmp rfl) .nil) rfl Splits.nil
def zby (s1:ByteArray) (prefix1:ByteArray):Option ByteArray :=
zan (za9 s1 prefix1) fun (r1:Bool) =>
zam (r1) (
grd (0≤((prefix1.size:Int):Int)∧((prefix1.size:Int):Int)≤(s1.size:Int)∧((s1.size:Int):Int)≤(s1.size:Int)) <|
some (zcu s1 (prefix1.size:Int) (s1.size:Int))
) (
some s1
)
theorem zdC {s1:ByteArray} {prefix1:ByteArray} {r:ByteArray} (h:zby s1 prefix1=some r):FnP Tryd.prog 60 [.string s1,.string prefix1] (.string r):=by
 unfold zby at h
 refine FnP.intro Tryd.func60 rfl Tryd.ntmps60 (by simp) ?_
 intro w0 K
 refine zyG (zyR 1 rfl (zyN (zaF (zyG (zyR 2 rfl ?_)))))
 obtain ⟨r1,hq1,h⟩:=zbT h
 refine zbb (v:=.bool r1) (vs:=[.string s1,.string prefix1]) rfl dc rfl rfl rfl zqh (zcG hq1) (zyN ?_)
 refine zyB rfl h (fun h => ?_) (fun h => ?_)
 ·
  refine zyG (zyR 2 rfl (zbt rfl dc rfl Tryd.underlying9 ?_))
  obtain ⟨hg1,h⟩:=zbM h
  refine zd5 rfl dc rfl rfl rfl (zcf (i:=(prefix1.size:Int)) (j:=(s1.size:Int)) Tryd.underlying9 (.inr rfl) (.inl ⟨rfl,rfl⟩) hg1) (zyR 1 rfl (zyN (zax (zag ?_))))
  cases h
  exact zaC (rs:=[.tmp 4]) () (.inl rfl) Tryd.results60 (.cons (.tmp rfl) .nil) rfl Splits.nil
 refine zar (zaH (zyG (zyR 2 rfl (zyN (zax ?_)))))
 cases h
 exact zaC (rs:=[.tmp 4]) () (.inl rfl) Tryd.results60 (.cons (.tmp rfl) .nil) rfl Splits.nil
def zcl (s1:ByteArray) (prefix1:ByteArray):Option ByteArray :=
zan (zby s1 prefix1) fun (r1:ByteArray) =>
some r1
theorem zfj {s1:ByteArray} {prefix1:ByteArray} {r:ByteArray} (h:zcl s1 prefix1=some r):FnP Tryd.prog 36 [.string s1,.string prefix1] (.string r):=by
 unfold zcl at h
 refine FnP.intro Tryd.func36 rfl Tryd.ntmps36 (by simp) ?_
 intro w0 K
 refine zyG (zyR 1 rfl (zyH (zyR 2 rfl ?_)))
 obtain ⟨r1,hq1,h⟩:=zbT h
 refine zbb (v:=.string r1) (vs:=[.string s1,.string prefix1]) rfl dc rfl rfl rfl zrt (zdC hq1) (zyR 1 rfl (zyN (zax ?_)))
 cases h
 exact zaC (rs:=[.tmp 4]) () (.inl rfl) Tryd.results36 (.cons (.tmp rfl) .nil) rfl Splits.nil
end Go.Proofs.YtbempdelckaccaaDoor

namespace Go.Proofs.YtbempdelckaccaaDoor
open Go.RowKit Go.Lib
set_option linter.unusedVariables false
set_option linter.unusedSimpArgs false
def zdb (s1:ByteArray):Option Bool :=
grd (s1.size≤9223372036854775807) <|
some (decide (zli s1=(⟨#[]⟩:ByteArray)))
theorem zgn {s1:ByteArray} {r:Bool} (h:zdb s1=some r):FnP Tryd.prog 27 [.string s1] (.bool r):=by
 unfold zdb at h
 refine FnP.intro Tryd.func27 rfl Tryd.ntmps27 (by simp) ?_
 intro w0 K
 refine zyG (zyR 1 rfl (zyH (zyR 1 rfl ?_)))
 obtain ⟨hg1,h⟩:=zbM h
 refine zbb (v:=.string (zli s1)) (vs:=[.string s1,.string (⟨#[32,9]⟩:ByteArray)]) rfl dc rfl rfl rfl zry (zpJ s1 hg1) (zaQ rfl zfG (zyR 1 rfl (zyN (zax ?_))))
 cases h
 exact zaC (rs:=[.tmp 2]) () (.inl rfl) Tryd.results27 (.cons (.tmp rfl) .nil) rfl Splits.nil
def zdl (s1:ByteArray):Option Bool :=
zam (decide (s1=(⟨#[35]⟩:ByteArray))) (
some true
) (
zan (zbh s1 (⟨#[35,32]⟩:ByteArray)) fun (r1:Bool) =>
some r1
)
theorem zfO {s1:ByteArray} {r:Bool} (h:zdl s1=some r):FnP Tryd.prog 35 [.string s1] (.bool r):=by
 unfold zdl at h
 refine FnP.intro Tryd.func35 rfl Tryd.ntmps35 (by simp) ?_
 intro w0 K
 refine zyG (zyR 1 rfl (zyH (zyR 1 rfl (zaQ rfl zfG (zyR 1 rfl ?_)))))
 refine zyS (s:=5) rfl h (fun h => ?_) (fun h => ?_)
 ·
  refine zyR 4 rfl (zyN (zax ?_))
  cases h
  exact zaC (rs:=[.tmp 2]) () (.inl rfl) Tryd.results35 (.cons (.tmp rfl) .nil) rfl Splits.nil
 refine zyR 1 rfl ?_
 obtain ⟨r1,hq1,h⟩:=zbT h
 refine zbb (v:=.bool r1) (vs:=[.string s1,.string (⟨#[35,32]⟩:ByteArray)]) rfl dc rfl rfl rfl zql (zei hq1) (zyR 2 rfl (zyN (zax ?_)))
 cases h
 exact zaC (rs:=[.tmp 2]) () (.inl rfl) Tryd.results35 (.cons (.tmp rfl) .nil) rfl Splits.nil
def zcq (s1:ByteArray) (j1:Int→Option Int) (ag1:Int→Nat→Option Int) (n4:Int) (m3:Nat):Option Int :=
zam (decide (m3<(pcs s1.data.toList).length)) (
zan ((pcs s1.data.toList)[m3]?) fun (p1:Pc) =>
zam (((p1.r:Int):Int) != 32) (
j1 n4
) (
grd (I64 (n4+1)) <|
ag1 (n4+1) (m3+1)
)
) (
j1 n4
)
def zcU (s1:ByteArray):Option Int :=
zbk (fun (j1:Int→Option Int) =>
zaT (fun _ _=>none) (zcq s1 j1) zb8 0 0
) (fun (n1:Int) =>
some n1
)
theorem ziG {s1:ByteArray} {r:Int} (h:zcU s1=some r):FnP Tryd.prog 37 [.string s1] (zI r):=by
 unfold zcU at h
 refine FnP.intro Tryd.func37 rfl Tryd.ntmps37 (by simp) ?_
 intro w0 K
 obtain ⟨j1,hj1,h⟩:=zbU h
 refine zaZ (β:=Int) 2 rfl (fun b=>j1 b=some r) (fun b=>[]) (fun b=>[(3,zI b)]) (fun b=>[]) (fun cut => ?_) ?_
 ·
  refine zyG (zyR 1 rfl (zyH (zyR 1 rfl (zyN (cut (zyG (zyR 1 rfl ?_)))))))
  refine zdh Tryd.underlying9 rfl dc rfl (fun b1 => ?_)
  refine zyN (zaL ?_)
  refine zbK (β:=Nat×Int×Nat) (fun b=>zaT (fun _ _=>none) (zcq s1 j1) b.1 b.2.1 b.2.2=some r) (fun b=>[]) (fun b=>[(3,zI b.2.1),(7,zP b1)]) (fun b=>[obj b1 (.stringIter s1 (zed s1 b.2.2))]) (fun b=>b.1) (zb8,0,0) (by exact h) rfl (za1 rfl) (zae [0] kr rfl) ?_
  rintro ⟨n5,n4,m3⟩ h
  cases n5 with
  | zero=>exact zdu h
  | succ n5 =>
   obtain ⟨ag1,hag1⟩:∃ ag,ag=zaT (fun _ _=>none) (zcq s1 j1) n5:=⟨_,rfl⟩
   have h:zcq s1 j1 ag1 n4 m3=some r:=by rw [hag1]; exact h
   unfold zcq at h
   refine zyG ?_
   refine zdo (b:=decide (m3<(pcs s1.data.toList).length)) (fun hb1 => ?_) (fun hb1 => ?_)
   ·
    have h:=zc1 hb1 h
    obtain ⟨p1,hq1,h⟩:=zbT h
    refine zdA (k:=0) (m:=m3) (p:=p1) rfl dc rfl rfl hq1 (zaE rfl dc rfl rfl (zyN (zaF (zbg rfl (zar (zaH (zaL (zyG (zaE rfl dc rfl rfl (zyR 1 rfl (zaK ?_)))))))))))
    refine zaH (zaF (zyG (zyR 1 rfl (zaQ rfl zbF (zyN ?_)))))
    refine zyB rfl h (fun h => ?_) (fun h => ?_)
    ·
     refine zbc (zap (zbX dc (zap (zaw ?_))))
     exact zai n4 h rfl (za1 rfl) Splits.nil
    refine zar (zaH (zaG (zyR 1 rfl ?_)))
    obtain ⟨hg1,h⟩:=zbM h
    refine zaQ rfl (zaW (r:=n4+1) (IntWalk.i64_in _ hg1)) (zyR 1 rfl (zaK (zal ?_)))
    subst hag1
    exact za8 (n5,n4+1,m3+1) h (Nat.lt_succ_self _) rfl (za1 rfl) (zae [0] kr rfl)
   have h:=zc2 hb1 h
   refine zdB (k:=0) (m:=m3) rfl dc rfl rfl (Nat.le_of_not_lt (of_decide_eq_false hb1)) (zaE rfl dc rfl rfl (zyN (zaF (zaP rfl (zbc (zap (zap (zaw ?_))))))))
   exact zai n4 h rfl (za1 rfl) Splits.nil
 rintro n1 h
 rw [hj1] at h
 refine zyG (zyR 2 rfl (zyN (zax ?_)))
 cases h
 exact zaC (rs:=[.tmp 2]) () (.inl rfl) Tryd.results37 (.cons (.tmp rfl) .nil) rfl Splits.nil
def zcr (text1:ByteArray) (j1:ByteArray→(List Gapi_Verse)→(List Gapi_Span)→Option ((Option Gpoem_Poem)×Gapi_Spot)) (p4:Gplace_Map) (r2:Int) (ag1:ByteArray→(List Gapi_Verse)→(List Gapi_Span)→Bool→Bool→Int→Option ((Option Gpoem_Poem)×Gapi_Spot)) (p14:ByteArray) (p15:List Gapi_Verse) (p16:List Gapi_Span) (first3:Bool) (row3:Bool) (x3:Int):Option ((Option Gpoem_Poem)×Gapi_Spot) :=
zam (decide ((x3:Int)<r2)) (
zbk (fun (j2:ByteArray→(List Gapi_Verse)→(List Gapi_Span)→Bool→Bool→Option ((Option Gpoem_Poem)×Gapi_Spot)) =>
zbk (fun (j3:Int→Int→ByteArray→Option ((Option Gpoem_Poem)×Gapi_Spot)) =>
zan (zcZ p4 x3) fun (r3:(Gapi_Span×Int×Int)) =>
grd (0≤(r3.1.From:Int)∧(r3.1.From:Int)≤r3.1.To∧(r3.1.To:Int)≤(text1.size:Int)) <|
zan (zdb (zcu text1 r3.1.From r3.1.To)) fun (r4:Bool) =>
zam (r4) (
j2 p14 p15 p16 first3 false
) (
zam (decide ((1024:Int)<((zcu text1 r3.1.From r3.1.To).size:Int))) (
grd (I64 (r3.1.From+1024)) <|
some (none,(⟨3,r3.1.From+1024⟩:Gapi_Spot))
) (
zam (first3) (
zan (zdl (zcu text1 r3.1.From r3.1.To)) fun (r5:Bool) =>
zam (r5) (
grd (0≤(1:Int)∧(1:Int)≤((zcu text1 r3.1.From r3.1.To).size:Int)∧(((zcu text1 r3.1.From r3.1.To).size:Int):Int)≤((zcu text1 r3.1.From r3.1.To).size:Int)) <|
zan (zcl (zcu (zcu text1 r3.1.From r3.1.To) 1 ((zcu text1 r3.1.From r3.1.To).size:Int)) (⟨#[32]⟩:ByteArray)) fun (r6:ByteArray) =>
j2 r6 p15 p16 false row3
) (
zam (((p15.length:Int):Int)==512) (
some (none,(⟨3,r3.1.From⟩:Gapi_Spot))
) (
j3 r3.1.From r3.1.To (zcu text1 r3.1.From r3.1.To)
)
)
) (
zam (((p15.length:Int):Int)==512) (
some (none,(⟨3,r3.1.From⟩:Gapi_Spot))
) (
j3 r3.1.From r3.1.To (zcu text1 r3.1.From r3.1.To)
)
)
)
)
) (fun (span1:Int) (span2:Int) (line1:ByteArray) =>
zbk (fun (j4:(List Gapi_Span)→Option ((Option Gpoem_Poem)×Gapi_Spot)) =>
zam (!row3) (
grd (p16.length+1≤2147483648) <|
j4 (p16++[(⟨(p15.length:Int),(p15.length:Int)⟩:Gapi_Span)])
) (
j4 p16
)
) (fun (p20:List Gapi_Span) =>
grd (I64 ((p20.length:Int) - 1)) <|
zan (zcI p20 ((p20.length:Int) - 1)) fun (q1:Gapi_Span) =>
zan (zcU line1) fun (r7:Int) =>
grd (0≤(r7:Int)∧(r7:Int)≤(line1.size:Int)∧((line1.size:Int):Int)≤(line1.size:Int)) <|
grd (I64 ((p20.length:Int) - 1)) <|
grd (I64 ((p15.length:Int) - q1.From)) <|
grd (I64 (span1+r7)) <|
grd (p15.length+1≤2147483648) <|
grd (I64 ((p15.length:Int)+1)) <|
j2 p14 (p15++[(⟨zcu line1 r7 (line1.size:Int),r7,(p20.length:Int) - 1,(p15.length:Int) - q1.From,span1+r7,span2⟩:Gapi_Verse)]) (p20.set ((p20.length:Int) - 1:Int).toNat (⟨q1.From,(p15.length:Int)+1⟩:Gapi_Span)) false true
)
)
) (fun (p17:ByteArray) (p18:List Gapi_Verse) (p19:List Gapi_Span) (first4:Bool) (row4:Bool) =>
grd (I64 (x3+1)) <|
ag1 p17 p18 p19 first4 row4 (x3+1)
)
) (
j1 p14 p15 p16
)
def zcV (text1:ByteArray):Option ((Option Gpoem_Poem)×Gapi_Spot) :=
zan (zds text1) fun (r1:((Option Gplace_Map)×Int)) =>
zam ((r1.2:Int) != 0) (
some (none,(⟨r1.2,65536⟩:Gapi_Spot))
) (
zbk (fun (j1:ByteArray→(List Gapi_Verse)→(List Gapi_Span)→Option ((Option Gpoem_Poem)×Gapi_Spot)) =>
zan (r1.1) fun (p4:Gplace_Map) =>
zan (zdW p4) fun (r2:Int) =>
zaT (fun _ _ _ _ _ _=>none) (zcr text1 j1 p4 r2) zb8 ByteArray.empty ([]:List Gapi_Verse) ([]:List Gapi_Span) true false 0
) (fun (p1:ByteArray) (p2:List Gapi_Verse) (p3:List Gapi_Span) =>
some ((some (⟨p1,p2,p3,text1⟩:Gpoem_Poem)),(⟨0,0⟩:Gapi_Spot))
)
)
theorem zka {text1:ByteArray} {r:((Option Gpoem_Poem)×Gapi_Spot)} (h:zcV text1=some r):Fn Tryd.prog 18 [.string text1] [] (fun v0:Value=>.tuple #[v0,.agg #[zI r.2.Err,zI r.2.At]]) (fun v0=>[zhG zaJ zaI 81 v0 r.1]):=by
 unfold zcV at h
 refine Fn.intro Tryd.func18 rfl Tryd.ntmps18 (by simp) ?_
 intro w0 K
 refine zyG (zyR 1 rfl ?_)
 refine zbY zpA rfl dc (fun b1 => ?_)
 refine zyN ?_
 refine zeI (β:=Unit) (l:=0) (fun _=>False) (fun _=>[]) (fun _=>[]) rfl ?_ ?_
 ·
  refine zyG (zyR 1 rfl ?_)
  obtain ⟨r1,hq1,h⟩:=zbT h
  refine zeh (vs:=[.string text1]) rfl dc rfl rfl rfl zrG (zkb hq1) Splits.nil ?_
  rintro v1
  refine zc5 (L':=[cells b1 [zI 0,zI 0] 59,zhG zdd zdc 128 v1 r1.1]) (zae [0,1] kr rfl) (zyR 1 rfl (zaE rfl dc rfl rfl (zaE rfl dc rfl rfl (zyR 2 rfl (zyN (zaF (zyG (zyR 1 rfl (zaQ rfl zbF (zaK ?_))))))))))
  refine zaH ?_
  refine zyB rfl h (fun h => ?_) (fun h => ?_)
  ·
   refine zyG (zyR 1 rfl ?_)
   refine zbJ (v:=.agg #[zI r1.2,zI 65536]) (ps:=[(0,.tmp 24),(1,.const (zI 65536))]) rfl dc rfl (fun _=>by kernel_rfl) ?_
   refine zyR 1 rfl (za6 (k:=0) (vs:=[zI r1.2,zI 65536]) (l':=[zI r1.2,zI 65536]) zlL rfl rfl rfl rfl rfl (show _≤_ by simp) rfl rfl (zyN (zax (zag (zbG (by simp) (zcA zaJ zaI 81 ?_))))))
   cases h
   exact zaC (rs:=[.tmp 2,.cell 3 59]) (.pointer none) (.inl rfl) Tryd.results18 (.cons (.tmp rfl) (.cons (.cells zmE (k:=0) rfl rfl rfl) .nil)) rfl (zae [2] kr rfl)
  refine zar (zaH ?_)
  obtain ⟨j1,hj1,h⟩:=zbU h
  refine zaZ (β:=ByteArray×(List Gapi_Verse)×(List Gapi_Span)×Nat×Hd×Hd) 3 rfl (fun b=>j1 b.1 b.2.1 b.2.2.1=some r) (fun b=>[]) (fun b=>[(3,zP b1),(6,zP b.2.2.2.1)]) (fun b=>[cells b1 [zI 0,zI 0] 59,cells b.2.2.2.1 [.string b.1,b.2.2.2.2.1.v,b.2.2.2.2.2.v,.string text1] 81,zv5 b.2.2.2.2.1.v b.2.1,zv6 b.2.2.2.2.2.v b.2.2.1]) (fun cut => ?_) ?_
  ·
   refine zyG (zyR 1 rfl ?_)
   refine zbJ (v:=.agg #[.string ByteArray.empty,.slice none 0 0,.slice none 0 0,.string text1]) (ps:=[(1,.tmp 26)]) rfl dc rfl (fun _=>by kernel_rfl) ?_
   refine zeC rfl dc rfl (fun b3 => ?_)
   refine zyR 1 rfl (zyH (zyR 2 rfl (zyN (zaF (zhM (zaH (cut (zaF ?_))))))))
   refine zaG (zyR 1 rfl ?_)
   obtain ⟨p4,hq2,h⟩:=zbT h
   refine zlb (As:=[zhG zdd zdc 128 v1 r1.1]) (zae [1] kr rfl) (zfz hq2) ?_
   rintro ⟨b4,hd3,hd4⟩ hv1
   have hkp:=h
   subst hv1
   have h:=hkp
   obtain ⟨r2,hq3,h⟩:=zbT h
   refine zco (v:=zI r2) (vs:=[zP b4]) (Rd.nil:Rd _ _ []) rfl dc rfl rfl rfl zrF (zgo (bm1:=b4) (m1:=p4) (m1_h0:=hd3) (m1_h1:=hd4) hq3) (.own (zae [3] (by kernel_rfl) rfl) (fun _ _ h=>sepL.one1.1 h) (.own (zae [4] (by kernel_rfl) rfl) (fun _ _ h=>sepL.one1.1 h) (.own (zae [5] (by kernel_rfl) rfl) (fun _ _ h=>sepL.one1.1 h) .nil))) ?_
   refine zyR 1 rfl (zyN (zaL (zeD (enc:=zc3) (e:=57) (size:=6) ?_)))
   refine zeD (enc:=zdm) (e:=55) (size:=2) ?_
   refine zbK (β:=Nat×ByteArray×(List Gapi_Verse)×(List Gapi_Span)×Bool×Bool×Int×Hd×Hd) (fun b=>zaT (fun _ _ _ _ _ _=>none) (zcr text1 j1 p4 r2) b.1 b.2.1 b.2.2.1 b.2.2.2.1 b.2.2.2.2.1 b.2.2.2.2.2.1 b.2.2.2.2.2.2.1=some r) (fun b=>[]) (fun b=>[(0,.string text1),(3,zP b1),(4,zP b4),(6,zP b3),(7,.bool b.2.2.2.2.1),(8,.bool b.2.2.2.2.2.1),(30,zI r2),(31,zI b.2.2.2.2.2.2.1)]) (fun b=>[cells b1 [zI 0,zI 0] 59,cells b4 [.string p4.text,hd3.v,hd4.v] 128,zv2 hd3.v p4.places,zv1 hd4.v p4.lines,cells b3 [.string b.2.1,b.2.2.2.2.2.2.2.1.v,b.2.2.2.2.2.2.2.2.v,.string text1] 81,zv5 b.2.2.2.2.2.2.2.1.v b.2.2.1,zv6 b.2.2.2.2.2.2.2.2.v b.2.2.2.1]) (fun b=>b.1) (zb8,ByteArray.empty,([]:List Gapi_Verse),([]:List Gapi_Span),true,false,0,Hd.nil,Hd.nil) h rfl (za1 rfl) (zae [0,3,4,5,2,6,7] kr rfl) ?_
   rintro ⟨n1,p14,p15,p16,first3,row3,x3,hd10,hd11⟩ h
   cases n1 with
   | zero=>exact zdu h
   | succ n1 =>
    obtain ⟨ag1,hag1⟩:∃ ag,ag=zaT (fun _ _ _ _ _ _=>none) (zcr text1 j1 p4 r2) n1:=⟨_,rfl⟩
    have h:zcr text1 j1 p4 r2 ag1 p14 p15 p16 first3 row3 x3=some r:=by rw [hag1]; exact h
    unfold zcr at h
    refine zyG (zaQ rfl zbV (zyN (zaF ?_)))
    refine zyB rfl h (fun h => ?_) (fun h => ?_)
    ·
     refine zar (zaH ?_)
     obtain ⟨j2,hj2,h⟩:=zbU h
     refine zaZ (β:=ByteArray×(List Gapi_Verse)×(List Gapi_Span)×Bool×Bool×Hd×Hd) 0 rfl (fun b=>j2 b.1 b.2.1 b.2.2.1 b.2.2.2.1 b.2.2.2.2.1=some r) (fun b=>[]) (fun b=>[(0,.string text1),(3,zP b1),(4,zP b4),(6,zP b3),(7,.bool b.2.2.2.1),(8,.bool b.2.2.2.2.1),(30,zI r2),(31,zI x3)]) (fun b=>[cells b1 [zI 0,zI 0] 59,cells b4 [.string p4.text,hd3.v,hd4.v] 128,zv2 hd3.v p4.places,zv1 hd4.v p4.lines,cells b3 [.string b.1,b.2.2.2.2.2.1.v,b.2.2.2.2.2.2.v,.string text1] 81,zv5 b.2.2.2.2.2.1.v b.2.1,zv6 b.2.2.2.2.2.2.v b.2.2.1]) (fun cut => ?_) ?_
     ·
      refine cut (zaL ?_)
      obtain ⟨j3,hj3,h⟩:=zbU h
      refine zaZ (β:=Int×Int×ByteArray×Nat) 3 rfl (fun b=>j3 b.1 b.2.1 b.2.2.1=some r) (fun b=>[]) (fun b=>[(0,.string text1),(3,zP b1),(4,zP b4),(6,zP b3),(8,.bool row3),(10,zP b.2.2.2),(13,.string b.2.2.1),(30,zI r2),(31,zI x3)]) (fun b=>[cells b1 [zI 0,zI 0] 59,cells b4 [.string p4.text,hd3.v,hd4.v] 128,zv2 hd3.v p4.places,zv1 hd4.v p4.lines,cells b3 [.string p14,hd10.v,hd11.v,.string text1] 81,zv5 hd10.v p15,zv6 hd11.v p16,cells b.2.2.2 [zI b.1,zI b.2.1] 55]) (fun cut => ?_) ?_
      ·
       refine zyG (zyR 2 rfl (zyH (zyR 2 rfl ?_)))
       obtain ⟨r3,hq4,h⟩:=zbT h
       refine zco (v:=.tuple #[.agg (zr5 r3.1).toArray,zI r3.2.1,zI r3.2.2]) (vs:=[zP b4,zI x3]) (Rd.nil:Rd _ _ []) rfl dc rfl rfl rfl zrE (zgT (bm1:=b4) (m1:=p4) (m1_h0:=hd3) (m1_h1:=hd4) hq4) (.own (zae [1] (by kernel_rfl) rfl) (fun _ _ h=>sepL.one1.1 h) (.own (zae [2] (by kernel_rfl) rfl) (fun _ _ h=>sepL.one1.1 h) (.own (zae [3] (by kernel_rfl) rfl) (fun _ _ h=>sepL.one1.1 h) .nil))) ?_
       refine zyR 1 rfl (zaE rfl dc rfl rfl (zaE rfl dc rfl rfl (zaE rfl dc rfl rfl ?_)))
       refine zbY zoW rfl dc (fun b6 => ?_)
       refine za6 (k:=7) (vs:=(zr5 r3.1)) (l':=(zr5 r3.1)) zlM rfl rfl rfl rfl rfl (show _≤_ by simp) rfl rfl ?_
       refine zyR 2 rfl (zyH (zyR 1 rfl (zac zeO rfl dc rfl (show _=0 from rfl) (zah (k:=7) za5 rfl dc rfl rfl rfl (zac zez rfl dc rfl (show _=1 from rfl) (zah (k:=7) za5 rfl dc rfl rfl rfl ?_))))))
       obtain ⟨hg1,h⟩:=zbM h
       refine zd5 rfl dc rfl rfl rfl (zcf (i:=r3.1.From) (j:=r3.1.To) Tryd.underlying9 (.inr rfl) (.inr rfl) hg1) (zyR 1 rfl (zyN (cut (zaL (zyG (zyR 1 rfl ?_))))))
       obtain ⟨r4,hq5,h⟩:=zbT h
       refine zbb (v:=.bool r4) (vs:=[.string (zcu text1 r3.1.From r3.1.To)]) rfl dc rfl rfl rfl zqj (zgn hq5) (zyR 1 rfl (zyN ?_))
       refine zyB rfl h (fun h => ?_) (fun h => ?_)
       ·
        refine zyG (zyR 1 rfl (zyN (zbc (zbX dc (zap (zaw ?_))))))
        exact zai (p14,p15,p16,first3,false,hd10,hd11) h rfl (za1 rfl) (zae [0,1,2,3,4,5,6] kr rfl)
       refine zyG (zyR 1 rfl (zbt rfl dc rfl Tryd.underlying9 (zaQ rfl zcQ (zyR 1 rfl (zyN ?_)))))
       refine zyB rfl h (fun h => ?_) (fun h => ?_)
       ·
        refine zaF ?_
        obtain ⟨hg2,h⟩:=zbM h
        refine zaN 5 [(0,54,zP b6),(1,55,zI r3.1.From),(2,56,zI (r3.1.From+1024)),(3,57,.agg #[zI 3,zI (r3.1.From+1024)]),(4,2,.pointer none)] mixed kr kr dc (by rfl) kr kr (zaa ?_ (zaa ?_ (zaa ?_ (zaa ?_ (zaa ?_ DrawPre.nil))))) ?_
        · exact fun D n d c u i=>zac zeO rfl dc (zaD (by rfl) rfl) (show _=0 from rfl) (zad 0 u i rfl)
        · exact fun D n d c u i=>zah (k:=7) za5 rfl dc (zab (m:=0) u rfl (d 0 dc)) rfl rfl (zad 1 u i rfl)
        · exact fun D n d c u i=>zaM rfl dc (zab (m:=1) u rfl (d 1 dc)) rfl (zaW (r:=r3.1.From+1024) (IntWalk.i64_in _ hg2)) (zad 2 u i rfl)
        · exact fun D n d c u i=>zbJ (v:=.agg #[zI 3,zI (r3.1.From+1024)]) (ps:=[(0,.const (zI 3)),(1,.tmp 56)]) rfl dc (evP.cons rfl (evP.cons (zab (m:=2) u rfl (d 2 dc)) evP.nil)) (fun _=>by kernel_rfl) (zad 3 u i rfl)
        · exact fun D n d c u i=>zyR 1 rfl (zad 4 u i rfl)
        refine za6 (k:=0) (vs:=[zI 3,zI (r3.1.From+1024)]) (l':=[zI 3,zI (r3.1.From+1024)]) zlL rfl rfl rfl rfl rfl (show _≤_ by simp) rfl rfl (zyN (zax (zaj (zag (zaj (zag (zag (zaj (zag (zbG (by simp) (zcA zaJ zaI 81 ?_)))))))))))
        cases h
        exact zaC (rs:=[.tmp 2,.cell 3 59]) (.pointer none) (.inl rfl) Tryd.results18 (.cons (.tmp rfl) (.cons (.cells zmE (k:=0) rfl rfl rfl) .nil)) rfl (zae [8] kr rfl)
       refine zyG (zyR 2 rfl ?_)
       refine zyS (s:=60) rfl h (fun h => ?_) (fun h => ?_)
       ·
        refine zyR 1 rfl ?_
        obtain ⟨r5,hq6,h⟩:=zbT h
        refine zbb (v:=.bool r5) (vs:=[.string (zcu text1 r3.1.From r3.1.To)]) rfl dc rfl rfl rfl zqi (zfO hq6) (zyR 2 rfl (zyN ?_))
        refine zyB rfl h (fun h => ?_) (fun h => ?_)
        ·
         refine zyG (zyR 1 rfl (zyH (zyR 2 rfl ?_)))
         obtain ⟨hg3,h⟩:=zbM h
         refine zd5 rfl dc rfl rfl rfl (zcf (i:=1) (j:=((zcu text1 r3.1.From r3.1.To).size:Int)) Tryd.underlying9 (.inr rfl) (.inl ⟨rfl,rfl⟩) hg3) ?_
         obtain ⟨r6,hq7,h⟩:=zbT h
         refine zbb (v:=.string r6) (vs:=[.string (zcu (zcu text1 r3.1.From r3.1.To) 1 ((zcu text1 r3.1.From r3.1.To).size:Int)),.string (⟨#[32]⟩:ByteArray)]) rfl dc rfl rfl rfl zrD (zfj hq7) (zat rfl dc rfl (zac zcY rfl dc rfl (show _=0 from rfl) (zac zii rfl dc rfl (show _=0 from rfl) ?_)))
         refine zbu (k:=4) (l':=[.string r6,hd10.v,hd11.v,.string text1]) zmt rfl rfl rfl rfl rfl (fun _ _=>rfl) rfl ?_
         refine zyN (zbc (zbX dc (zap (zaw ?_))))
         exact zai (r6,p15,p16,false,row3,hd10,hd11) h rfl (za1 rfl) (zae [0,1,2,3,4,5,6] kr rfl)
        refine zyG (zyR 1 rfl (zat rfl dc rfl (zac zcY rfl dc rfl (show _=0 from rfl) (zac ze5 rfl dc rfl (show _=1 from rfl) (zah (k:=4) zj3 rfl dc rfl rfl rfl (zdj (k:=5) rfl dc rfl rfl Tryd.underlying27 (zaQ rfl zaq (zyR 1 rfl (zyN ?_)))))))))
        refine zyB rfl h (fun h => ?_) (fun h => ?_)
        ·
         refine zaF ?_
         refine zaN 4 [(0,79,zP b6),(1,80,zI r3.1.From),(2,81,.agg #[zI 3,zI r3.1.From]),(3,2,.pointer none)] mixed kr kr dc (by rfl) kr kr (zaa ?_ (zaa ?_ (zaa ?_ (zaa ?_ DrawPre.nil)))) ?_
         · exact fun D n d c u i=>zac zeO rfl dc (zaD (by rfl) rfl) (show _=0 from rfl) (zad 0 u i rfl)
         · exact fun D n d c u i=>zah (k:=7) za5 rfl dc (zab (m:=0) u rfl (d 0 dc)) rfl rfl (zad 1 u i rfl)
         · exact fun D n d c u i=>zbJ (v:=.agg #[zI 3,zI r3.1.From]) (ps:=[(0,.const (zI 3)),(1,.tmp 80)]) rfl dc (evP.cons rfl (evP.cons (zab (m:=1) u rfl (d 1 dc)) evP.nil)) (fun _=>by kernel_rfl) (zad 2 u i rfl)
         · exact fun D n d c u i=>zyR 1 rfl (zad 3 u i rfl)
         refine za6 (k:=0) (vs:=[zI 3,zI r3.1.From]) (l':=[zI 3,zI r3.1.From]) zlL rfl rfl rfl rfl rfl (show _≤_ by simp) rfl rfl (zyN (zax (zaj (zag (zaj (zag (zag (zaj (zag (zbG (by simp) (zcA zaJ zaI 81 ?_)))))))))))
         cases h
         exact zaC (rs:=[.tmp 2,.cell 3 59]) (.pointer none) (.inl rfl) Tryd.results18 (.cons (.tmp rfl) (.cons (.cells zmE (k:=0) rfl rfl rfl) .nil)) rfl (zae [8] kr rfl)
        refine zar (zal ?_)
        exact zai (r3.1.From,r3.1.To,zcu text1 r3.1.From r3.1.To,b6) h rfl (za1 rfl) (zae [0,1,2,3,4,5,6,7] kr rfl)
       refine zyR 4 rfl (zyN (zaP rfl (zyG (zyR 1 rfl (zat rfl dc rfl (zac zcY rfl dc rfl (show _=0 from rfl) (zac ze5 rfl dc rfl (show _=1 from rfl) (zah (k:=4) zj3 rfl dc rfl rfl rfl ?_))))))))
       refine zdj (k:=5) rfl dc rfl rfl Tryd.underlying27 (zaQ rfl zaq (zyR 1 rfl (zyN ?_)))
       refine zyB rfl h (fun h => ?_) (fun h => ?_)
       ·
        refine zaF ?_
        refine zaN 4 [(0,79,zP b6),(1,80,zI r3.1.From),(2,81,.agg #[zI 3,zI r3.1.From]),(3,2,.pointer none)] mixed kr kr dc (by rfl) kr kr (zaa ?_ (zaa ?_ (zaa ?_ (zaa ?_ DrawPre.nil)))) ?_
        · exact fun D n d c u i=>zac zeO rfl dc (zaD (by rfl) rfl) (show _=0 from rfl) (zad 0 u i rfl)
        · exact fun D n d c u i=>zah (k:=7) za5 rfl dc (zab (m:=0) u rfl (d 0 dc)) rfl rfl (zad 1 u i rfl)
        · exact fun D n d c u i=>zbJ (v:=.agg #[zI 3,zI r3.1.From]) (ps:=[(0,.const (zI 3)),(1,.tmp 80)]) rfl dc (evP.cons rfl (evP.cons (zab (m:=1) u rfl (d 1 dc)) evP.nil)) (fun _=>by kernel_rfl) (zad 2 u i rfl)
        · exact fun D n d c u i=>zyR 1 rfl (zad 3 u i rfl)
        refine za6 (k:=0) (vs:=[zI 3,zI r3.1.From]) (l':=[zI 3,zI r3.1.From]) zlL rfl rfl rfl rfl rfl (show _≤_ by simp) rfl rfl (zyN (zax (zaj (zag (zaj (zag (zag (zaj (zag (zbG (by simp) (zcA zaJ zaI 81 ?_)))))))))))
        cases h
        exact zaC (rs:=[.tmp 2,.cell 3 59]) (.pointer none) (.inl rfl) Tryd.results18 (.cons (.tmp rfl) (.cons (.cells zmE (k:=0) rfl rfl rfl) .nil)) rfl (zae [8] kr rfl)
       refine zar (zal ?_)
       exact zai (r3.1.From,r3.1.To,zcu text1 r3.1.From r3.1.To,b6) h rfl (za1 rfl) (zae [0,1,2,3,4,5,6,7] kr rfl)
      rintro ⟨span1,span2,line1,b5⟩ h
      rw [hj3] at h
      obtain ⟨j4,hj4,h⟩:=zbU h
      refine zaZ (β:=(List Gapi_Span)×Hd) 2 rfl (fun b=>j4 b.1=some r) (fun b=>[]) (fun b=>[(0,.string text1),(3,zP b1),(4,zP b4),(6,zP b3),(7,.bool false),(10,zP b5),(13,.string line1),(14,zI (p15.length:Int)),(30,zI r2),(31,zI x3)]) (fun b=>[cells b1 [zI 0,zI 0] 59,cells b4 [.string p4.text,hd3.v,hd4.v] 128,zv2 hd3.v p4.places,zv1 hd4.v p4.lines,cells b3 [.string p14,hd10.v,b.2.v,.string text1] 81,zv5 hd10.v p15,zv6 b.2.v b.1,cells b5 [zI span1,zI span2] 55]) (fun cut => ?_) ?_
      ·
       refine zyG (zyR 1 rfl (zyH (zyR 1 rfl (zat rfl dc rfl (zac zcY rfl dc rfl (show _=0 from rfl) (zac ze5 rfl dc rfl (show _=1 from rfl) (zah (k:=4) zj3 rfl dc rfl rfl rfl (zdj (k:=5) rfl dc rfl rfl Tryd.underlying27 (zyR 1 rfl ?_)))))))))
       refine zyN (cut (zyG (zyR 1 rfl (zdg rfl dc rfl zch (zyN ?_)))))
       refine zyB rfl h (fun h => ?_) (fun h => ?_)
       ·
        refine zaG (zyR 2 rfl (zat rfl dc rfl (zac zcY rfl dc rfl (show _=0 from rfl) (zac zih rfl dc rfl (show _=2 from rfl) (zah (k:=4) znS rfl dc rfl rfl rfl (zyR 2 rfl ?_))))))
        refine zbJ (v:=.agg #[zI (p15.length:Int),zI (p15.length:Int)]) (ps:=[(0,.tmp 96),(1,.tmp 97)]) rfl dc rfl (fun _=>by kernel_rfl) ?_
        refine zbn (cs:=[zI (p15.length:Int),zI (p15.length:Int)]) (te:=55) (ps:=[(0,.tmp 98)]) rfl dc rfl (fun _=>by kernel_rfl) (fun b7 => ?_)
        obtain ⟨hg4,h⟩:=zbM h
        refine zbH (k:=6) (k2:=8) (ys:=[(⟨(p15.length:Int),(p15.length:Int)⟩:Gapi_Span)]) Tryd.underlying77 zrU zd0 zg2 rfl dc rfl rfl rfl rfl rfl rfl hg4 (fun v2 => ?_)
        refine zcn (k:=6) rfl (fun hd15 he1 => ?_)
        subst he1
        refine zat rfl dc rfl (zac zcY rfl dc rfl (show _=0 from rfl) (zac zih rfl dc rfl (show _=2 from rfl) ?_))
        refine zbu (k:=4) (l':=[.string p14,hd10.v,hd15.v,.string text1]) zq0 rfl rfl rfl rfl rfl (fun _ _=>rfl) rfl ?_
        refine zaK ?_
        exact zai (p16++[(⟨(p15.length:Int),(p15.length:Int)⟩:Gapi_Span)],hd15) h rfl (za1 rfl) (zae [0,1,2,3,4,5,6,7] kr rfl)
       refine zar ?_
       exact zai (p16,hd11) h rfl (za1 rfl) (zae [0,1,2,3,4,5,6,7] kr rfl)
      rintro ⟨p20,hd14⟩ h
      rw [hj4] at h
      refine zyG (zyR 1 rfl (zyN (zaF ?_)))
      obtain ⟨hg5,h⟩:=zbM h
      obtain ⟨q1,hq8,h⟩:=zbT h
      refine zaN 12 [(0,104,zP b3),(1,105,zP b3),(2,106,zP b3),(3,107,.pointer (some ⟨b3,2,none⟩)),(4,108,hd14.v),(5,109,zP b3),(6,110,zP b3),(7,111,zP b3),(8,112,.pointer (some ⟨b3,2,none⟩)),(9,113,hd14.v),(10,114,zI (p20.length:Int)),(11,115,zI ((p20.length:Int) - 1))] mixed kr kr dc (by rfl) kr kr (zyP 1 0 rfl (zaa ?_ (zaa ?_ (zaa ?_ (zaa ?_ (zyP 1 5 rfl (zaa ?_ (zaa ?_ (zaa ?_ (zaa ?_ (zaa ?_ (zaa ?_ DrawPre.nil)))))))))))) ?_
      · exact fun D n d c u i=>zat rfl dc (zab (m:=0) u rfl (d 0 dc)) (zad 1 u i rfl)
      · exact fun D n d c u i=>zac zcY rfl dc (zab (m:=1) u rfl (d 1 dc)) (show _=0 from rfl) (zad 2 u i rfl)
      · exact fun D n d c u i=>zac zih rfl dc (zab (m:=2) u rfl (d 2 dc)) (show _=2 from rfl) (zad 3 u i rfl)
      · exact fun D n d c u i=>zah (k:=4) znS rfl dc (zab (m:=3) u rfl (d 3 dc)) rfl rfl (zad 4 u i rfl)
      · exact fun D n d c u i=>zat rfl dc (zab (m:=5) u rfl (d 5 dc)) (zad 6 u i rfl)
      · exact fun D n d c u i=>zac zcY rfl dc (zab (m:=6) u rfl (d 6 dc)) (show _=0 from rfl) (zad 7 u i rfl)
      · exact fun D n d c u i=>zac zih rfl dc (zab (m:=7) u rfl (d 7 dc)) (show _=2 from rfl) (zad 8 u i rfl)
      · exact fun D n d c u i=>zah (k:=4) znS rfl dc (zab (m:=8) u rfl (d 8 dc)) rfl rfl (zad 9 u i rfl)
      · exact fun D n d c u i=>zdj (k:=6) rfl dc (zab (m:=9) u rfl (d 9 dc)) rfl Tryd.underlying77 (zad 10 u i rfl)
      · exact fun D n d c u i=>zaM rfl dc (zab (m:=10) u rfl (d 10 dc)) rfl (zcc (r:=(p20.length:Int) - 1) (IntWalk.i64_in _ hg5)) (zad 11 u i rfl)
      refine zaX (k:=6) hq8 Tryd.underlying77 zlM rfl dc rfl rfl rfl rfl (zyR 1 rfl (zyH (zyR 1 rfl ?_)))
      obtain ⟨r7,hq9,h⟩:=zbT h
      refine zbb (v:=zI r7) (vs:=[.string line1]) rfl dc rfl rfl rfl zrC (ziG hq9) (zyR 1 rfl (zyN (zaF ?_)))
      obtain ⟨hg6,h⟩:=zbM h
      obtain ⟨hg7,h⟩:=zbM h
      obtain ⟨hg8,h⟩:=zbM h
      obtain ⟨hg9,h⟩:=zbM h
      obtain ⟨hg10,h⟩:=zbM h
      refine zfU 1 ?_
      refine let vals1:(Nat×Hd)→List (Nat×Nat×Value):=fun b=>[(0,119,zP b3),(1,120,zP b3),(2,121,zP b3),(3,122,zP b3),(4,123,.pointer (some ⟨b3,1,none⟩)),(5,124,hd10.v),(6,125,.string line1),(7,126,zI r7),(8,127,.string (zcu line1 r7 (line1.size:Int))),(9,128,zI r7),(10,129,zP b3),(11,130,zP b3),(12,131,zP b3),(13,132,.pointer (some ⟨b3,2,none⟩)),(14,133,hd14.v),(15,134,zI (p20.length:Int)),(16,135,zI ((p20.length:Int) - 1)),(17,136,zI (p15.length:Int)),(18,137,.pointer (some ⟨zc7 hd14.v,((p20.length:Int) - 1:Int).toNat*2,none⟩)),(19,138,.pointer (some ⟨zc7 hd14.v,((p20.length:Int) - 1:Int).toNat*2,none⟩)),(20,139,.pointer (some ⟨zc7 hd14.v,(((p20.length:Int) - 1:Int).toNat)*2,none⟩)),(21,140,zI q1.From),(22,141,zI ((p15.length:Int) - q1.From)),(23,142,zP b5),(24,143,zI span1),(25,144,zI r7),(26,145,zI (span1+r7)),(27,146,.pointer (some ⟨b5,1,none⟩)),(28,147,zI span2),(29,148,.agg #[zI (span1+r7),zI span2]),(30,149,.agg #[.string (zcu line1 r7 (line1.size:Int)),zI r7,zI ((p20.length:Int) - 1),zI ((p15.length:Int) - q1.From),zI (span1+r7),zI span2]),(31,150,.slice (some ⟨b.1,0,none⟩) 1 1),(32,151,b.2.v)]; let LL1:(Nat→Prop)→(Nat×Hd)→List Asn:=fun D b=>[cells b1 [zI 0,zI 0] 59,cells b4 [.string p4.text,hd3.v,hd4.v] 128,zv2 hd3.v p4.places,zv1 hd4.v p4.lines,cells b3 [.string p14,hd10.v,hd14.v,.string text1] 81,eD D (zv5 hd10.v p15) [(32,zv5 b.2.v (p15++[(⟨zcu line1 r7 (line1.size:Int),r7,(p20.length:Int) - 1,(p15.length:Int) - q1.From,span1+r7,span2⟩:Gapi_Verse)]))],zv6 hd14.v p20,cells b5 [zI span1,zI span2] 55,eD D emp [(31,cells b.1 [.string (zcu line1 r7 (line1.size:Int)),zI r7,zI ((p20.length:Int) - 1),zI ((p15.length:Int) - q1.From),zI (span1+r7),zI span2] 57)]]; ?_
      have zhq:zyQ [31,32] LL1:=fun i h D b=>zaf rfl (zaf rfl (zaf rfl (zaf rfl (zaf rfl (zaf (zmd rfl h) (zaf rfl (zaf rfl (zaf (zmd rfl h) rfl))))))))
      refine zdS (β:=Nat×Hd) 33 ((0:Nat),Hd.nil) vals1 LL1 mixed kr kr dc (fun _=>rfl) (zlf (zaf zcz (zdU (zaf zcz rfl)))) (znC zhq (fun _=>rfl) (fun _=>rfl) 2 0 (fun _=>rfl) rfl (zyq zhq rfl (fun _=>rfl) (fun _=>rfl) ?_ (zyq zhq rfl (fun _=>rfl) (fun _=>rfl) ?_ (zyq zhq rfl (fun _=>rfl) (fun _=>rfl) ?_ (zho zhq rfl (fun _=>rfl) (fun _=>rfl) ?_ (znC zhq (fun _=>rfl) (fun _=>rfl) 2 6 (fun _=>rfl) rfl (zho zhq rfl (fun _=>rfl) (fun _=>rfl) ?_ (znC zhq (fun _=>rfl) (fun _=>rfl) 2 9 (fun _=>rfl) rfl (zyq zhq rfl (fun _=>rfl) (fun _=>rfl) ?_ (zyq zhq rfl (fun _=>rfl) (fun _=>rfl) ?_ (zyq zhq rfl (fun _=>rfl) (fun _=>rfl) ?_ (zho zhq rfl (fun _=>rfl) (fun _=>rfl) ?_ (zho zhq rfl (fun _=>rfl) (fun _=>rfl) ?_ (zyq zhq rfl (fun _=>rfl) (fun _=>rfl) ?_ (znC zhq (fun _=>rfl) (fun _=>rfl) 2 17 (fun _=>rfl) rfl (zyq zhq rfl (fun _=>rfl) (fun _=>rfl) ?_ (zyq zhq rfl (fun _=>rfl) (fun _=>rfl) ?_ (zho zhq rfl (fun _=>rfl) (fun _=>rfl) ?_ (zyq zhq rfl (fun _=>rfl) (fun _=>rfl) ?_ (zyq zhq rfl (fun _=>rfl) (fun _=>rfl) ?_ (zho zhq rfl (fun _=>rfl) (fun _=>rfl) ?_ (znC zhq (fun _=>rfl) (fun _=>rfl) 1 25 (fun _=>rfl) rfl (zyq zhq rfl (fun _=>rfl) (fun _=>rfl) ?_ (zyq zhq rfl (fun _=>rfl) (fun _=>rfl) ?_ (zho zhq rfl (fun _=>rfl) (fun _=>rfl) ?_ (zyq zhq rfl (fun _=>rfl) (fun _=>rfl) ?_ (zyq zhq rfl (fun _=>rfl) (fun _=>rfl) ?_ (zay ?_ (zay ?_ DrawG.nil))))))))))))))))))))))))))))) ?_
      · exact fun D ⟨b8,hd16⟩ n d c u i=>zat rfl dc (zab (m:=1) u rfl (d 1 dc)) (zad 2 u i rfl)
      · exact fun D ⟨b8,hd16⟩ n d c u i=>zac zcY rfl dc (zab (m:=2) u rfl (d 2 dc)) (show _=0 from rfl) (zad 3 u i rfl)
      · exact fun D ⟨b8,hd16⟩ n d c u i=>zac ze5 rfl dc (zab (m:=3) u rfl (d 3 dc)) (show _=1 from rfl) (zad 4 u i rfl)
      · exact fun D ⟨b8,hd16⟩ n d c u i=>⟨_,(zlf (zaf (zao (fun hD=>n (c 32 _ rfl hD 5 dc)) zas) (zbZ rfl))),zah (k:=4) zj3 rfl dc (zab (m:=4) u rfl (d 4 dc)) rfl rfl (zad 5 u i rfl)⟩
      · exact fun D ⟨b8,hd16⟩ n d c u i=>⟨_,(zlf (zaf (zao (fun hD=>n (c 30 _ rfl (c 31 _ rfl (c 32 _ rfl hD 31 dc) 30 dc) 8 dc)) zas) (zdU (zaf (zao (fun hD=>n (c 30 _ rfl (c 31 _ rfl hD 30 dc) 8 dc)) zas) rfl)))),zd5 rfl dc (zab (m:=6) u rfl (d 6 dc)) (evO.some (zab (m:=7) u rfl (d 7 dc))) zjA (zcf (i:=r7) (j:=(line1.size:Int)) Tryd.underlying9 (.inr rfl) (.inl ⟨rfl,rfl⟩) hg6) (zad 8 u i rfl)⟩
      · exact fun D ⟨b8,hd16⟩ n d c u i=>zat rfl dc (zab (m:=10) u rfl (d 10 dc)) (zad 11 u i rfl)
      · exact fun D ⟨b8,hd16⟩ n d c u i=>zac zcY rfl dc (zab (m:=11) u rfl (d 11 dc)) (show _=0 from rfl) (zad 12 u i rfl)
      · exact fun D ⟨b8,hd16⟩ n d c u i=>zac zih rfl dc (zab (m:=12) u rfl (d 12 dc)) (show _=2 from rfl) (zad 13 u i rfl)
      · exact fun D ⟨b8,hd16⟩ n d c u i=>⟨_,(zlf (zaf (zao (fun hD=>n (c 15 _ rfl (c 16 _ rfl (c 30 _ rfl (c 31 _ rfl (c 32 _ rfl hD 31 dc) 30 dc) 16 dc) 15 dc) 14 dc)) zas) (zdU (zaf (zao (fun hD=>n (c 15 _ rfl (c 16 _ rfl (c 30 _ rfl (c 31 _ rfl hD 30 dc) 16 dc) 15 dc) 14 dc)) zas) rfl)))),zah (k:=4) znS rfl dc (zab (m:=13) u rfl (d 13 dc)) rfl rfl (zad 14 u i rfl)⟩
      · exact fun D ⟨b8,hd16⟩ n d c u i=>⟨_,(zlf (zaf (zao (fun hD=>n (c 16 _ rfl (c 30 _ rfl (c 31 _ rfl (c 32 _ rfl hD 31 dc) 30 dc) 16 dc) 15 dc)) zas) (zdU (zaf (zao (fun hD=>n (c 16 _ rfl (c 30 _ rfl (c 31 _ rfl hD 30 dc) 16 dc) 15 dc)) zas) rfl)))),zdj (k:=6) rfl dc (zab (m:=14) u rfl (d 14 dc)) rfl Tryd.underlying77 (zad 15 u i rfl)⟩
      · exact fun D ⟨b8,hd16⟩ n d c u i=>zaM rfl dc (zab (m:=15) u rfl (d 15 dc)) rfl (zcc (r:=(p20.length:Int) - 1) (IntWalk.i64_in _ hg7)) (zad 16 u i rfl)
      · exact fun D ⟨b8,hd16⟩ n d c u i=>zat rfl dc (zab (m:=18) u rfl (d 18 dc)) (zad 19 u i rfl)
      · exact fun D ⟨b8,hd16⟩ n d c u i=>zac zeO rfl dc (zab (m:=19) u rfl (d 19 dc)) (show _=(((p20.length:Int) - 1:Int).toNat)*2 from rfl) (zad 20 u i rfl)
      · exact fun D ⟨b8,hd16⟩ n d c u i=>⟨_,(zlf (zaf (zao (fun hD=>n (c 22 _ rfl (c 30 _ rfl (c 31 _ rfl (c 32 _ rfl hD 31 dc) 30 dc) 22 dc) 21 dc)) zas) (zdU (zaf (zao (fun hD=>n (c 22 _ rfl (c 30 _ rfl (c 31 _ rfl hD 30 dc) 22 dc) 21 dc)) zas) rfl)))),zbA (i:=((p20.length:Int) - 1:Int).toNat) (j:=0) (k:=6) (q:=q1) za5 zd0 rfl dc (zab (m:=20) u rfl (d 20 dc)) rfl (zaV hq8) rfl dc rfl (zad 21 u i rfl)⟩
      · exact fun D ⟨b8,hd16⟩ n d c u i=>zaM rfl dc (zab (m:=17) u rfl (d 17 dc)) (zab (m:=21) u rfl (d 21 dc)) (zcc (r:=(p15.length:Int) - q1.From) (IntWalk.i64_in _ hg8)) (zad 22 u i rfl)
      · exact fun D ⟨b8,hd16⟩ n d c u i=>zac zeO rfl dc (zaD (by rfl) rfl) (show _=0 from rfl) (zad 23 u i rfl)
      · exact fun D ⟨b8,hd16⟩ n d c u i=>⟨_,(zlf (zaf (zao (fun hD=>n (c 26 _ rfl (c 29 _ rfl (c 30 _ rfl (c 31 _ rfl (c 32 _ rfl hD 31 dc) 30 dc) 29 dc) 26 dc) 24 dc)) zas) (zdU (zaf (zao (fun hD=>n (c 26 _ rfl (c 29 _ rfl (c 30 _ rfl (c 31 _ rfl hD 30 dc) 29 dc) 26 dc) 24 dc)) zas) rfl)))),zah (k:=7) za5 rfl dc (zab (m:=23) u rfl (d 23 dc)) rfl rfl (zad 24 u i rfl)⟩
      · exact fun D ⟨b8,hd16⟩ n d c u i=>zaM rfl dc (zab (m:=24) u rfl (d 24 dc)) (zab (m:=25) u rfl (d 25 dc)) (zaW (r:=span1+r7) (IntWalk.i64_in _ hg9)) (zad 26 u i rfl)
      · exact fun D ⟨b8,hd16⟩ n d c u i=>zac zez rfl dc (zaD (by rfl) rfl) (show _=1 from rfl) (zad 27 u i rfl)
      · exact fun D ⟨b8,hd16⟩ n d c u i=>⟨_,(zlf (zaf (zao (fun hD=>n (c 29 _ rfl (c 30 _ rfl (c 31 _ rfl (c 32 _ rfl hD 31 dc) 30 dc) 29 dc) 28 dc)) zas) (zdU (zaf (zao (fun hD=>n (c 29 _ rfl (c 30 _ rfl (c 31 _ rfl hD 30 dc) 29 dc) 28 dc)) zas) rfl)))),zah (k:=7) za5 rfl dc (zab (m:=27) u rfl (d 27 dc)) rfl rfl (zad 28 u i rfl)⟩
      · exact fun D ⟨b8,hd16⟩ n d c u i=>zbJ (v:=.agg #[zI (span1+r7),zI span2]) (ps:=[(0,.tmp 145),(1,.tmp 147)]) rfl dc (evP.cons (zab (m:=26) u rfl (d 26 dc)) (evP.cons (zab (m:=28) u rfl (d 28 dc)) evP.nil)) (fun _=>by kernel_rfl) (zad 29 u i rfl)
      · exact fun D ⟨b8,hd16⟩ n d c u i=>zbJ (v:=.agg #[.string (zcu line1 r7 (line1.size:Int)),zI r7,zI ((p20.length:Int) - 1),zI ((p15.length:Int) - q1.From),zI (span1+r7),zI span2]) (ps:=[(0,.tmp 127),(1,.tmp 128),(2,.tmp 135),(3,.tmp 141),(4,.tmp 148)]) rfl dc (evP.cons (zab (m:=8) u rfl (d 8 dc)) (evP.cons (zab (m:=9) u rfl (d 9 dc)) (evP.cons (zab (m:=16) u rfl (d 16 dc)) (evP.cons (zab (m:=22) u rfl (d 22 dc)) (evP.cons (zab (m:=29) u rfl (d 29 dc)) evP.nil))))) (fun _=>by kernel_rfl) (zad 30 u i rfl)
      ·
       intro D b hn hd hcl
       obtain ⟨zb0,hd16⟩:=b
       refine zaO (zlf (zaf (zao (fun hD=>hn (hcl 32 _ rfl hD 31 dc)) zas) (zdU (zaf (zao hn zas) rfl)))) ?_
       refine zbn (cs:=[.string (zcu line1 r7 (line1.size:Int)),zI r7,zI ((p20.length:Int) - 1),zI ((p15.length:Int) - q1.From),zI (span1+r7),zI span2]) (te:=57) (ps:=[(0,.tmp 149)]) rfl dc (evP.cons (zab (m:=30) rfl rfl (hd 30 dc)) evP.nil) (fun _=>by kernel_rfl) (fun b8 => ?_)
       refine zd6 8 rfl rfl ?_
       exact za0 (b:=(zb0,hd16)) (b8,hd16) 31 (by rfl) (by rfl) rfl (zoU (zeu (zeu (zak (fun hD=>absurd hD hn) (zak (fun _=>rfl) rfl))))) (zlf (zaf ((zaB (by rfl)).trans (zao (fun hD=>hn (hcl 32 _ rfl hD 31 dc)) zas)) (zdU (zaf (zba (Or.inr rfl) rfl) rfl))))
      ·
       intro D b hn hd hcl
       obtain ⟨b8,zb1⟩:=b
       refine zaO (zlf (zaf (zao hn zas) (zdU (zaf (zba (hd 31 dc) rfl) rfl)))) ?_
       refine zbH (k:=5) (k2:=8) (ys:=[(⟨zcu line1 r7 (line1.size:Int),r7,(p20.length:Int) - 1,(p15.length:Int) - q1.From,span1+r7,span2⟩:Gapi_Verse)]) Tryd.underlying27 zrT zdK zgG rfl dc (zab (m:=5) rfl rfl (hd 5 dc)) (zab (m:=31) rfl rfl (hd 31 dc)) rfl rfl rfl rfl hg10 (fun v3 => ?_)
       refine zcn (k:=5) rfl (fun hd16 he2 => ?_)
       subst he2
       exact za0 (b:=(b8,zb1)) (b8,hd16) 32 (by rfl) (by rfl) rfl (zhp (zeu (zeu (zak (fun hD=>absurd hD hn) rfl)))) (zlf (zaf (zba (Or.inr rfl) rfl) (zdU (zaf ((zaB (by rfl)).trans (zba (hd 31 dc) rfl)) rfl))))
      intro D b hall
      obtain ⟨b8,hd16⟩:=b
      refine zaO (zlf (zaf (zba (hall 32 dc) rfl) (zdU (zaf (zba (hall 31 dc) rfl) rfl)))) (zat rfl dc rfl (zac zcY rfl dc rfl (show _=0 from rfl) (zac ze5 rfl dc rfl (show _=1 from rfl) ?_)))
      refine zbu (k:=4) (l':=[.string p14,hd16.v,hd14.v,.string text1]) zq1 rfl rfl rfl rfl rfl (fun _ _=>rfl) rfl ?_
      refine zyN (zaG (zyR 2 rfl ?_))
      obtain ⟨hg11,h⟩:=zbM h
      refine zaQ rfl (zaW (r:=(p15.length:Int)+1) (IntWalk.i64_in _ hg11)) (zat rfl dc rfl (zac zez rfl dc rfl (show _=(((p20.length:Int) - 1:Int).toNat)*2+1 from rfl) ?_))
      refine zdw (i:=((p20.length:Int) - 1:Int).toNat) (j:=1) (k:=6) (q:=q1) (q':=(⟨q1.From,(p15.length:Int)+1⟩:Gapi_Span)) zhs zd0 rfl rfl rfl rfl (zaV hq8) rfl dc rfl (fun _ _=>rfl) ?_
      refine zaK (zal ?_)
      exact zai (p14,p15++[(⟨zcu line1 r7 (line1.size:Int),r7,(p20.length:Int) - 1,(p15.length:Int) - q1.From,span1+r7,span2⟩:Gapi_Verse)],p20.set ((p20.length:Int) - 1:Int).toNat (⟨q1.From,(p15.length:Int)+1⟩:Gapi_Span),false,true,hd16,hd14) h rfl (za1 rfl) (zae [0,1,2,3,4,5,6] kr rfl)
     rintro ⟨p17,p18,p19,first4,row4,hd12,hd13⟩ h
     rw [hj2] at h
     refine zaG ?_
     obtain ⟨hg12,h⟩:=zbM h
     refine zaQ rfl (zaW (r:=x3+1) (IntWalk.i64_in _ hg12)) (zyR 1 rfl (zaK ?_))
     subst hag1
     exact za8 (n1,p17,p18,p19,first4,row4,x3+1,hd12,hd13) h (Nat.lt_succ_self _) rfl (za1 rfl) (zae [0,1,2,3,4,5,6] kr rfl)
    refine zbc (zap (zap (zaw ?_)))
    exact zai (p14,p15,p16,b3,hd10,hd11) h rfl (za1 rfl) (zae [0,4,5,6] kr rfl)
  rintro ⟨p1,p2,p3,b2,hd1,hd2⟩ h
  rw [hj1] at h
  refine zyG (zyR 1 rfl ?_)
  refine zbJ (v:=.agg #[zI 0,zI 0]) (ps:=[]) rfl dc rfl (fun _=>by kernel_rfl) ?_
  refine zyR 1 rfl (za6 (k:=0) (vs:=[zI 0,zI 0]) (l':=[zI 0,zI 0]) zlL rfl rfl rfl rfl rfl (show _≤_ by simp) rfl rfl (zyN (zax (zbG (by simp) ?_))))
  refine znw (As:=[cells b2 [.string p1,hd1.v,hd2.v,.string text1] 81,zv5 hd1.v p2,zv6 hd2.v p3]) (zae [1,2,3] kr rfl) (zja (enc:=zaJ) (nest:=zaI) (t:=81) (x:=(⟨p1,p2,p3,text1⟩:Gpoem_Poem)) (b:=b2) (hd:=(hd1,hd2))) (fun _ _ => ?_)
  cases h
  exact zaC (rs:=[.tmp 2,.cell 3 59]) (zP b2) (.inl rfl) Tryd.results18 (.cons (.tmp rfl) (.cons (.cells zmE (k:=0) rfl rfl rfl) .nil)) rfl (zae [4] kr rfl)
 exact fun b hb=>hb.elim
end Go.Proofs.YtbempdelckaccaaDoor

namespace Go.Proofs.YtbempdelckaccaaDoor
open Go.RowKit Go.Lib
set_option linter.unusedVariables false
set_option linter.unusedSimpArgs false
def zdk (s1:ByteArray) (j1:ByteArray→(List (List ByteArray))→(List Gapi_Verse)→Option (Gref17_Poem×(List Gapi_Verse)×Gapi_Spot)) (r1:(List Gapi_Span)) (ag1:ByteArray→(List (List ByteArray))→(List Gapi_Verse)→Bool→Bool→Int→Option (Gref17_Poem×(List Gapi_Verse)×Gapi_Spot)) (p10:ByteArray) (p11:List (List ByteArray)) (l4:List Gapi_Verse) (first3:Bool) (row3:Bool) (i3:Int):Option (Gref17_Poem×(List Gapi_Verse)×Gapi_Spot) :=
zam (decide ((i3:Int)<(r1.length:Int))) (
zbk (fun (j2:ByteArray→(List (List ByteArray))→(List Gapi_Verse)→Bool→Bool→Option (Gref17_Poem×(List Gapi_Verse)×Gapi_Spot)) =>
zan (zcI r1 i3) fun (q1:Gapi_Span) =>
grd (0≤(q1.From:Int)∧(q1.From:Int)≤q1.To∧(q1.To:Int)≤(s1.size:Int)) <|
zan (zek (zcu s1 q1.From q1.To)) fun (r2:Bool) =>
zam (r2) (
j2 p10 p11 l4 first3 false
) (
zam (decide ((1024:Int)<((zcu s1 q1.From q1.To).size:Int))) (
grd (I64 (q1.From+1024)) <|
some ((⟨ByteArray.empty,([]:List (List ByteArray))⟩:Gref17_Poem),([]:List Gapi_Verse),(⟨3,q1.From+1024⟩:Gapi_Spot))
) (
zbk (fun (j3:Option (Gref17_Poem×(List Gapi_Verse)×Gapi_Spot)) =>
zam (first3) (
zan (zeM (zcu s1 q1.From q1.To)) fun (r3:Bool) =>
zam (r3) (
zbk (fun (j4:ByteArray→Option (Gref17_Poem×(List Gapi_Verse)×Gapi_Spot)) =>
zam (decide ((2:Int)<((zcu s1 q1.From q1.To).size:Int))) (
grd (0≤(2:Int)∧(2:Int)≤((zcu s1 q1.From q1.To).size:Int)∧(((zcu s1 q1.From q1.To).size:Int):Int)≤((zcu s1 q1.From q1.To).size:Int)) <|
j4 (zcu (zcu s1 q1.From q1.To) 2 ((zcu s1 q1.From q1.To).size:Int))
) (
j4 p10
)
) (fun (p14:ByteArray) =>
j2 p14 p11 l4 false row3
)
) (
j3
)
) (
j3
)
) (
zam (((l4.length:Int):Int)==512) (
some ((⟨ByteArray.empty,([]:List (List ByteArray))⟩:Gref17_Poem),([]:List Gapi_Verse),(⟨3,q1.From⟩:Gapi_Spot))
) (
zbk (fun (j5:(List (List ByteArray))→Option (Gref17_Poem×(List Gapi_Verse)×Gapi_Spot)) =>
zam (!row3) (
grd (p11.length+1≤2147483648) <|
j5 (p11++[([]:List ByteArray)])
) (
j5 p11
)
) (fun (p15:List (List ByteArray)) =>
grd (I64 ((p15.length:Int) - 1)) <|
zan (zbS (zcu s1 q1.From q1.To)) fun (r4:Int) =>
grd (0≤(r4:Int)∧(r4:Int)≤((zcu s1 q1.From q1.To).size:Int)∧(((zcu s1 q1.From q1.To).size:Int):Int)≤((zcu s1 q1.From q1.To).size:Int)) <|
zan (zbS (zcu s1 q1.From q1.To)) fun (r5:Int) =>
zan (zcI p15 ((p15.length:Int) - 1)) fun (x1:List ByteArray) =>
zan (zbS (zcu s1 q1.From q1.To)) fun (r6:Int) =>
grd (I64 (q1.From+r6)) <|
grd (l4.length+1≤2147483648) <|
zan (zcI p15 ((p15.length:Int) - 1)) fun (x2:List ByteArray) =>
grd (x2.length+1≤2147483648) <|
j2 p10 (p15.set ((p15.length:Int) - 1:Int).toNat (x2++[zcu s1 q1.From q1.To])) (l4++[(⟨zcu (zcu s1 q1.From q1.To) r4 ((zcu s1 q1.From q1.To).size:Int),r5,(p15.length:Int) - 1,(x1.length:Int),q1.From+r6,q1.To⟩:Gapi_Verse)]) false true
)
)
)
)
)
) (fun (p12:ByteArray) (p13:List (List ByteArray)) (l5:List Gapi_Verse) (first4:Bool) (row4:Bool) =>
grd (I64 (i3+1)) <|
ag1 p12 p13 l5 first4 row4 (i3+1)
)
) (
j1 p10 p11 l4
)
def zfp (s1:ByteArray):Option (Gref17_Poem×(List Gapi_Verse)×Gapi_Spot) :=
zam (decide ((65536:Int)<(s1.size:Int))) (
some ((⟨ByteArray.empty,([]:List (List ByteArray))⟩:Gref17_Poem),([]:List Gapi_Verse),(⟨3,65536⟩:Gapi_Spot))
) (
zbk (fun (j1:ByteArray→(List (List ByteArray))→(List Gapi_Verse)→Option (Gref17_Poem×(List Gapi_Verse)×Gapi_Spot)) =>
zan (ze3 s1) fun (r1:(List Gapi_Span)) =>
zaT (fun _ _ _ _ _ _=>none) (zdk s1 j1 r1) zb8 ByteArray.empty ([]:List (List ByteArray)) ([]:List Gapi_Verse) true false 0
) (fun (p1:ByteArray) (p2:List (List ByteArray)) (l1:List Gapi_Verse) =>
some ((⟨p1,p2⟩:Gref17_Poem),l1,(⟨0,0⟩:Gapi_Spot))
)
)
end Go.Proofs.YtbempdelckaccaaDoor

namespace Go.Proofs.YtbempdelckaccaaDoor
open Go.RowKit Go.Lib
set_option linter.unusedVariables false
set_option linter.unusedSimpArgs false
def mkB (l:List UInt8):ByteArray:=⟨l.toArray⟩
theorem zem (l:List UInt8):(mkB l).data.toList=l:=rfl
theorem zaY (l:List UInt8):(mkB l).size=l.length:=by rw [← zi4,zem]
theorem zf4 {a b:List UInt8} (h:mkB a=mkB b):a=b:=by
 have:=congrArg (fun s:ByteArray=>s.data.toList) h
 exact this
theorem zp5 (s:ByteArray):∃ l,s=mkB l:=⟨s.data.toList,rfl⟩
theorem zjJ (l:List UInt8) (i j:Nat):zcu (mkB l) (i:Int) (j:Int)=mkB ((l.drop i).take (j - i)):=by
 unfold zcu
 have h:∀ a b:ByteArray,a.data.toList=b.data.toList→a=b:=fun a b h=>by
  have:mkB a.data.toList=mkB b.data.toList:=by rw [h]
  exact this
 apply h
 rw [zem]
 simp only [Int.toNat_natCast,ByteArray.data_extract,Array.toList_extract,List.extract,zem]
theorem zio (l:List UInt8) (i:Nat):zcu (mkB l) (i:Int) ((mkB l).size:Int)=mkB (l.drop i):=by
 rw [zjJ,zaY,List.take_of_length_le (by rw [List.length_drop]; omega)]
def isB (b:UInt8):Bool:=b==32||b==9
def zga (l:List UInt8):Bool:=l.all isB
theorem zfS {p:UInt8→Bool}:∀ {l:List UInt8} {c:UInt8} {t:List UInt8},l.dropWhile p=c::t→p c=false
 | [],c,t,h=>by cases h
 | b::l,c,t,h=>by
  rw [List.dropWhile_cons] at h
  split at h
  ·exact zfS h
  ·rename_i hb
   rw [← (List.cons.inj h).1]; simpa using hb
theorem zep {p:UInt8→Bool}:∀ (l:List UInt8),l.dropWhile p=[]↔l.all p=true
 | []=>by simp
 | b::l=>by
  rw [List.dropWhile_cons,List.all_cons]
  split
  ·rename_i h; rw [zep l,h,Bool.true_and]
  ·rename_i h; rw [Bool.not_eq_true] at h; rw [h]; simp
theorem ziN (l:List UInt8):Lib.trimS l [32,9]=[]↔zga l=true:=by
 have hc:(fun x=>([32,9]:List UInt8).contains x)=isB:=by
  funext x; unfold isB; simp only [List.contains_cons,List.contains_nil,Bool.or_false]
 unfold Lib.trimS Lib.trimLeftS Lib.trimRightS zga
 rw [hc]
 cases hd:l.reverse.dropWhile isB with
 | nil =>
  have:=(zep l.reverse).1 hd
  rw [List.all_reverse] at this
  rw [this]; simp
 | cons c t =>
  have h1:=zfS hd
  rw [zep,List.all_reverse,List.all_cons,h1]
  have h2:l.all isB=false:=by
   cases h:l.all isB with
   | false=>rfl
   | true =>
    rw [← List.all_reverse,← zep,hd] at h; cases h
  rw [h2]; simp
theorem znn (l:List UInt8) (h:l.length≤9223372036854775807):zdb (mkB l)=some (zga l):=by
 unfold zdb
 refine zce (by rw [zaY]; exact h) (congrArg some ?_)
 unfold zli
 rw [zem]
 have:(⟨(Lib.trimS l [32,9]).toArray⟩:ByteArray)=mkB (Lib.trimS l [32,9]):=rfl
 rw [this,show (⟨#[]⟩:ByteArray)=mkB [] from rfl]
 cases hb:zga l with
 | true=>exact decide_eq_true (by rw [(ziN l).2 hb])
 | false=>exact decide_eq_false (fun e=>by have:=(ziN l).1 (zf4 e); rw [hb] at this; cases this)
theorem znu {R:Type} {F:(Int→Option R)→Int→Option R} {bot:Int→Option R} (l:List UInt8) (g:UInt8→Option (Option R)) (J:Option R)
  (hs:∀ ag (i:Nat) b t,l.drop i=b::t→F ag (i:Int)=(g b).getD (ag ((i+1:Nat):Int))) (he:∀ ag,F ag (l.length:Int)=J) :
  ∀ (n i:Nat),i≤l.length→l.length - i<n→zaT bot F n (i:Int)=((l.drop i).findSome? g).getD J:=by
 intro n
 induction n with
 | zero=>intro i h1 h2; omega
 | succ n ih =>
  intro i hi hn
  rw [zbI]
  cases hd:l.drop i with
  | nil =>
   have:l.length≤i:=List.drop_eq_nil_iff.1 hd
   obtain rfl:i=l.length:=by omega
   rw [he]; rfl
  | cons b t =>
   have hlt:i<l.length:=by
    rcases Nat.lt_or_ge i l.length with h | h
    ·exact h
    ·rw [List.drop_eq_nil_of_le h] at hd; cases hd
   rw [hs _ i b t hd,List.findSome?_cons]
   cases hg:g b with
   | some x=>rfl
   | none =>
    show zaT bot F n _=_
    rw [ih (i+1) (by omega) (by omega),zea hd]
theorem zrY {l:List UInt8} (h:l.length≤1073741824):l.length - 0<zb8:=by unfold zb8; omega
theorem zlR (l:List UInt8) (h:l.length≤1073741824):zek (mkB l)=some (zga l):=by
 unfold zek
 refine zbC ?_
 refine (znu l (fun b=>if isB b then none else some (some false)) (some true) (fun ag i b t hd => ?_) (fun ag => ?_) zb8 0 (Nat.zero_le _) (zrY h)).trans ?_
 ·unfold zeN
  obtain ⟨hb,hlt⟩:=zdZ (s:=mkB l) hd
  refine zaA (decide_eq_true (by omega)) (zbC (za3 hb ?_))
  rw [zaY] at hlt
  have go:(grd (I64 ((i:Int)+1))<|ag ((i:Int)+1))=ag ((i+1:Nat):Int):=zce ⟨by omega,by omega⟩ (by rw [show (i:Int)+1=((i+1:Nat):Int) by omega])
  unfold isB
  by_cases h32:b=32
  ·refine zav (by unfold bne; rw [n32,decide_eq_true h32]; rfl) ?_
   rw [h32]; exact go
  ·refine zaA (by unfold bne; rw [n32,decide_eq_false h32]; rfl) ?_
   rw [beq_eq_false_iff_ne.2 h32,Bool.false_or]
   by_cases h9:b=9
   ·refine zav (by unfold bne; rw [n9,decide_eq_true h9]; rfl) ?_
    rw [h9]; exact go
   ·refine zaA (by unfold bne; rw [n9,decide_eq_false h9]; rfl) ?_
    rw [beq_eq_false_iff_ne.2 h9]; rfl
 ·unfold zeN
  exact zav (decide_eq_false (by rw [zaY]; omega)) rfl
 ·rw [List.drop_zero]
  unfold zga
  clear h
  induction l with
  | nil=>rfl
  | cons b l ih =>
   rw [List.findSome?_cons,List.all_cons]
   cases hb:isB b with
   | true=>simpa using ih
   | false=>rfl
def zjh:List UInt8→Bool
 | []=>false
 | [b]=>b==35
 | b::c::_=>b==35&&c==32
theorem zo2 (l p:List UInt8):za9 (mkB l) (mkB p)=some (decide (p.length≤l.length)&&decide (l.take p.length=p)):=by
 unfold za9
 rw [zaY,zaY]
 by_cases h:p.length≤l.length
 ·refine zaA (decide_eq_true (by omega)) (zce ⟨by omega,by omega,by omega⟩ (congrArg some ?_))
  have:=zjJ l 0 p.length
  rw [show ((0:Nat):Int)=0 from rfl] at this
  rw [this,List.drop_zero,Nat.sub_zero,decide_eq_true h,Bool.true_and]
  by_cases e:l.take p.length=p
  ·rw [decide_eq_true e,decide_eq_true (by rw [e])]
  ·rw [decide_eq_false e,decide_eq_false (fun x=>e (zf4 x))]
 ·refine zav (decide_eq_false (by omega)) ?_
  rw [decide_eq_false h]; rfl
theorem zll (l:List UInt8):zdl (mkB l)=some (zjh l):=by
 unfold zdl zbh
 rw [show (⟨#[35]⟩:ByteArray)=mkB [35] from rfl,show (⟨#[35,32]⟩:ByteArray)=mkB [35,32] from rfl]
 by_cases h:l=[35]
 ·subst h; exact zaA (decide_eq_true rfl) rfl
 ·refine zav (decide_eq_false (fun e=>h (zf4 e))) (za3 (za3 (zo2 _ _) rfl) (congrArg some ?_))
  match l with
  | []=>rfl
  | [b] =>
   have hb:b≠35:=fun e=>h (by rw [e])
   show _=(b==35)
   rw [beq_eq_false_iff_ne.2 hb]; rfl
  | b::c::t =>
   show _=(b==35&&c==32)
   rw [decide_eq_true (by simp),Bool.true_and]
   show decide ([b,c]=[35,32])=_
   by_cases hb:b=35 <;> by_cases hc:c=32 <;> simp [hb,hc]
theorem zkT (l:List UInt8):zeM (mkB l)=some (zjh l):=by
 unfold zeM
 rw [show (⟨#[35]⟩:ByteArray)=mkB [35] from rfl]
 by_cases h:l=[35]
 ·subst h; exact zaA (decide_eq_true rfl) rfl
 ·refine zav (decide_eq_false (fun e=>h (zf4 e))) ?_
  match l with
  | []=>exact zav (decide_eq_false (by rw [zaY]; simp)) rfl
  | [b] =>
   have hb:b≠35:=fun e=>h (by rw [e])
   refine zav (decide_eq_false (by rw [zaY]; simp)) ?_
   show _=some (b==35)
   rw [beq_eq_false_iff_ne.2 hb]
  | b::c::t =>
   have h0:=(zdZ (s:=mkB (b::c::t)) (i:=0) (b:=b) (t:=c::t) rfl).1
   have h1:=(zdZ (s:=mkB (b::c::t)) (i:=1) (b:=c) (t:=t) rfl).1
   refine zaA (decide_eq_true (by rw [zaY]; simp; omega)) (za3 h0 ?_)
   show _=some (b==35&&c==32)
   by_cases hb:b=35
   ·refine zaA (by rw [n35]; exact decide_eq_true hb) (za3 h1 (congrArg some ?_))
    rw [n32,beq_iff_eq.2 hb,Bool.true_and]
    by_cases hc:c=32
    ·rw [decide_eq_true hc,hc]; rfl
    ·rw [decide_eq_false hc,beq_eq_false_iff_ne.2 hc]
   ·refine zav (by rw [n35]; exact decide_eq_false hb) ?_
    rw [beq_eq_false_iff_ne.2 hb]; rfl
theorem zoZ (l:List UInt8) (h:zjh l=true):zcl (mkB (l.drop 1)) (mkB [32])=some (mkB (l.drop 2)):=by
 unfold zcl zby
 refine za3 (za3 (zo2 _ _) (?_:_=some (mkB (l.drop 2)))) rfl
 match l with
 | []=>cases h
 | [b]=>exact zav (by simp) rfl
 | b::c::t =>
  have hc:c=32:=by
   unfold zjh at h; rw [Bool.and_eq_true] at h; exact beq_iff_eq.1 h.2
  subst hc
  refine zaA (by simp) (zce ⟨by omega,by rw [zaY,zaY,List.drop_one,List.tail_cons,List.length_cons]; simp only [List.length_cons,List.length_nil]; omega,by omega⟩ (congrArg some ?_))
  exact zio (32::t) 1
def ind (l:List UInt8):Nat:=(l.takeWhile (· == 32)).length
theorem zhH (b:UInt8) (l:List UInt8):ind (b::l)=if b=32 then ind l+1 else 0:=by
 unfold ind
 rw [List.takeWhile_cons]
 by_cases h:b=32
 ·subst h; simp
 ·rw [if_neg h,beq_eq_false_iff_ne.2 h]; rfl
theorem zoH (l:List UInt8):ind l≤l.length:=by
 induction l with
 | nil=>exact Nat.le_refl _
 | cons b l ih=>rw [zhH,List.length_cons]; split <;> omega
theorem zfW (l:List UInt8) (h:l.length≤1073741824):zbS (mkB l)=some (ind l:Int):=by
 unfold zbS
 refine zbC ?_
 have key:∀ (n i:Nat),i≤l.length→l.length - i<n→zaT (fun _=>none) (zdF (mkB l) (fun (n1:Int)=>some n1)) n (i:Int)=some ((i+ind (l.drop i):Nat):Int):=by
  intro n
  induction n with
  | zero=>intro i h1 h2; omega
  | succ n ih =>
   intro i hi hn
   rw [zbI]
   obtain ⟨ag,hag⟩:∃ ag,ag=zaT (fun _=>none) (zdF (mkB l) (fun (n1:Int)=>some n1)) n:=⟨_,rfl⟩
   rw [← hag] at ih ⊢
   unfold zdF
   cases hd:l.drop i with
   | nil =>
    have:l.length≤i:=List.drop_eq_nil_iff.1 hd
    exact zav (decide_eq_false (by rw [zaY]; omega)) rfl
   | cons b t =>
    obtain ⟨hb,hlt⟩:=zdZ (s:=mkB l) hd
    rw [zaY] at hlt
    refine zaA (decide_eq_true (by rw [zaY]; omega)) (za3 hb ?_)
    rw [zhH]
    by_cases h32:b=32
    ·refine zaA (by rw [n32]; exact decide_eq_true h32) (zce ⟨by omega,by omega⟩ ?_)
     have:=ih (i+1) (by omega) (by omega)
     rw [zea hd] at this
     rw [if_pos h32,show (i:Int)+1=((i+1:Nat):Int) by omega,this]
     congr 1; omega
    ·refine zav (by rw [n32]; exact decide_eq_false h32) ?_
     rw [if_neg h32]; rfl
 have:=key zb8 0 (Nat.zero_le _) (by unfold zb8; omega)
 rw [List.drop_zero,Nat.zero_add] at this
 exact this
theorem zn1 (l:List UInt8) (h:l.length≤1073741824):zcU (mkB l)=some (ind l:Int):=by
 unfold zcU
 refine zbC ?_
 have key:∀ (n i:Nat),i≤l.length→l.length - i<n→(pcs l).drop i=zcB i (l.drop i)→zaT (fun _ _=>none) (zcq (mkB l) (fun (n1:Int)=>some n1)) n (i:Int) i=some ((i+ind (l.drop i):Nat):Int):=by
  intro n
  induction n with
  | zero=>intro i h1 h2; omega
  | succ n ih =>
   intro i hi hn hp
   rw [zbI]
   obtain ⟨ag,hag⟩:∃ ag,ag=zaT (fun _ _=>none) (zcq (mkB l) (fun (n1:Int)=>some n1)) n:=⟨_,rfl⟩
   rw [← hag] at ih ⊢
   unfold zcq
   rw [zem]
   cases hd:l.drop i with
   | nil =>
    rw [hd,zca] at hp
    have:=List.drop_eq_nil_iff.1 hp
    exact zav (decide_eq_false (by omega)) rfl
   | cons b t =>
    obtain ⟨hb,hlt⟩:=zdZ (s:=mkB l) hd
    rw [zaY] at hlt
    rw [hd,zct i (b::t) (by simp)] at hp
    have hlm:i<(pcs l).length:=by
     rcases Nat.lt_or_ge i (pcs l).length with h | h
     ·exact h
     ·rw [List.drop_eq_nil_of_le h] at hp; cases hp
    have hq:(pcs l)[i]?=some ⟨i,(decodeL (b::t)).2,(decodeL (b::t)).1⟩:=by
     have hp2:=hp
     rw [List.drop_eq_getElem_cons hlm] at hp2
     rw [List.getElem?_eq_getElem hlm,(List.cons.inj hp2).1]
    refine zaA (decide_eq_true hlm) (za3 hq ?_)
    rw [zhH]
    by_cases h32:b=32
    ·subst h32
     have hdec:=decodeL_ascii 32 t (by decide)
     rw [hdec] at hp ⊢
     refine zav rfl (zce ⟨by omega,by omega⟩ ?_)
     have:=ih (i+1) (by omega) (by omega) (by
      rw [← List.drop_drop,hp,zea hd]; rfl)
     rw [zea hd] at this
     rw [if_pos rfl,show (i:Int)+1=((i+1:Nat):Int) by omega]
     refine this.trans ?_
     congr 2; omega
    ·refine zaA ?_ (by rw [if_neg h32]; rfl)
     show (((decodeL (b::t)).1:Int) != 32)=true
     refine bne_iff_ne.2 (fun e => ?_)
     by_cases hbig:128≤b.toNat
     ·have:=(zkB (t:=t) hbig).1; omega
     ·rw [decodeL_ascii b t (by omega)] at e
      exact h32 (UInt8.toNat.inj (by show b.toNat=32; have:((b.toNat:Nat):Int)=32:=e; omega))
 have:=key zb8 0 (Nat.zero_le _) (by unfold zb8; omega) (by rw [List.drop_zero,List.drop_zero]; rfl)
 rw [List.drop_zero,Nat.zero_add] at this
 exact this
end Go.Proofs.YtbempdelckaccaaDoor

namespace Go.Proofs.YtbempdelckaccaaDoor
open Go.RowKit Go.Lib
set_option linter.unusedVariables false
set_option linter.unusedSimpArgs false
theorem zjW (T:List UInt8):∀ (l:List UInt8) (p:Bool) (f a:Nat),T.drop a=l→f≤a→(p=true→l.head?=some 10→f+1≤a) →
  (∀ b∈(T.drop f).take ((if p=true∧l.head?=some 10 then a - 1 else a) - f),isE b=false)→a≤T.length →
  ∀ x∈spP p f a l,x.1≤x.2∧x.2≤T.length∧∀ b∈(T.drop x.1).take (x.2 - x.1),isE b=false
 | [],p,f,a,hd,hf,hp,hb,ha=>by
  intro x hx
  rw [spP,List.mem_singleton] at hx
  subst hx
  have:T.length≤a:=List.drop_eq_nil_iff.1 hd
  refine ⟨hf,ha,?_⟩
  rw [if_neg (by simp)] at hb
  exact hb
 | b::t,p,f,a,hd,hf,hp,hb,ha=>by
  intro x hx
  have hlt:a<T.length:=by
   rcases Nat.lt_or_ge a T.length with h | h
   ·exact h
   ·rw [List.drop_eq_nil_of_le h] at hd; cases hd
  have hd1:=zea hd
  have hsnoc:∀ f',f'≤a→(T.drop f').take (a+1 - f')=(T.drop f').take (a - f')++[b]:=fun f' hf'=>by
   rw [show a+1 - f'=(a - f')+1 by omega,List.take_add_one,List.getElem?_drop,show f'+(a - f')=a by omega]
   have:T[a]?=some b:=by
    have h0:(T.drop a)[0]?=some b:=by rw [hd]; rfl
    rw [List.getElem?_drop] at h0; exact h0
   rw [this]; rfl
  rw [spP] at hx
  by_cases h13:b=13
  ·rw [if_pos h13] at hx
   have hne:¬ (p=true∧(b::t).head?=some 10):=by rw [h13]; simp
   rw [if_neg hne] at hb
   by_cases ht:t.head?=some 10
   ·rw [if_pos ht] at hx
    refine zjW T t true f (a+1) hd1 (by omega) (fun _ _=>by omega) ?_ (by omega) x hx
    rw [if_pos ⟨rfl,ht⟩]; exact hb
   ·rw [if_neg ht] at hx
    rcases List.mem_cons.1 hx with rfl | hx
    ·exact ⟨hf,ha,hb⟩
    ·refine zjW T t true (a+1) (a+1) hd1 (Nat.le_refl _) (fun _ h=>absurd h ht) ?_ (by omega) x hx
     rw [if_neg (fun h=>ht h.2),Nat.sub_self,List.take_zero]
     intro y hy; cases hy
  ·rw [if_neg h13] at hx
   by_cases h10:b=10
   ·rw [if_pos h10] at hx
    rcases List.mem_cons.1 hx with rfl | hx
    ·cases p with
     | true =>
      have:=hp rfl (by rw [h10]; rfl)
      rw [if_pos ⟨rfl,by rw [h10]; rfl⟩] at hb
      exact ⟨by show f≤a - 1; omega,by show a - 1≤_; omega,hb⟩
     | false =>
      rw [if_neg (by simp)] at hb
      exact ⟨hf,ha,hb⟩
    ·refine zjW T t false (a+1) (a+1) hd1 (Nat.le_refl _) (fun h=>by cases h) ?_ (by omega) x hx
     rw [if_neg (by simp),Nat.sub_self,List.take_zero]
     intro y hy; cases hy
   ·rw [if_neg h10] at hx
    refine zjW T t false f (a+1) hd1 (by omega) (fun h=>by cases h) ?_ (by omega) x hx
    rw [if_neg (by simp),hsnoc f hf]
    have hne:¬ (p=true∧(b::t).head?=some 10):=fun h=>h10 (Option.some.inj h.2)
    rw [if_neg hne] at hb
    intro y hy
    rcases List.mem_append.1 hy with hy | hy
    ·exact hb y hy
    ·rw [List.mem_singleton] at hy
     subst hy
     unfold isE
     rw [beq_eq_false_iff_ne.2 h13,beq_eq_false_iff_ne.2 h10]; rfl
theorem zjj (T:List UInt8):∀ x∈zb6 T,x.1≤x.2∧x.2≤T.length∧∀ b∈(T.drop x.1).take (x.2 - x.1),isE b=false :=
 zjW T T false 0 0 (List.drop_zero) (Nat.le_refl _) (fun h=>by cases h) (by intro b hb; simp at hb) (Nat.zero_le _)
theorem zfk:∀ (l:List UInt8) (p:Bool) (f a:Nat),(spP p f a l).length≤l.length+1
 | [],p,f,a=>Nat.le_refl _
 | b::t,p,f,a=>by
  rw [spP,List.length_cons]
  split
  ·split
   ·have:=zfk t true f (a+1); omega
   ·rw [List.length_cons]; have:=zfk t true (a+1) (a+1); omega
  ·split
   ·rw [List.length_cons]; have:=zfk t false (a+1) (a+1); omega
   ·have:=zfk t false f (a+1); omega
def zeU (T:List UInt8):List (Nat×List UInt8):=(zb6 T).map fun x=>(x.1,(T.drop x.1).take (x.2 - x.1))
structure RS where
 t:List UInt8
 stz:List (List (List UInt8))
 vs:List Gapi_Verse
 first:Bool
 row:Bool
def ze4 (z:List (List (List UInt8))):List (List UInt8):=z.getLastD []
def zb4 (st:RS):List (List (List UInt8)):=if st.row then st.stz else st.stz++[[]]
def zfi (f:Nat) (x:List UInt8) (z:List (List (List UInt8))):Gapi_Verse:=⟨mkB (x.drop (ind x)),ind x,(z.length:Int) - 1,(ze4 z).length,(f:Int)+ind x,((f+x.length:Nat):Int)⟩
def zis (st:RS) (f:Nat) (x:List UInt8):RS :=
 ⟨st.t,(zb4 st).dropLast++[ze4 (zb4 st)++[x]],st.vs++[zfi f x (zb4 st)],false,true⟩
def zdz (st:RS) (x:Nat×List UInt8):Except Gapi_Spot RS :=
 if zga x.2=true then .ok { st with row:=false }
 else if 1024<x.2.length then .error ⟨3,(x.1:Int)+1024⟩
 else if st.first=true∧zjh x.2=true then .ok { st with first:=false,t:=x.2.drop 2 }
 else if st.vs.length=512 then .error ⟨3,x.1⟩
 else .ok (zis st x.1 x.2)
def zcM:RS→List (Nat×List UInt8)→Except Gapi_Spot RS
 | st,[]=>.ok st
 | st,x::xs=>match zdz st x with
  | .ok st'=>zcM st' xs
  | .error e=>.error e
def rs0:RS:=⟨[],[],[],true,false⟩
def rd (T:List UInt8):Except Gapi_Spot RS:=if 65536<T.length then .error ⟨3,65536⟩ else zcM rs0 (zeU T)
def tot (z:List (List (List UInt8))):Nat:=(z.map List.length).sum
def zha:Nat→List (List (List UInt8))→List Gapi_Span
 | _,[]=>[]
 | n,r::rs=>⟨n,((n+r.length:Nat):Int)⟩::zha (n+r.length) rs
theorem zhD:∀ (a b:List (List (List UInt8))) (n:Nat),zha n (a++b)=zha n a++zha (n+tot a) b
 | [],b,n=>rfl
 | r::a,b,n=>by
  show _::zha (n+r.length) (a++b)=_
  rw [zhD a b]
  have:n+tot (r::a)=n+r.length+tot a:=by unfold tot; rw [List.map_cons,List.sum_cons]; omega
  rw [this]; rfl
theorem zfA:∀ (a:List (List (List UInt8))) (n:Nat),(zha n a).length=a.length
 | [],n=>rfl
 | r::a,n=>by rw [zha,List.length_cons,List.length_cons,zfA a]
theorem zhR (a b:List (List (List UInt8))):tot (a++b)=tot a+tot b:=by unfold tot; rw [List.map_append,List.sum_append]
theorem zhQ (r:List (List UInt8)):tot [r]=r.length:=by unfold tot; simp
theorem zkl {z:List (List (List UInt8))} (h:z≠[]):z=z.dropLast++[ze4 z]:=by
 unfold ze4
 rw [List.getLastD_eq_getLast?,List.getLast?_eq_some_getLast h]
 exact (List.dropLast_concat_getLast h).symm
structure RInv (st:RS):Prop where
 tot:st.vs.length=tot st.stz
 row:st.row=true→st.stz≠[]
 most:st.vs.length≤512
 ne:∀ r∈st.stz,r≠[]
 t0:st.first=true→st.t=[]
theorem zms:∀ (z:List (List (List UInt8))),(∀ r∈z,r≠[])→z.length≤tot z
 | [],h=>Nat.le_refl _
 | r::z,h=>by
  have h1:=zms z fun y hy=>h y (by simp [hy])
  have h2:0<r.length:=List.length_pos_iff.2 (h r (by simp))
  have:tot (r::z)=r.length+tot z:=by unfold tot; rw [List.map_cons,List.sum_cons]
  rw [this,List.length_cons]; omega
theorem RInv.stzLen {st:RS} (h:RInv st):st.stz.length≤512:=Nat.le_trans (zms _ h.ne) (h.tot ▸ h.most)
theorem zlo {st:RS} (h:RInv st):zb4 st≠[]:=by
 unfold zb4
 split
 ·rename_i hr; exact h.row hr
 ·simp
theorem zkg {st:RS} {n:Nat} (h:st.stz.length≤n):(zb4 st).length≤n+1:=by
 unfold zb4
 split
 ·omega
 ·rw [List.length_append,List.length_singleton]; omega
theorem zh6 (st:RS):tot (zb4 st)=tot st.stz:=by
 unfold zb4
 split
 ·rfl
 ·rw [zhR,zhQ]; rfl
theorem RInv.step {st st':RS} {x:Nat×List UInt8} (h:RInv st) (hs:zdz st x=.ok st'):RInv st':=by
 unfold zdz at hs
 split at hs
 ·cases hs; exact ⟨h.tot,(fun e=>by cases e),h.most,h.ne,h.t0⟩
 ·split at hs
  ·cases hs
  ·split at hs
   ·cases hs; exact ⟨h.tot,h.row,h.most,h.ne,(fun e=>by cases e)⟩
   ·split at hs
    ·cases hs
    ·rename_i h512
     cases hs
     have e:=zkl (zlo h)
     refine ⟨?_,(fun _=>by simp [zis]),?_,?_,(fun e=>by cases e)⟩
     ·show (st.vs++[_]).length=Go.Proofs.YtbempdelckaccaaDoor.tot ((zb4 st).dropLast++[ze4 (zb4 st)++[x.2]])
      have h2:=zh6 st
      rw [e,zhR,zhQ] at h2
      rw [zhR,zhQ,List.length_append,List.length_append,List.length_singleton,List.length_singleton,h.tot,← h2]
      omega
     ·show (st.vs++[_]).length≤512
      rw [List.length_append,List.length_singleton]
      have:=h.most; omega
     ·intro r hr
      rcases List.mem_append.1 hr with hr | hr
      ·have hm:r∈zb4 st:=(List.dropLast_sublist _).mem hr
       unfold zb4 at hm hr
       split at hm
       ·exact h.ne r hm
       ·rename_i hrow
        rw [if_neg hrow,List.dropLast_concat] at hr
        exact h.ne r hr
      ·rw [List.mem_singleton] at hr
       subst hr; simp
theorem zkQ:RInv rs0:=⟨rfl,(fun e=>by cases e),Nat.zero_le _,(fun r hr=>by cases hr),(fun _=>rfl)⟩
theorem RInv.fold:∀ {xs:List (Nat×List UInt8)} {st st':RS},RInv st→zcM st xs=.ok st'→RInv st'
 | [],st,st',h,hs=>by cases hs; exact h
 | x::xs,st,st',h,hs=>by
  unfold zcM at hs
  cases he:zdz st x with
  | ok s1=>rw [he] at hs; exact RInv.fold (h.step he) hs
  | error e=>rw [he] at hs; cases hs
theorem zj0 {α:Type} (a:List α) (x y:α):(a++[x]).set a.length y=a++[y]:=by simp
def mkZ (z:List (List (List UInt8))):List (List ByteArray):=z.map (·.map mkB)
section
variable {T:List UInt8} {st:RS} {sp:Nat×Nat} {k:Nat}
theorem zjs {st:RS} (h:RInv st):∃ init r,zb4 st=init++[r]∧ze4 (zb4 st)=r∧(zb4 st).dropLast=init∧tot init+r.length=st.vs.length∧zha 0 (zb4 st)=zha 0 init++[⟨(tot init:Int),(st.vs.length:Int)⟩]:=by
 have e:=zkl (zlo h)
 refine ⟨_,_,e,rfl,rfl,?_,?_⟩
 ·have h2:=zh6 st
  rw [e,zhR,zhQ] at h2
  rw [h.tot]; exact h2
 ·have h2:=zh6 st
  rw [e,zhR,zhQ] at h2
  conv=>lhs; rw [e]
  rw [zhD,Nat.zero_add]
  show _++[(⟨(tot (zb4 st).dropLast:Int),((tot (zb4 st).dropLast+(ze4 (zb4 st)).length:Nat):Int)⟩:Gapi_Span)]=_
  rw [h2,h.tot]
theorem zmG {J:ByteArray→(List Gapi_Verse)→(List Gapi_Span)→Option ((Option Gpoem_Poem)×Gapi_Spot)} {m:Gplace_Map} {n:Int} {ag:ByteArray→(List Gapi_Verse)→(List Gapi_Span)→Bool→Bool→Int→Option ((Option Gpoem_Poem)×Gapi_Spot)}
  (hT:T.length≤65536) (hI:RInv st) (hk:(zb6 T)[k]?=some sp) (hm:m.lines.map spE=(zb6 T).map mkS) (hn:(k:Int)<n) :
  zcr (mkB T) J m n ag (mkB st.t) st.vs (zha 0 st.stz) st.first st.row (k:Int) =
   match zdz st (sp.1,(T.drop sp.1).take (sp.2 - sp.1)) with
   | .error e=>some (none,e)
   | .ok st'=>ag (mkB st'.t) st'.vs (zha 0 st'.stz) st'.first st'.row ((k+1:Nat):Int):=by
 obtain ⟨h1,h2,_⟩:=zjj T sp (List.mem_of_getElem? hk)
 have hkl:=(List.getElem?_eq_some_iff.1 hk).1
 have hkb:=zfk T false 0 0
 have hkb2:(zb6 T).length≤T.length+1:=hkb
 obtain ⟨q,hq,hqs⟩:∃ q,m.lines[k]?=some q∧spE q=mkS sp:=by
  have h3:(m.lines.map spE)[k]?=some (mkS sp):=by rw [hm,List.getElem?_map,hk]; rfl
  rw [List.getElem?_map] at h3
  obtain ⟨q,a,b⟩:=Option.map_eq_some_iff.1 h3
  exact ⟨q,a,b⟩
 have hlen:m.lines.length=(zb6 T).length:=by have:=congrArg List.length hm; simpa using this
 have hq1:q.span_From=(sp.1:Int):=congrArg Gapi_Span.From hqs
 have hq2:q.span_To=(sp.2:Int):=congrArg Gapi_Span.To hqs
 have hspan:zcZ m (k:Int)=some ((⟨(sp.1:Int),(sp.2:Int)⟩:Gapi_Span),q.end_,0):=by
  unfold zcZ
  refine zav (decide_eq_false (by omega)) (zav (decide_eq_false (by omega)) (za3 (zbm hq) ?_))
  rw [hq1,hq2]
 have hcut:zcu (mkB T) (sp.1:Int) (sp.2:Int)=mkB ((T.drop sp.1).take (sp.2 - sp.1)):=zjJ T sp.1 sp.2
 generalize hx:(T.drop sp.1).take (sp.2 - sp.1)=x at hcut ⊢
 have hxl:x.length=sp.2 - sp.1:=by rw [← hx,List.length_take,List.length_drop]; omega
 unfold zcr
 refine zaA (decide_eq_true hn) (zbC (zbC (za3 hspan (zce ⟨by show (0:Int)≤(sp.1:Int); omega,by show (sp.1:Int)≤sp.2; omega,by show (sp.2:Int)≤_; rw [zaY]; omega⟩ ?_))))
 show zan (zdb (zcu (mkB T) (sp.1:Int) (sp.2:Int))) _=_
 rw [hcut]
 refine za3 (znn x (by omega)) ?_
 unfold zdz
 have goOn:∀ (a:ByteArray) (b:List Gapi_Verse) (c:List Gapi_Span) (d e:Bool),(grd (I64 ((k:Int)+1))<|ag a b c d e ((k:Int)+1))=ag a b c d e ((k+1:Nat):Int):=fun a b c d e=>zce ⟨by omega,by omega⟩ (by rw [show (k:Int)+1=((k+1:Nat):Int) by omega])
 cases hb:zga x with
 | true =>
  rw [if_pos rfl]
  exact zaA rfl (goOn _ _ _ _ _)
 | false =>
  rw [if_neg (by decide)]
  refine zav rfl ?_
  by_cases hbig:1024<x.length
  ·rw [if_pos hbig]
   exact zaA (decide_eq_true (by rw [zaY]; omega)) (zce ⟨by show _≤(sp.1:Int)+1024; omega,by show (sp.1:Int)+1024≤_; omega⟩ rfl)
  ·rw [if_neg hbig]
   refine zav (decide_eq_false (by rw [zaY]; omega)) ?_
   have h512:=hI.most
   have verse:¬ (st.first=true∧zjh x=true)→(zam (((st.vs.length:Int):Int)==512) (some (none,(⟨3,(sp.1:Int)⟩:Gapi_Spot))) (zbk (fun (j4:(List Gapi_Span)→Option ((Option Gpoem_Poem)×Gapi_Spot)) =>
     zam (!st.row) (grd ((zha 0 st.stz).length+1≤2147483648)<|j4 (zha 0 st.stz++[(⟨(st.vs.length:Int),(st.vs.length:Int)⟩:Gapi_Span)])) (j4 (zha 0 st.stz))) (fun (p20:List Gapi_Span) =>
      grd (I64 ((p20.length:Int) - 1)) <|
      zan (zcI p20 ((p20.length:Int) - 1)) fun (q1:Gapi_Span) =>
      zan (zcU (mkB x)) fun (r7:Int) =>
      grd (0≤(r7:Int)∧(r7:Int)≤((mkB x).size:Int)∧(((mkB x).size:Int):Int)≤((mkB x).size:Int)) <|
      grd (I64 ((p20.length:Int) - 1)) <|
      grd (I64 ((st.vs.length:Int) - q1.From)) <|
      grd (I64 ((sp.1:Int)+r7)) <|
      grd (st.vs.length+1≤2147483648) <|
      grd (I64 ((st.vs.length:Int)+1)) <|
      (grd (I64 ((k:Int)+1))<|ag (mkB st.t) (st.vs++[(⟨zcu (mkB x) r7 ((mkB x).size:Int),r7,(p20.length:Int) - 1,(st.vs.length:Int) - q1.From,(sp.1:Int)+r7,(sp.2:Int)⟩:Gapi_Verse)]) (p20.set ((p20.length:Int) - 1:Int).toNat (⟨q1.From,(st.vs.length:Int)+1⟩:Gapi_Span)) false true ((k:Int)+1))))) =
     match (if st.vs.length=512 then Except.error (⟨3,(sp.1:Int)⟩:Gapi_Spot) else Except.ok (zis st sp.1 x)) with
     | .error e=>some (none,e)
     | .ok st'=>ag (mkB st'.t) st'.vs (zha 0 st'.stz) st'.first st'.row ((k+1:Nat):Int):=fun hnt=>by
    by_cases hfull:st.vs.length=512
    ·rw [if_pos hfull]; exact zaA (beq_iff_eq.2 (by omega)) rfl
    ·rw [if_neg hfull]
     refine zav (beq_eq_false_iff_ne.2 (by omega)) (zbC ?_)
     obtain ⟨init,r,he,hl,hdl,htot,hsp⟩:=zjs hI
     have hzl:=hI.stzLen
     have hol:(zb4 st).length≤513:=zkg hzl
     have hil:init.length+1=(zb4 st).length:=by rw [he]; simp
     have tail:∀ p20:List Gapi_Span,p20=zha 0 (zb4 st)→(grd (I64 ((p20.length:Int) - 1)) <|
      zan (zcI p20 ((p20.length:Int) - 1)) fun (q1:Gapi_Span) =>
      zan (zcU (mkB x)) fun (r7:Int) =>
      grd (0≤(r7:Int)∧(r7:Int)≤((mkB x).size:Int)∧(((mkB x).size:Int):Int)≤((mkB x).size:Int)) <|
      grd (I64 ((p20.length:Int) - 1)) <|
      grd (I64 ((st.vs.length:Int) - q1.From)) <|
      grd (I64 ((sp.1:Int)+r7)) <|
      grd (st.vs.length+1≤2147483648) <|
      grd (I64 ((st.vs.length:Int)+1)) <|
      (grd (I64 ((k:Int)+1))<|ag (mkB st.t) (st.vs++[(⟨zcu (mkB x) r7 ((mkB x).size:Int),r7,(p20.length:Int) - 1,(st.vs.length:Int) - q1.From,(sp.1:Int)+r7,(sp.2:Int)⟩:Gapi_Verse)]) (p20.set ((p20.length:Int) - 1:Int).toNat (⟨q1.From,(st.vs.length:Int)+1⟩:Gapi_Span)) false true ((k:Int)+1))) =
       ag (mkB (zis st sp.1 x).t) (zis st sp.1 x).vs (zha 0 (zis st sp.1 x).stz) (zis st sp.1 x).first (zis st sp.1 x).row ((k+1:Nat):Int):=fun p20 hp=>by
      have hpl:p20.length=(zb4 st).length:=by rw [hp,zfA]
      have hg:zcI p20 ((p20.length:Int) - 1)=some ⟨(tot init:Int),(st.vs.length:Int)⟩:=by
       refine zm4 (n:=init.length) (by omega) ?_
       rw [hp,hsp,List.getElem?_append_right (by rw [zfA]; exact Nat.le_refl _),zfA,Nat.sub_self]; rfl
      have hind:=zoH x
      refine zce ⟨by omega,by omega⟩ (za3 hg (za3 (zn1 x (by omega)) (zce ⟨by omega,by rw [zaY]; omega,by omega⟩ (zce ⟨by omega,by omega⟩ (zce ⟨by show _≤(st.vs.length:Int) - (tot init:Int); omega,by show (st.vs.length:Int) - (tot init:Int)≤_; omega⟩ (zce ⟨by omega,by omega⟩ (zce (by omega) (zce ⟨by omega,by omega⟩ ?_))))))))
      refine (goOn _ _ _ _ _).trans ?_
      have e1:(p20.set ((p20.length:Int) - 1:Int).toNat (⟨(tot init:Int),(st.vs.length:Int)+1⟩:Gapi_Span))=zha 0 (zis st sp.1 x).stz:=by
       rw [show ((p20.length:Int) - 1:Int).toNat=(zha 0 init).length by rw [zfA]; omega,hp,hsp,zj0]
       show _=zha 0 ((zb4 st).dropLast++[ze4 (zb4 st)++[x]])
       rw [hdl,hl,zhD,Nat.zero_add]
       show _=_++[(⟨(tot init:Int),((tot init+(r++[x]).length:Nat):Int)⟩:Gapi_Span)]
       rw [List.length_append,List.length_singleton]
       congr 3
       omega
      have e2:(⟨zcu (mkB x) (ind x:Int) ((mkB x).size:Int),(ind x:Int),(p20.length:Int) - 1,(st.vs.length:Int) - (tot init:Int),(sp.1:Int)+(ind x:Int),(sp.2:Int)⟩:Gapi_Verse)=zfi sp.1 x (zb4 st):=by
       unfold zfi
       rw [zio,hpl,hl]
       congr 1
       ·omega
       ·omega
      show ag _ (st.vs++[_]) _ _ _ _=_
      rw [e2]
      show ag _ _ (p20.set _ _) _ _ _=_
      rw [e1]
      rfl
     cases hr:st.row with
     | true =>
      refine zav rfl ?_
      exact tail _ (by unfold zb4; rw [hr]; rfl)
     | false =>
      refine zaA rfl (zce (by rw [zfA]; omega) ?_)
      refine tail _ ?_
      unfold zb4; rw [hr,if_neg (by decide),zhD,Nat.zero_add,← hI.tot]
      rfl
   cases hf:st.first with
   | true =>
    refine zaA rfl (za3 (zll x) ?_)
    cases ht:zjh x with
    | true =>
     rw [if_pos ⟨rfl,rfl⟩]
     have hx1:1≤x.length:=by
      cases x with
      | nil=>cases ht
      | cons b t=>simp
     refine zaA rfl (zce ⟨by omega,by rw [zaY]; omega,by omega⟩ (za3 (a:=mkB (x.drop 2)) ?_ (goOn _ _ _ _ _)))
     have:=zio x 1
     rw [show ((1:Nat):Int)=1 from rfl] at this
     rw [this]
     exact zoZ x ht
    | false =>
     rw [if_neg (by simp)]
     refine zav rfl ?_
     exact verse (by rw [ht]; simp)
   | false =>
    rw [if_neg (by simp)]
    refine zav rfl ?_
    exact verse (by rw [hf]; simp)
end
theorem zmH {T:List UInt8} {J:ByteArray→(List Gapi_Verse)→(List Gapi_Span)→Option ((Option Gpoem_Poem)×Gapi_Spot)} {m:Gplace_Map} (hT:T.length≤65536) (hm:m.lines.map spE=(zb6 T).map mkS) :
  ∀ (n k:Nat) (st:RS),RInv st→k≤(zb6 T).length→(zb6 T).length - k<n →
   zaT (fun _ _ _ _ _ _=>none) (zcr (mkB T) J m (m.lines.length:Int)) n (mkB st.t) st.vs (zha 0 st.stz) st.first st.row (k:Int) =
    match zcM st ((zeU T).drop k) with
    | .error e=>some (none,e)
    | .ok st'=>J (mkB st'.t) st'.vs (zha 0 st'.stz):=by
 have hlen:m.lines.length=(zb6 T).length:=by have:=congrArg List.length hm; simpa using this
 intro n
 induction n with
 | zero=>intro k st h1 h2 h3; omega
 | succ n ih =>
  intro k st hI hk hn
  rw [zbI]
  obtain ⟨ag,hag⟩:∃ ag,ag=zaT (fun _ _ _ _ _ _=>none) (zcr (mkB T) J m (m.lines.length:Int)) n:=⟨_,rfl⟩
  rw [← hag] at ih ⊢
  rcases Nat.lt_or_ge k (zb6 T).length with h | h
  ·obtain ⟨sp,hsp⟩:∃ sp,(zb6 T)[k]?=some sp:=⟨_,List.getElem?_eq_getElem h⟩
   rw [zmG hT hI hsp hm (by omega)]
   have hi:(zeU T).drop k=(sp.1,(T.drop sp.1).take (sp.2 - sp.1))::(zeU T).drop (k+1):=by
    have hl:k<(zeU T).length:=by unfold zeU; rw [List.length_map]; exact h
    rw [List.drop_eq_getElem_cons hl]
    congr 1
    have:(zeU T)[k]?=some (sp.1,(T.drop sp.1).take (sp.2 - sp.1)):=by unfold zeU; rw [List.getElem?_map,hsp]; rfl
    rw [List.getElem?_eq_getElem hl] at this
    exact Option.some.inj this
   rw [hi,zcM]
   cases hs:zdz st (sp.1,(T.drop sp.1).take (sp.2 - sp.1)) with
   | error e=>rfl
   | ok st'=>exact ih (k+1) st' (hI.step hs) (by omega) (by omega)
  ·rw [List.drop_eq_nil_of_le (by unfold zeU; rw [List.length_map]; exact h)]
   unfold zcr
   exact zav (decide_eq_false (by omega)) rfl
theorem zpV (T:List UInt8):zcV (mkB T)=match rd T with
  | .error e=>some (none,e)
  | .ok st=>some (some (⟨mkB st.t,st.vs,zha 0 st.stz,mkB T⟩:Gpoem_Poem),(⟨0,0⟩:Gapi_Spot)):=by
 unfold zcV rd
 by_cases h:65536<T.length
 ·rw [if_pos h]
  exact za3 (znY _ (by rw [zaY]; exact h)) (zaA rfl rfl)
 ·rw [if_neg h]
  obtain ⟨m,h1,h2,h3⟩:=zrf (mkB T) (by rw [zaY]; omega)
  refine za3 h1 (zav rfl (zbC (za3 rfl (za3 rfl ?_))))
  have hl:=zfk T false 0 0
  have hl2:(zb6 T).length≤T.length+1:=hl
  have:=zmH (J:=fun (p1:ByteArray) (p2:List Gapi_Verse) (p3:List Gapi_Span)=>some ((some (⟨p1,p2,p3,mkB T⟩:Gpoem_Poem)),(⟨0,0⟩:Gapi_Spot))) (T:=T) (m:=m) (by omega) h3 zb8 0 rs0 zkQ (Nat.zero_le _) (by unfold zb8; omega)
  rw [List.drop_zero] at this
  exact this
end Go.Proofs.YtbempdelckaccaaDoor

namespace Go.Proofs.YtbempdelckaccaaDoor
open Go.RowKit Go.Lib
set_option linter.unusedVariables false
set_option linter.unusedSimpArgs false
theorem zjq (a b:List (List (List UInt8))):mkZ (a++b)=mkZ a++mkZ b:=List.map_append
theorem zef (a:List (List (List UInt8))):(mkZ a).length=a.length:=List.length_map ..
section
variable {T:List UInt8} {st:RS} {sp:Nat×Nat} {k:Nat}
theorem zj7 {J:ByteArray→(List (List ByteArray))→(List Gapi_Verse)→Option (Gref17_Poem×(List Gapi_Verse)×Gapi_Spot)} {ag:ByteArray→(List (List ByteArray))→(List Gapi_Verse)→Bool→Bool→Int→Option (Gref17_Poem×(List Gapi_Verse)×Gapi_Spot)}
  (hT:T.length≤65536) (hI:RInv st) (hk:(zb6 T)[k]?=some sp) :
  zdk (mkB T) J ((zb6 T).map mkS) ag (mkB st.t) (mkZ st.stz) st.vs st.first st.row (k:Int) =
   match zdz st (sp.1,(T.drop sp.1).take (sp.2 - sp.1)) with
   | .error e=>some ((⟨ByteArray.empty,([]:List (List ByteArray))⟩:Gref17_Poem),([]:List Gapi_Verse),e)
   | .ok st'=>ag (mkB st'.t) (mkZ st'.stz) st'.vs st'.first st'.row ((k+1:Nat):Int):=by
 obtain ⟨h1,h2,_⟩:=zjj T sp (List.mem_of_getElem? hk)
 have hkl:=(List.getElem?_eq_some_iff.1 hk).1
 have hkb:=zfk T false 0 0
 have hkb2:(zb6 T).length≤T.length+1:=hkb
 have hq:zcI ((zb6 T).map mkS) (k:Int)=some (mkS sp):=zbm (by rw [List.getElem?_map,hk]; rfl)
 have hcut:zcu (mkB T) (sp.1:Int) (sp.2:Int)=mkB ((T.drop sp.1).take (sp.2 - sp.1)):=zjJ T sp.1 sp.2
 generalize hx:(T.drop sp.1).take (sp.2 - sp.1)=x at hcut ⊢
 have hxl:x.length=sp.2 - sp.1:=by rw [← hx,List.length_take,List.length_drop]; omega
 unfold zdk
 refine zaA (decide_eq_true (by rw [List.length_map]; omega)) (zbC (za3 hq (zce ⟨by show (0:Int)≤(sp.1:Int); omega,by show (sp.1:Int)≤sp.2; omega,by show (sp.2:Int)≤_; rw [zaY]; omega⟩ ?_)))
 show zan (zek (zcu (mkB T) (sp.1:Int) (sp.2:Int))) _=_
 have hcut2:zcu (mkB T) (mkS sp).From (mkS sp).To=mkB x:=hcut
 rw [hcut,hcut2]
 refine za3 (zlR x (by omega)) ?_
 unfold zdz
 have goOn:∀ (a:ByteArray) (b:List (List ByteArray)) (c:List Gapi_Verse) (d e:Bool),(grd (I64 ((k:Int)+1))<|ag a b c d e ((k:Int)+1))=ag a b c d e ((k+1:Nat):Int):=fun a b c d e=>zce ⟨by omega,by omega⟩ (by rw [show (k:Int)+1=((k+1:Nat):Int) by omega])
 cases hb:zga x with
 | true =>
  rw [if_pos rfl]
  exact zaA rfl (goOn _ _ _ _ _)
 | false =>
  rw [if_neg (by decide)]
  refine zav rfl ?_
  by_cases hbig:1024<x.length
  ·rw [if_pos hbig]
   exact zaA (decide_eq_true (by rw [zaY]; omega)) (zce ⟨by show _≤(sp.1:Int)+1024; omega,by show (sp.1:Int)+1024≤_; omega⟩ rfl)
  ·rw [if_neg hbig]
   refine zav (decide_eq_false (by rw [zaY]; omega)) ?_
   have h512:=hI.most
   have verse:∀ Z:Option (Gref17_Poem×(List Gapi_Verse)×Gapi_Spot),Z=(zam (((st.vs.length:Int):Int)==512) (some ((⟨ByteArray.empty,([]:List (List ByteArray))⟩:Gref17_Poem),([]:List Gapi_Verse),(⟨3,(mkS sp).From⟩:Gapi_Spot))) (zbk (fun (j5:(List (List ByteArray))→Option (Gref17_Poem×(List Gapi_Verse)×Gapi_Spot)) =>
     zam (!st.row) (grd ((mkZ st.stz).length+1≤2147483648)<|j5 (mkZ st.stz++[([]:List ByteArray)])) (j5 (mkZ st.stz))) (fun (p15:List (List ByteArray)) =>
      grd (I64 ((p15.length:Int) - 1)) <|
      zan (zbS (mkB x)) fun (r4:Int) =>
      grd (0≤(r4:Int)∧(r4:Int)≤((mkB x).size:Int)∧(((mkB x).size:Int):Int)≤((mkB x).size:Int)) <|
      zan (zbS (mkB x)) fun (r5:Int) =>
      zan (zcI p15 ((p15.length:Int) - 1)) fun (x1:List ByteArray) =>
      zan (zbS (mkB x)) fun (r6:Int) =>
      grd (I64 ((mkS sp).From+r6)) <|
      grd (st.vs.length+1≤2147483648) <|
      zan (zcI p15 ((p15.length:Int) - 1)) fun (x2:List ByteArray) =>
      grd (x2.length+1≤2147483648) <|
      (grd (I64 ((k:Int)+1))<|ag (mkB st.t) (p15.set ((p15.length:Int) - 1:Int).toNat (x2++[mkB x])) (st.vs++[(⟨zcu (mkB x) r4 ((mkB x).size:Int),r5,(p15.length:Int) - 1,(x1.length:Int),(mkS sp).From+r6,(mkS sp).To⟩:Gapi_Verse)]) false true ((k:Int)+1))))) →
     ¬ (st.first=true∧zjh x=true)→Z =
     match (if st.vs.length=512 then Except.error (⟨3,(sp.1:Int)⟩:Gapi_Spot) else Except.ok (zis st sp.1 x)) with
     | .error e=>some ((⟨ByteArray.empty,([]:List (List ByteArray))⟩:Gref17_Poem),([]:List Gapi_Verse),e)
     | .ok st'=>ag (mkB st'.t) (mkZ st'.stz) st'.vs st'.first st'.row ((k+1:Nat):Int):=fun Z hZ hnt=>by
    rw [hZ]
    by_cases hfull:st.vs.length=512
    ·rw [if_pos hfull]; exact zaA (beq_iff_eq.2 (by omega)) rfl
    ·rw [if_neg hfull]
     refine zav (beq_eq_false_iff_ne.2 (by omega)) (zbC ?_)
     obtain ⟨init,r,he,hl,hdl,htot,hsp⟩:=zjs hI
     have hzl:=hI.stzLen
     have hol:(zb4 st).length≤513:=zkg hzl
     have hil:init.length+1=(zb4 st).length:=by rw [he]; simp
     have tail:∀ p15:List (List ByteArray),p15=mkZ (zb4 st)→(grd (I64 ((p15.length:Int) - 1)) <|
      zan (zbS (mkB x)) fun (r4:Int) =>
      grd (0≤(r4:Int)∧(r4:Int)≤((mkB x).size:Int)∧(((mkB x).size:Int):Int)≤((mkB x).size:Int)) <|
      zan (zbS (mkB x)) fun (r5:Int) =>
      zan (zcI p15 ((p15.length:Int) - 1)) fun (x1:List ByteArray) =>
      zan (zbS (mkB x)) fun (r6:Int) =>
      grd (I64 ((mkS sp).From+r6)) <|
      grd (st.vs.length+1≤2147483648) <|
      zan (zcI p15 ((p15.length:Int) - 1)) fun (x2:List ByteArray) =>
      grd (x2.length+1≤2147483648) <|
      (grd (I64 ((k:Int)+1))<|ag (mkB st.t) (p15.set ((p15.length:Int) - 1:Int).toNat (x2++[mkB x])) (st.vs++[(⟨zcu (mkB x) r4 ((mkB x).size:Int),r5,(p15.length:Int) - 1,(x1.length:Int),(mkS sp).From+r6,(mkS sp).To⟩:Gapi_Verse)]) false true ((k:Int)+1))) =
       ag (mkB (zis st sp.1 x).t) (mkZ (zis st sp.1 x).stz) (zis st sp.1 x).vs (zis st sp.1 x).first (zis st sp.1 x).row ((k+1:Nat):Int):=fun p15 hp=>by
      have hpl:p15.length=(zb4 st).length:=by rw [hp,zef]
      have hg:zcI p15 ((p15.length:Int) - 1)=some (r.map mkB):=by
       refine zm4 (n:=init.length) (by omega) ?_
       rw [hp,he,zjq,List.getElem?_append_right (by rw [zef]; exact Nat.le_refl _),zef,Nat.sub_self]; rfl
      have hind:=zoH x
      refine zce ⟨by omega,by omega⟩ (za3 (zfW x (by omega)) (zce ⟨by omega,by rw [zaY]; omega,by omega⟩ (za3 (zfW x (by omega)) (za3 hg (za3 (zfW x (by omega)) (zce ⟨by show _≤(sp.1:Int)+_; omega,by show (sp.1:Int)+_≤_; omega⟩ (zce (by omega) (za3 hg (zce (by rw [List.length_map]; omega) ?_)))))))))
      refine (goOn _ _ _ _ _).trans ?_
      have e1:(p15.set ((p15.length:Int) - 1:Int).toNat (r.map mkB++[mkB x]))=mkZ (zis st sp.1 x).stz:=by
       rw [show ((p15.length:Int) - 1:Int).toNat=(mkZ init).length by rw [zef]; omega,hp,he,zjq]
       show ((mkZ init++[r.map mkB]).set _ _)=mkZ ((zb4 st).dropLast++[ze4 (zb4 st)++[x]])
       rw [zj0,hdl,hl,zjq]
       show _=_++[(r++[x]).map mkB]
       rw [List.map_append]; rfl
      have e2:(⟨zcu (mkB x) (ind x:Int) ((mkB x).size:Int),(ind x:Int),(p15.length:Int) - 1,((r.map mkB).length:Int),(mkS sp).From+(ind x:Int),(mkS sp).To⟩:Gapi_Verse)=zfi sp.1 x (zb4 st):=by
       unfold zfi
       rw [zio,hpl,hl,List.length_map]
       congr 1
       show (sp.2:Int)=_
       omega
      rw [e2,e1]
      rfl
     cases hr:st.row with
     | true =>
      refine zav rfl ?_
      exact tail _ (by unfold zb4; rw [hr]; rfl)
     | false =>
      refine zaA rfl (zce (by rw [zef]; omega) ?_)
      refine tail _ ?_
      unfold zb4; rw [hr,if_neg (by decide),zjq]
      rfl
   refine zbC ?_
   cases hf:st.first with
   | true =>
    refine zaA rfl (za3 (zkT x) ?_)
    cases ht:zjh x with
    | true =>
     rw [if_pos ⟨rfl,rfl⟩]
     refine zaA rfl (zbC ?_)
     by_cases h2l:2<x.length
     ·refine zaA (decide_eq_true (by rw [zaY]; omega)) (zce ⟨by omega,by rw [zaY]; omega,by omega⟩ ?_)
      have:=zio x 2
      rw [show ((2:Nat):Int)=2 from rfl] at this
      rw [this]
      exact goOn _ _ _ _ _
     ·refine zav (decide_eq_false (by rw [zaY]; omega)) ?_
      rw [hI.t0 hf,List.drop_eq_nil_of_le (by show x.length≤2; omega)]
      exact goOn _ _ _ _ _
    | false =>
     rw [if_neg (by simp)]
     refine zav rfl ?_
     exact verse _ rfl (by rw [ht]; simp)
   | false =>
    rw [if_neg (by simp)]
    refine zav rfl ?_
    exact verse _ rfl (by rw [hf]; simp)
end
theorem zj8 {T:List UInt8} {J:ByteArray→(List (List ByteArray))→(List Gapi_Verse)→Option (Gref17_Poem×(List Gapi_Verse)×Gapi_Spot)} (hT:T.length≤65536) :
  ∀ (n k:Nat) (st:RS),RInv st→k≤(zb6 T).length→(zb6 T).length - k<n →
   zaT (fun _ _ _ _ _ _=>none) (zdk (mkB T) J ((zb6 T).map mkS)) n (mkB st.t) (mkZ st.stz) st.vs st.first st.row (k:Int) =
    match zcM st ((zeU T).drop k) with
    | .error e=>some ((⟨ByteArray.empty,([]:List (List ByteArray))⟩:Gref17_Poem),([]:List Gapi_Verse),e)
    | .ok st'=>J (mkB st'.t) (mkZ st'.stz) st'.vs:=by
 intro n
 induction n with
 | zero=>intro k st h1 h2 h3; omega
 | succ n ih =>
  intro k st hI hk hn
  rw [zbI]
  obtain ⟨ag,hag⟩:∃ ag,ag=zaT (fun _ _ _ _ _ _=>none) (zdk (mkB T) J ((zb6 T).map mkS)) n:=⟨_,rfl⟩
  rw [← hag] at ih ⊢
  rcases Nat.lt_or_ge k (zb6 T).length with h | h
  ·obtain ⟨sp,hsp⟩:∃ sp,(zb6 T)[k]?=some sp:=⟨_,List.getElem?_eq_getElem h⟩
   rw [zj7 hT hI hsp]
   have hi:(zeU T).drop k=(sp.1,(T.drop sp.1).take (sp.2 - sp.1))::(zeU T).drop (k+1):=by
    have hl:k<(zeU T).length:=by unfold zeU; rw [List.length_map]; exact h
    rw [List.drop_eq_getElem_cons hl]
    congr 1
    have:(zeU T)[k]?=some (sp.1,(T.drop sp.1).take (sp.2 - sp.1)):=by unfold zeU; rw [List.getElem?_map,hsp]; rfl
    rw [List.getElem?_eq_getElem hl] at this
    exact Option.some.inj this
   rw [hi,zcM]
   cases hs:zdz st (sp.1,(T.drop sp.1).take (sp.2 - sp.1)) with
   | error e=>rfl
   | ok st'=>exact ih (k+1) st' (hI.step hs) (by omega) (by omega)
  ·rw [List.drop_eq_nil_of_le (by unfold zeU; rw [List.length_map]; exact h)]
   unfold zdk
   exact zav (decide_eq_false (by rw [List.length_map]; omega)) rfl
theorem zmF (T:List UInt8):zfp (mkB T)=match rd T with
  | .error e=>some ((⟨ByteArray.empty,([]:List (List ByteArray))⟩:Gref17_Poem),([]:List Gapi_Verse),e)
  | .ok st=>some ((⟨mkB st.t,mkZ st.stz⟩:Gref17_Poem),st.vs,(⟨0,0⟩:Gapi_Spot)):=by
 unfold zfp rd
 by_cases h:65536<T.length
 ·rw [if_pos h]
  exact zaA (decide_eq_true (by rw [zaY]; omega)) rfl
 ·rw [if_neg h]
  refine zav (decide_eq_false (by rw [zaY]; omega)) (zbC (za3 (zlQ _ (by rw [zaY]; omega)) ?_))
  have hl:=zfk T false 0 0
  have hl2:(zb6 T).length≤T.length+1:=hl
  have:=zj8 (J:=fun (p1:ByteArray) (p2:List (List ByteArray)) (l1:List Gapi_Verse)=>some ((⟨p1,p2⟩:Gref17_Poem),l1,(⟨0,0⟩:Gapi_Spot))) (T:=T) (by omega) zb8 0 rs0 zkQ (Nat.zero_le _) (by unfold zb8; omega)
  rw [List.drop_zero] at this
  exact this
end Go.Proofs.YtbempdelckaccaaDoor

namespace Go.Proofs.YtbempdelckaccaaDoor
open Go.RowKit Go.Lib
set_option linter.unusedVariables false
set_option linter.unusedSimpArgs false
end Go.Proofs.YtbempdelckaccaaDoor

namespace Go.Proofs.YtbempdelckaccaaDoor
open Go.RowKit Go.Lib
set_option linter.unusedVariables false
set_option linter.unusedSimpArgs false
def zbL (s1:ByteArray):Option Bool :=
grd (s1.size≤4294967280) <|
some (decide ((0:Int)≤(iaV s1)))
theorem zex {s1:ByteArray} {r:Bool} (h:zbL s1=some r):FnP Tryd.prog 50 [.string s1,.string (⟨#[13,10]⟩:ByteArray)] (.bool r):=by
 unfold zbL at h
 refine FnP.intro Tryd.func50 rfl Tryd.ntmps50 (by simp) ?_
 intro w0 K
 refine zyG (zyR 1 rfl (zyH (zyR 2 rfl ?_)))
 obtain ⟨hg1,h⟩:=zbM h
 refine zbb (v:=zI (iaV s1)) (vs:=[.string s1,.string (⟨#[13,10]⟩:ByteArray)]) rfl dc rfl rfl rfl zrs (zqb s1 hg1) (zaQ rfl zeB (zyR 1 rfl (zyN (zax ?_))))
 cases h
 exact zaC (rs:=[.tmp 4]) () (.inl rfl) Tryd.results50 (.cons (.tmp rfl) .nil) rfl Splits.nil
def zgR (s1:ByteArray) (most1:Int):Option Bool :=
zam (decide (((s1.size:Int):Int)≤most1)) (
zan (zbL s1) fun (r1:Bool) =>
some (!r1)
) (
some false
)
theorem zkV {s1:ByteArray} {most1:Int} {r:Bool} (h:zgR s1 most1=some r):FnP Tryd.prog 26 [.string s1,zI most1] (.bool r):=by
 unfold zgR at h
 refine FnP.intro Tryd.func26 rfl Tryd.ntmps26 (by simp) ?_
 intro w0 K
 refine zyG (zyR 1 rfl (zyH (zyR 1 rfl (zbt rfl dc rfl Tryd.underlying9 (zyR 1 rfl (zaQ rfl zd1 (zyR 1 rfl ?_)))))))
 refine zyS (s:=9) rfl h (fun h => ?_) (fun h => ?_)
 ·
  refine zyR 1 rfl ?_
  obtain ⟨r1,hq1,h⟩:=zbT h
  refine zbb (v:=.bool r1) (vs:=[.string s1,.string (⟨#[13,10]⟩:ByteArray)]) rfl dc rfl rfl rfl zrz (zex hq1) (zdg rfl dc rfl zch (zyR 2 rfl (zyN (zax ?_))))
  cases h
  exact zaC (rs:=[.tmp 4]) () (.inl rfl) Tryd.results26 (.cons (.tmp rfl) .nil) rfl Splits.nil
 refine zyR 5 rfl (zyN (zax ?_))
 cases h
 exact zaC (rs:=[.tmp 4]) () (.inl rfl) Tryd.results26 (.cons (.tmp rfl) .nil) rfl Splits.nil
end Go.Proofs.YtbempdelckaccaaDoor

namespace Go.Proofs.YtbempdelckaccaaDoor
open Go.RowKit Go.Lib Go.Shelf
set_option linter.unusedVariables false
set_option linter.unusedSimpArgs false
def zme (s:ByteArray) (n:Int):Bool:=decide ((s.size:Int)≤n)&&!zi6 s
theorem zl8 (s:ByteArray) (h:s.size≤4294967280):zbL s=some (zi6 s):=by
 unfold zbL
 exact zce h (congrArg some (zqc s))
theorem zp6 (s:ByteArray) (n:Int) (h:n≤4294967280):FnP Tryd.prog 26 [.string s,.int .i64 n] (.bool (zme s n)):=by
 refine zkV ?_
 unfold zgR zme
 cases hc:decide ((s.size:Int)≤n) with
 | true=>exact zaA rfl (za3 (zl8 s (by have:=of_decide_eq_true hc; omega)) rfl)
 | false=>exact zav rfl rfl
end Go.Proofs.YtbempdelckaccaaDoor

namespace Go.Proofs.YtbempdelckaccaaDoor
open Go.RowKit Go.Lib
set_option linter.unusedVariables false
set_option linter.unusedSimpArgs false
def zbW (p1:Gpoem_Poem) (q1:Gpoem_Poem) (j1:Option Bool) (ag1:Int→Option Bool) (x3:Int):Option Bool :=
zam (decide ((x3:Int)<(p1.told_lines.length:Int))) (
zan (zcI p1.told_lines x3) fun (q2:Gapi_Verse) =>
zan (zcI q1.told_lines x3) fun (q3:Gapi_Verse) =>
zam (!decide (q2.Text=q3.Text)) (
some false
) (
zam ((q2.Indent:Int) != q3.Indent) (
some false
) (
zam ((q2.Stanza:Int) != q3.Stanza) (
some false
) (
grd (I64 (x3+1)) <|
ag1 (x3+1)
)
)
)
) (
j1
)
def zcC (p1:Gpoem_Poem) (q1:Gpoem_Poem):Option Bool :=
zam (!decide (p1.told_title=q1.told_title)) (
some false
) (
zam (((p1.told_lines.length:Int):Int) != (q1.told_lines.length:Int)) (
some false
) (
zbk (fun (j1:Option Bool) =>
zaT (fun _=>none) (zbW p1 q1 j1) zb8 0
) (
some true
)
)
)
theorem zgS {bp1:Nat} {p1:Gpoem_Poem} {p1_h0 p1_h1:Hd} {bq1:Nat} {q1:Gpoem_Poem} {q1_h0 q1_h1:Hd} {r:Bool} (h:zcC p1 q1=some r):FnR Tryd.prog 15 [zP bp1,zP bq1] [cells bp1 [.string p1.told_title,p1_h0.v,p1_h1.v,.string p1.source] 81,zv5 p1_h0.v p1.told_lines,zv6 p1_h1.v p1.told_stanzas,cells bq1 [.string q1.told_title,q1_h0.v,q1_h1.v,.string q1.source] 81,zv5 q1_h0.v q1.told_lines,zv6 q1_h1.v q1.told_stanzas] [] (fun _:Unit=>(.bool r)) (fun _=>[]):=by
 unfold zcC at h
 refine FnR.intro Tryd.func15 rfl Tryd.ntmps15 (by simp) ?_
 intro w0 K hrd
 refine zyG (zyR 1 rfl (zyN (zaF (zaF ?_))))
 refine zbd (b:=!decide (p1.told_title=q1.told_title)) (fun hb1 => ?_) (fun hb1 => ?_)
 ·
  have h:=zc1 hb1 h
  refine zaN 32 [(0,8,zP bp1),(1,9,.bool false),(2,10,.bool false),(3,11,zP bq1),(4,12,.bool false),(5,13,.bool false),(6,14,.bool false),(7,15,zP bp1),(8,16,zP bp1),(9,17,zP bp1),(10,18,zP bp1),(11,19,.string p1.told_title),(12,20,zP bq1),(13,21,zP bq1),(14,22,zP bq1),(15,23,zP bq1),(16,24,.string q1.told_title),(17,25,.bool true),(18,26,.bool true),(19,27,.bool true),(20,28,undef),(21,29,undef),(22,30,undef),(23,31,undef),(24,32,undef),(25,33,undef),(26,34,undef),(27,35,undef),(28,36,undef),(29,37,undef),(30,38,undef),(31,39,undef)] mixed kr kr dc (by rfl) kr kr (zyP 1 0 rfl (zaa ?_ (zyP 2 2 rfl (zaa ?_ (zyP 3 5 rfl (zaa ?_ (zaa ?_ (zaa ?_ (zaa ?_ (zyP 1 12 rfl (zaa ?_ (zaa ?_ (zaa ?_ (zaa ?_ (zaa ?_ (zyP 14 18 rfl DrawPre.nil)))))))))))))))) ?_
  · exact fun D n d c u i=>zaM rfl dc (zab (m:=0) u rfl (d 0 dc)) rfl (zcK Tryd.underlying39) (zad 1 u i rfl)
  · exact fun D n d c u i=>zaM (zbD rfl (zab (m:=2) u rfl (d 2 dc))) dc (zab (m:=3) u rfl (d 3 dc)) rfl (zcK Tryd.underlying39) (zad 4 u i rfl)
  · exact fun D n d c u i=>zat (zbD rfl (zab (m:=6) u rfl (d 6 dc))) dc (zab (m:=7) u rfl (d 7 dc)) (zad 8 u i rfl)
  · exact fun D n d c u i=>zac zcY (zbD rfl (zab (m:=6) u rfl (d 6 dc))) dc (zab (m:=8) u rfl (d 8 dc)) (show _=0 from rfl) (zad 9 u i rfl)
  · exact fun D n d c u i=>zac zii (zbD rfl (zab (m:=6) u rfl (d 6 dc))) dc (zab (m:=9) u rfl (d 9 dc)) (show _=0 from rfl) (zad 10 u i rfl)
  · exact fun D n d c u i=>zbs (i:=0) hrd rfl zht (zbD rfl (zab (m:=6) u rfl (d 6 dc))) dc (zab (m:=10) u rfl (d 10 dc)) rfl (zad 11 u i rfl)
  · exact fun D n d c u i=>zat (zbD rfl (zab (m:=6) u rfl (d 6 dc))) dc (zab (m:=12) u rfl (d 12 dc)) (zad 13 u i rfl)
  · exact fun D n d c u i=>zac zcY (zbD rfl (zab (m:=6) u rfl (d 6 dc))) dc (zab (m:=13) u rfl (d 13 dc)) (show _=0 from rfl) (zad 14 u i rfl)
  · exact fun D n d c u i=>zac zii (zbD rfl (zab (m:=6) u rfl (d 6 dc))) dc (zab (m:=14) u rfl (d 14 dc)) (show _=0 from rfl) (zad 15 u i rfl)
  · exact fun D n d c u i=>zbs (i:=3) hrd rfl zht (zbD rfl (zab (m:=6) u rfl (d 6 dc))) dc (zab (m:=15) u rfl (d 15 dc)) rfl (zad 16 u i rfl)
  · exact fun D n d c u i=>zaM (zbD rfl (zab (m:=6) u rfl (d 6 dc))) dc (zab (m:=11) u rfl (d 11 dc)) (zab (m:=16) u rfl (d 16 dc)) zgJ (zaR (show Value.bool (!decide (p1.told_title=q1.told_title))=Value.bool true from congrArg Value.bool hb1) (zad 17 u i rfl))
  refine zyR 2 rfl (zyN (zbg rfl (zyG (zyR 1 rfl (zyN (zax (zag ?_)))))))
  cases h
  exact zaC (rs:=[.tmp 4]) () (.inl rfl) Tryd.results15 (.cons (.tmp rfl) .nil) rfl Splits.nil
 have h:=zc2 hb1 h
 refine zaN 32 [(0,8,zP bp1),(1,9,.bool false),(2,10,.bool false),(3,11,zP bq1),(4,12,.bool false),(5,13,.bool false),(6,14,.bool false),(7,15,zP bp1),(8,16,zP bp1),(9,17,zP bp1),(10,18,zP bp1),(11,19,.string p1.told_title),(12,20,zP bq1),(13,21,zP bq1),(14,22,zP bq1),(15,23,zP bq1),(16,24,.string q1.told_title),(17,25,.bool false),(18,26,.bool false),(19,27,.bool false),(20,28,zP bp1),(21,29,zP bp1),(22,30,zP bp1),(23,31,.pointer (some ⟨bp1,1,none⟩)),(24,32,p1_h0.v),(25,33,zI (p1.told_lines.length:Int)),(26,34,zP bq1),(27,35,zP bq1),(28,36,zP bq1),(29,37,.pointer (some ⟨bq1,1,none⟩)),(30,38,q1_h0.v),(31,39,zI (q1.told_lines.length:Int))] mixed kr kr dc (by rfl) kr kr (zyP 1 0 rfl (zaa ?_ (zyP 2 2 rfl (zaa ?_ (zyP 3 5 rfl (zaa ?_ (zaa ?_ (zaa ?_ (zaa ?_ (zyP 1 12 rfl (zaa ?_ (zaa ?_ (zaa ?_ (zaa ?_ (zaa ?_ (zyP 3 18 rfl (zaa ?_ (zaa ?_ (zaa ?_ (zaa ?_ (zaa ?_ (zyP 1 26 rfl (zaa ?_ (zaa ?_ (zaa ?_ (zaa ?_ (zaa ?_ DrawPre.nil))))))))))))))))))))))))))) ?_
 · exact fun D n d c u i=>zaM rfl dc (zab (m:=0) u rfl (d 0 dc)) rfl (zcK Tryd.underlying39) (zad 1 u i rfl)
 · exact fun D n d c u i=>zaM (zbD rfl (zab (m:=2) u rfl (d 2 dc))) dc (zab (m:=3) u rfl (d 3 dc)) rfl (zcK Tryd.underlying39) (zad 4 u i rfl)
 · exact fun D n d c u i=>zat (zbD rfl (zab (m:=6) u rfl (d 6 dc))) dc (zab (m:=7) u rfl (d 7 dc)) (zad 8 u i rfl)
 · exact fun D n d c u i=>zac zcY (zbD rfl (zab (m:=6) u rfl (d 6 dc))) dc (zab (m:=8) u rfl (d 8 dc)) (show _=0 from rfl) (zad 9 u i rfl)
 · exact fun D n d c u i=>zac zii (zbD rfl (zab (m:=6) u rfl (d 6 dc))) dc (zab (m:=9) u rfl (d 9 dc)) (show _=0 from rfl) (zad 10 u i rfl)
 · exact fun D n d c u i=>zbs (i:=0) hrd rfl zht (zbD rfl (zab (m:=6) u rfl (d 6 dc))) dc (zab (m:=10) u rfl (d 10 dc)) rfl (zad 11 u i rfl)
 · exact fun D n d c u i=>zat (zbD rfl (zab (m:=6) u rfl (d 6 dc))) dc (zab (m:=12) u rfl (d 12 dc)) (zad 13 u i rfl)
 · exact fun D n d c u i=>zac zcY (zbD rfl (zab (m:=6) u rfl (d 6 dc))) dc (zab (m:=13) u rfl (d 13 dc)) (show _=0 from rfl) (zad 14 u i rfl)
 · exact fun D n d c u i=>zac zii (zbD rfl (zab (m:=6) u rfl (d 6 dc))) dc (zab (m:=14) u rfl (d 14 dc)) (show _=0 from rfl) (zad 15 u i rfl)
 · exact fun D n d c u i=>zbs (i:=3) hrd rfl zht (zbD rfl (zab (m:=6) u rfl (d 6 dc))) dc (zab (m:=15) u rfl (d 15 dc)) rfl (zad 16 u i rfl)
 · exact fun D n d c u i=>zaM (zbD rfl (zab (m:=6) u rfl (d 6 dc))) dc (zab (m:=11) u rfl (d 11 dc)) (zab (m:=16) u rfl (d 16 dc)) zgJ (zaR (show Value.bool (!decide (p1.told_title=q1.told_title))=Value.bool false from congrArg Value.bool hb1) (zad 17 u i rfl))
 · exact fun D n d c u i=>zat (zbD rfl (zab (m:=19) u rfl (d 19 dc))) dc (zab (m:=20) u rfl (d 20 dc)) (zad 21 u i rfl)
 · exact fun D n d c u i=>zac zcY (zbD rfl (zab (m:=19) u rfl (d 19 dc))) dc (zab (m:=21) u rfl (d 21 dc)) (show _=0 from rfl) (zad 22 u i rfl)
 · exact fun D n d c u i=>zac ze5 (zbD rfl (zab (m:=19) u rfl (d 19 dc))) dc (zab (m:=22) u rfl (d 22 dc)) (show _=1 from rfl) (zad 23 u i rfl)
 · exact fun D n d c u i=>zbs (i:=0) hrd rfl zj3 (zbD rfl (zab (m:=19) u rfl (d 19 dc))) dc (zab (m:=23) u rfl (d 23 dc)) rfl (zad 24 u i rfl)
 · exact fun D n d c u i=>zdR (hrd.vw (i:=1) rfl) (zbD rfl (zab (m:=19) u rfl (d 19 dc))) dc (zab (m:=24) u rfl (d 24 dc)) Tryd.underlying27 (zad 25 u i rfl)
 · exact fun D n d c u i=>zat (zbD rfl (zab (m:=19) u rfl (d 19 dc))) dc (zab (m:=26) u rfl (d 26 dc)) (zad 27 u i rfl)
 · exact fun D n d c u i=>zac zcY (zbD rfl (zab (m:=19) u rfl (d 19 dc))) dc (zab (m:=27) u rfl (d 27 dc)) (show _=0 from rfl) (zad 28 u i rfl)
 · exact fun D n d c u i=>zac ze5 (zbD rfl (zab (m:=19) u rfl (d 19 dc))) dc (zab (m:=28) u rfl (d 28 dc)) (show _=1 from rfl) (zad 29 u i rfl)
 · exact fun D n d c u i=>zbs (i:=3) hrd rfl zj3 (zbD rfl (zab (m:=19) u rfl (d 19 dc))) dc (zab (m:=29) u rfl (d 29 dc)) rfl (zad 30 u i rfl)
 · exact fun D n d c u i=>zdR (hrd.vw (i:=4) rfl) (zbD rfl (zab (m:=19) u rfl (d 19 dc))) dc (zab (m:=30) u rfl (d 30 dc)) Tryd.underlying27 (zad 31 u i rfl)
 refine zaQ rfl zbF (zyR 1 rfl (zyN ?_))
 refine zyB rfl h (fun h => ?_) (fun h => ?_)
 ·
  refine zyG (zyR 1 rfl (zyN (zax (zag ?_))))
  cases h
  exact zaC (rs:=[.tmp 4]) () (.inl rfl) Tryd.results15 (.cons (.tmp rfl) .nil) rfl Splits.nil
 refine zar (zaH ?_)
 obtain ⟨j1,hj1,h⟩:=zbU h
 refine zaZ (β:=Unit) 0 rfl (fun b=>j1=some r) (fun b=>[]) (fun b=>[]) (fun b=>[]) (fun cut => ?_) ?_
 ·
  refine cut (zyG (zyR 1 rfl (zat rfl dc rfl (zac zcY rfl dc rfl (show _=0 from rfl) (zac ze5 rfl dc rfl (show _=1 from rfl) (zbs (i:=0) hrd rfl zj3 rfl dc rfl rfl (zdR (hrd.vw (i:=1) rfl) rfl dc rfl Tryd.underlying27 (zyR 1 rfl (zyN (zaL ?_))))))))))
  refine zbK (β:=Nat×Int) (fun b=>zaT (fun _=>none) (zbW p1 q1 j1) b.1 b.2=some r) (fun b=>[]) (fun b=>[(1,zP bq1),(46,p1_h0.v),(47,zI (p1.told_lines.length:Int)),(48,zI b.2)]) (fun b=>[]) (fun b=>b.1) (zb8,0) h rfl (za1 rfl) Splits.nil ?_
  rintro ⟨n1,x3⟩ h
  cases n1 with
  | zero=>exact zdu h
  | succ n1 =>
   obtain ⟨ag1,hag1⟩:∃ ag,ag=zaT (fun _=>none) (zbW p1 q1 j1) n1:=⟨_,rfl⟩
   have h:zbW p1 q1 j1 ag1 x3=some r:=by rw [hag1]; exact h
   unfold zbW at h
   refine zyG (zaQ rfl zbV (zyN (zaF ?_)))
   refine zyB rfl h (fun h => ?_) (fun h => ?_)
   ·
    refine zar (zaH (zaF (zaL (zyG (zyR 1 rfl ?_)))))
    obtain ⟨q2,hq1,h⟩:=zbT h
    refine zbx (hrd.vw (i:=1) rfl) hq1 Tryd.underlying27 znL rfl dc rfl rfl rfl (zdQ (m:=0+(x3:Int).toNat) (j:=0) (i:=1) (q:=q2) (cs:=(zr4 q2)) hrd rfl zpU zdK rfl dc rfl (Vw.get (hrd.vw (i:=1) rfl) hq1) rfl rfl rfl ?_)
    refine zbY zpB rfl dc (fun b1 => ?_)
    refine zyR 1 rfl (za6 (k:=0) (vs:=(zr4 q2)) (l':=(zr4 q2)) znL rfl rfl rfl rfl rfl (show _≤_ by simp) rfl rfl ?_)
    refine zyH (zyR 1 rfl (zat rfl dc rfl (zac zcY rfl dc rfl (show _=0 from rfl) (zac ze5 rfl dc rfl (show _=1 from rfl) (zbs (i:=3) hrd rfl zj3 rfl dc rfl rfl (zyR 1 rfl ?_))))))
    obtain ⟨q3,hq2,h⟩:=zbT h
    refine zbx (hrd.vw (i:=4) rfl) hq2 Tryd.underlying27 znL rfl dc rfl rfl rfl (zdQ (m:=0+(x3:Int).toNat) (j:=0) (i:=4) (q:=q3) (cs:=(zr4 q3)) hrd rfl zpU zdK rfl dc rfl (Vw.get (hrd.vw (i:=4) rfl) hq2) rfl rfl rfl ?_)
    refine zbY zpB rfl dc (fun b2 => ?_)
    refine za6 (k:=1) (vs:=(zr4 q3)) (l':=(zr4 q3)) znL rfl rfl rfl rfl rfl (show _≤_ by simp) rfl rfl ?_
    refine zyH (zac znd rfl dc rfl (show _=0 from rfl) (zah (k:=0) zht rfl dc rfl rfl rfl (zac znd rfl dc rfl (show _=0 from rfl) (zah (k:=1) zht rfl dc rfl rfl rfl (zaQ rfl zgJ (zyR 1 rfl ?_))))))
    refine zyS (s:=66) rfl h (fun h => ?_) (fun h => ?_)
    ·
     refine zyR 13 rfl (zaK ?_)
     refine zaH (zbg rfl (zyG (zyR 1 rfl (zyN (zax (zaj (zag (zag (zaj (zag ?_))))))))))
     cases h
     exact zaC (rs:=[.tmp 4]) () (.inl rfl) Tryd.results15 (.cons (.tmp rfl) .nil) rfl Splits.nil
    refine zac znc rfl dc rfl (show _=1 from rfl) (zah (k:=0) za5 rfl dc rfl rfl rfl (zac znc rfl dc rfl (show _=1 from rfl) (zah (k:=1) za5 rfl dc rfl rfl rfl (zaQ rfl zbF (zyR 2 rfl ?_)))))
    refine zyS (s:=73) rfl h (fun h => ?_) (fun h => ?_)
    ·
     refine zyR 6 rfl (zyN (zbg rfl (zyG (zyR 1 rfl (zyN ?_)))))
     refine zax (zaj (zag (zag (zaj (zag ?_)))))
     cases h
     exact zaC (rs:=[.tmp 4]) () (.inl rfl) Tryd.results15 (.cons (.tmp rfl) .nil) rfl Splits.nil
    refine zac znb rfl dc rfl (show _=2 from rfl) (zah (k:=0) za5 rfl dc rfl rfl rfl (zac znb rfl dc rfl (show _=2 from rfl) (zah (k:=1) za5 rfl dc rfl rfl rfl (zaQ rfl zbF (zyR 1 rfl (zyN ?_))))))
    refine zyB rfl h (fun h => ?_) (fun h => ?_)
    ·
     refine zyG (zyR 1 rfl (zyN (zax (zaj (zag (zag (zaj (zag ?_))))))))
     cases h
     exact zaC (rs:=[.tmp 4]) () (.inl rfl) Tryd.results15 (.cons (.tmp rfl) .nil) rfl Splits.nil
    refine zar (zal (zaH (zaG ?_)))
    obtain ⟨hg1,h⟩:=zbM h
    refine zaQ rfl (zaW (r:=x3+1) (IntWalk.i64_in _ hg1)) (zyR 1 rfl (zaK ?_))
    subst hag1
    exact za8 (n1,x3+1) h (Nat.lt_succ_self _) rfl (za1 rfl) Splits.nil
   refine zbc (zap (zap (zaw ?_)))
   exact zai () h rfl (zfy) Splits.nil
 rintro _ h
 rw [hj1] at h
 refine zyG (zyR 1 rfl (zyN (zax ?_)))
 cases h
 exact zaC (rs:=[.tmp 4]) () (.inl rfl) Tryd.results15 (.cons (.tmp rfl) .nil) rfl Splits.nil
end Go.Proofs.YtbempdelckaccaaDoor
