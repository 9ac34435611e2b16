/-
  Texts laid together: LpR, LfR, Qr, LpC, Pa, LpT, Pb, Pc, Pd, Pe, LpF, LpG, LpH, Pf, Pg, Ph, Pi, Pj, Pk, PgA, Pn, LqA. Nothing is assumed.
-/
import Derived.Test.YtbempdelckaccaaGreatDoorPageBack2
set_option maxRecDepth 100000
set_option maxHeartbeats 4000000
namespace Go.Proofs.YtbempdelckaccaaGreatDoor
abbrev zI (x : Int) : Value := .int .i64 x
abbrev zP (x : Nat) : Value := .pointer (some ⟨x, 0, none⟩)
end Go.Proofs.YtbempdelckaccaaGreatDoor

namespace Go.Proofs.YtbempdelckaccaaGreatDoor
open Go.RowKit Go.Lib
set_option linter.unusedVariables false
set_option linter.unusedSimpArgs false
theorem zba {σ:List (Nat×Value)}:∀ {σ':List (Nat×Value)},σ'.map (fun p=>σ.lookup p.1)=σ'.map (fun p=>some p.2)→Sbs σ σ'
  | [],_=>zgA
  | (t,v)::σ',h=>zmA (List.cons.inj h).1 (zba (List.cons.inj h).2)
theorem zek {α:Type} {a0 a1:α} {l l':List α} (h:l=l'):a0::a1::l=a0::a1::l':=by rw [h]
theorem zcK {α:Type} {a0 a1 a2:α} {l l':List α} (h:l=l'):a0::a1::a2::l=a0::a1::a2::l':=by rw [h]
theorem zeH {α:Type} {a0 a1 a2 a3:α} {l l':List α} (h:l=l'):a0::a1::a2::a3::l=a0::a1::a2::a3::l':=by rw [h]
theorem znG {α:Type} {a0 a1 a2 a3 a4:α} {l l':List α} (h:l=l'):a0::a1::a2::a3::a4::l=a0::a1::a2::a3::a4::l':=by rw [h]
theorem zs8 {α:Type} {a0 a1 a2 a3 a4 a5:α} {l l':List α} (h:l=l'):a0::a1::a2::a3::a4::a5::l=a0::a1::a2::a3::a4::a5::l':=by rw [h]
theorem zhd {α:Type} {a0 a1 a2 a3 a4 a5 a6:α} {l l':List α} (h:l=l'):a0::a1::a2::a3::a4::a5::a6::l=a0::a1::a2::a3::a4::a5::a6::l':=by rw [h]
theorem zhR {α:Type} {a0 a1 a2 a3 a4 a5 a6 a7:α} {l l':List α} (h:l=l'):a0::a1::a2::a3::a4::a5::a6::a7::l=a0::a1::a2::a3::a4::a5::a6::a7::l':=by rw [h]
theorem zvF {α:Type} {a0 a1 a2 a3 a4 a5 a6 a7 a8:α} {l l':List α} (h:l=l'):a0::a1::a2::a3::a4::a5::a6::a7::a8::l=a0::a1::a2::a3::a4::a5::a6::a7::a8::l':=by rw [h]
theorem zlN {α:Type} {a0 a1 a2 a3 a4 a5 a6 a7 a8 a9:α} {l l':List α} (h:l=l'):a0::a1::a2::a3::a4::a5::a6::a7::a8::a9::l=a0::a1::a2::a3::a4::a5::a6::a7::a8::a9::l':=by rw [h]
theorem zkU {α:Type} {a0 a1 a2 a3 a4 a5 a6 a7 a8 a9 a10:α} {l l':List α} (h:l=l'):a0::a1::a2::a3::a4::a5::a6::a7::a8::a9::a10::l=a0::a1::a2::a3::a4::a5::a6::a7::a8::a9::a10::l':=by rw [h]
theorem zs9 {α:Type} {a0 a1 a2 a3 a4 a5 a6 a7 a8 a9 a10 a11:α} {l l':List α} (h:l=l'):a0::a1::a2::a3::a4::a5::a6::a7::a8::a9::a10::a11::l=a0::a1::a2::a3::a4::a5::a6::a7::a8::a9::a10::a11::l':=by rw [h]
theorem zuj {D:Nat→Prop} {i0 t0 i1 t1:Nat} {v0 v1:Value} {r r':List (Nat×Nat×Value)} (h:dl D r=dl D r'):dl D ((i0,t0,v0)::(i1,t1,v1)::r)=dl D ((i0,t0,v0)::(i1,t1,v1)::r'):=zao (fun _=>rfl) (zao (fun _=>rfl) h)
theorem ztb {D:Nat→Prop} {i0 t0 i1 t1 i2 t2:Nat} {v0 v1 v2:Value} {r r':List (Nat×Nat×Value)} (h:dl D r=dl D r'):dl D ((i0,t0,v0)::(i1,t1,v1)::(i2,t2,v2)::r)=dl D ((i0,t0,v0)::(i1,t1,v1)::(i2,t2,v2)::r'):=zao (fun _=>rfl) (zao (fun _=>rfl) (zao (fun _=>rfl) h))
theorem zvS {D:Nat→Prop} {i0 t0 i1 t1 i2 t2 i3 t3:Nat} {v0 v1 v2 v3:Value} {r r':List (Nat×Nat×Value)} (h:dl D r=dl D r'):dl D ((i0,t0,v0)::(i1,t1,v1)::(i2,t2,v2)::(i3,t3,v3)::r)=dl D ((i0,t0,v0)::(i1,t1,v1)::(i2,t2,v2)::(i3,t3,v3)::r'):=zao (fun _=>rfl) (zao (fun _=>rfl) (zao (fun _=>rfl) (zao (fun _=>rfl) h)))
theorem zmE {D:Nat→Prop} {i0 t0 i1 t1 i2 t2 i3 t3 i4 t4:Nat} {v0 v1 v2 v3 v4:Value} {r r':List (Nat×Nat×Value)} (h:dl D r=dl D r'):dl D ((i0,t0,v0)::(i1,t1,v1)::(i2,t2,v2)::(i3,t3,v3)::(i4,t4,v4)::r)=dl D ((i0,t0,v0)::(i1,t1,v1)::(i2,t2,v2)::(i3,t3,v3)::(i4,t4,v4)::r'):=zao (fun _=>rfl) (zao (fun _=>rfl) (zao (fun _=>rfl) (zao (fun _=>rfl) (zao (fun _=>rfl) h))))
theorem zta {D:Nat→Prop} {i0 t0 i1 t1 i2 t2 i3 t3 i4 t4 i5 t5:Nat} {v0 v1 v2 v3 v4 v5:Value} {r r':List (Nat×Nat×Value)} (h:dl D r=dl D r'):dl D ((i0,t0,v0)::(i1,t1,v1)::(i2,t2,v2)::(i3,t3,v3)::(i4,t4,v4)::(i5,t5,v5)::r)=dl D ((i0,t0,v0)::(i1,t1,v1)::(i2,t2,v2)::(i3,t3,v3)::(i4,t4,v4)::(i5,t5,v5)::r'):=zao (fun _=>rfl) (zao (fun _=>rfl) (zao (fun _=>rfl) (zao (fun _=>rfl) (zao (fun _=>rfl) (zao (fun _=>rfl) h)))))
theorem zjo {D:Nat→Prop} {i0 t0 i1 t1 i2 t2 i3 t3 i4 t4 i5 t5 i6 t6:Nat} {v0 v1 v2 v3 v4 v5 v6:Value} {r r':List (Nat×Nat×Value)} (h:dl D r=dl D r'):dl D ((i0,t0,v0)::(i1,t1,v1)::(i2,t2,v2)::(i3,t3,v3)::(i4,t4,v4)::(i5,t5,v5)::(i6,t6,v6)::r)=dl D ((i0,t0,v0)::(i1,t1,v1)::(i2,t2,v2)::(i3,t3,v3)::(i4,t4,v4)::(i5,t5,v5)::(i6,t6,v6)::r'):=zao (fun _=>rfl) (zao (fun _=>rfl) (zao (fun _=>rfl) (zao (fun _=>rfl) (zao (fun _=>rfl) (zao (fun _=>rfl) (zao (fun _=>rfl) h))))))
theorem zhe {D:Nat→Prop} {i0 t0 i1 t1 i2 t2 i3 t3 i4 t4 i5 t5 i6 t6 i7 t7:Nat} {v0 v1 v2 v3 v4 v5 v6 v7:Value} {r r':List (Nat×Nat×Value)} (h:dl D r=dl D r'):dl D ((i0,t0,v0)::(i1,t1,v1)::(i2,t2,v2)::(i3,t3,v3)::(i4,t4,v4)::(i5,t5,v5)::(i6,t6,v6)::(i7,t7,v7)::r)=dl D ((i0,t0,v0)::(i1,t1,v1)::(i2,t2,v2)::(i3,t3,v3)::(i4,t4,v4)::(i5,t5,v5)::(i6,t6,v6)::(i7,t7,v7)::r'):=zao (fun _=>rfl) (zao (fun _=>rfl) (zao (fun _=>rfl) (zao (fun _=>rfl) (zao (fun _=>rfl) (zao (fun _=>rfl) (zao (fun _=>rfl) (zao (fun _=>rfl) h)))))))
theorem zw6 {D:Nat→Prop} {i0 t0 i1 t1 i2 t2 i3 t3 i4 t4 i5 t5 i6 t6 i7 t7 i8 t8:Nat} {v0 v1 v2 v3 v4 v5 v6 v7 v8:Value} {r r':List (Nat×Nat×Value)} (h:dl D r=dl D r'):dl D ((i0,t0,v0)::(i1,t1,v1)::(i2,t2,v2)::(i3,t3,v3)::(i4,t4,v4)::(i5,t5,v5)::(i6,t6,v6)::(i7,t7,v7)::(i8,t8,v8)::r)=dl D ((i0,t0,v0)::(i1,t1,v1)::(i2,t2,v2)::(i3,t3,v3)::(i4,t4,v4)::(i5,t5,v5)::(i6,t6,v6)::(i7,t7,v7)::(i8,t8,v8)::r'):=zao (fun _=>rfl) (zao (fun _=>rfl) (zao (fun _=>rfl) (zao (fun _=>rfl) (zao (fun _=>rfl) (zao (fun _=>rfl) (zao (fun _=>rfl) (zao (fun _=>rfl) (zao (fun _=>rfl) h))))))))
theorem zrE {D:Nat→Prop} {i0 t0 i1 t1 i2 t2 i3 t3 i4 t4 i5 t5 i6 t6 i7 t7 i8 t8 i9 t9:Nat} {v0 v1 v2 v3 v4 v5 v6 v7 v8 v9:Value} {r r':List (Nat×Nat×Value)} (h:dl D r=dl D r'):dl D ((i0,t0,v0)::(i1,t1,v1)::(i2,t2,v2)::(i3,t3,v3)::(i4,t4,v4)::(i5,t5,v5)::(i6,t6,v6)::(i7,t7,v7)::(i8,t8,v8)::(i9,t9,v9)::r)=dl D ((i0,t0,v0)::(i1,t1,v1)::(i2,t2,v2)::(i3,t3,v3)::(i4,t4,v4)::(i5,t5,v5)::(i6,t6,v6)::(i7,t7,v7)::(i8,t8,v8)::(i9,t9,v9)::r'):=zao (fun _=>rfl) (zao (fun _=>rfl) (zao (fun _=>rfl) (zao (fun _=>rfl) (zao (fun _=>rfl) (zao (fun _=>rfl) (zao (fun _=>rfl) (zao (fun _=>rfl) (zao (fun _=>rfl) (zao (fun _=>rfl) h)))))))))
theorem zuk {D:Nat→Prop} {i0 t0 i1 t1 i2 t2 i3 t3 i4 t4 i5 t5 i6 t6 i7 t7 i8 t8 i9 t9 i10 t10:Nat} {v0 v1 v2 v3 v4 v5 v6 v7 v8 v9 v10:Value} {r r':List (Nat×Nat×Value)} (h:dl D r=dl D r'):dl D ((i0,t0,v0)::(i1,t1,v1)::(i2,t2,v2)::(i3,t3,v3)::(i4,t4,v4)::(i5,t5,v5)::(i6,t6,v6)::(i7,t7,v7)::(i8,t8,v8)::(i9,t9,v9)::(i10,t10,v10)::r)=dl D ((i0,t0,v0)::(i1,t1,v1)::(i2,t2,v2)::(i3,t3,v3)::(i4,t4,v4)::(i5,t5,v5)::(i6,t6,v6)::(i7,t7,v7)::(i8,t8,v8)::(i9,t9,v9)::(i10,t10,v10)::r'):=zao (fun _=>rfl) (zao (fun _=>rfl) (zao (fun _=>rfl) (zao (fun _=>rfl) (zao (fun _=>rfl) (zao (fun _=>rfl) (zao (fun _=>rfl) (zao (fun _=>rfl) (zao (fun _=>rfl) (zao (fun _=>rfl) (zao (fun _=>rfl) h))))))))))
theorem zdg {D:Nat→Prop} {i0 t0 i1 t1 i2 t2 i3 t3 i4 t4 i5 t5 i6 t6 i7 t7 i8 t8 i9 t9 i10 t10 i11 t11:Nat} {v0 v1 v2 v3 v4 v5 v6 v7 v8 v9 v10 v11:Value} {r r':List (Nat×Nat×Value)} (h:dl D r=dl D r'):dl D ((i0,t0,v0)::(i1,t1,v1)::(i2,t2,v2)::(i3,t3,v3)::(i4,t4,v4)::(i5,t5,v5)::(i6,t6,v6)::(i7,t7,v7)::(i8,t8,v8)::(i9,t9,v9)::(i10,t10,v10)::(i11,t11,v11)::r)=dl D ((i0,t0,v0)::(i1,t1,v1)::(i2,t2,v2)::(i3,t3,v3)::(i4,t4,v4)::(i5,t5,v5)::(i6,t6,v6)::(i7,t7,v7)::(i8,t8,v8)::(i9,t9,v9)::(i10,t10,v10)::(i11,t11,v11)::r'):=zao (fun _=>rfl) (zao (fun _=>rfl) (zao (fun _=>rfl) (zao (fun _=>rfl) (zao (fun _=>rfl) (zao (fun _=>rfl) (zao (fun _=>rfl) (zao (fun _=>rfl) (zao (fun _=>rfl) (zao (fun _=>rfl) (zao (fun _=>rfl) (zao (fun _=>rfl) h)))))))))))
def zuc (lk:Nat→Option Value):Operand→Option Value
  | .tmp t=>lk t
  | .const v=>some v
  | .func f=>some (.func (.func f) #[] #[])
  | .global _=>none
def zvG (lk:Nat→Option Value) (ops:Array Oper):Option (Nat×Bool)→Option Bool
  | none=>some true
  | some (j,b)=>match (ops[j]?).bind (·.dst) with
    | some t=>match lk t with
      | some (.bool c)=>some (c==b)
      | some (.tuple _)=>some false
      | _=>none
    | none=>none
def zul (lk:Nat→Option Value) (N:Nat) (ops:Array Oper) (o:Oper):Option (Nat×Value) :=
  match o.dst with
  | none=>none
  | some d=>match Nat.blt d N with
    | false=>none
    | true=>match zvG lk ops o.guard with
      | none=>none
      | some false=>some (d,undef)
      | some true=>match o.op with
        | .move x=>match zuc lk x with
          | some v=>some (d,v)
          | none=>none
        | .assign x=>match zuc lk x with
          | some v=>some (d,v)
          | none=>none
        | .pick x y z=>match zuc lk x with
          | some (.bool true)=>match zuc lk y with
            | some v=>some (d,v)
            | none=>none
          | some (.bool false)=>match zuc lk z with
            | some v=>some (d,v)
            | none=>none
          | _=>none
        | _=>none
theorem ziG {lk:Nat→Option Value} {S:List (Nat×Value)} (hl:∀ t v,lk t=some v→S.lookup t=some v) {x:Operand} {v:Value} (h:zuc lk x=some v):ev S x=some v:=by
  cases x with
  | tmp t=>exact hl t v h
  | const c=>exact h
  | func f=>exact h
  | global g=>exact h
theorem ztc {lk:Nat→Option Value} {S:List (Nat×Value)} {ops:Array Oper} (hl:∀ t v,lk t=some v→S.lookup t=some v) {g:Option (Nat×Bool)} {r:Bool} (h:zvG lk ops g=some r):gd ops S g=some r:=by
  cases g with
  | none=>exact h
  | some p =>
    obtain ⟨j,b⟩:=p
    unfold zvG at h; unfold gd
    dsimp only at h ⊢
    cases ht:(ops[j]?).bind (·.dst) with
    | none=>rw [ht] at h; cases h
    | some t =>
      rw [ht] at h; dsimp only at h ⊢
      cases hk:lk t with
      | none=>rw [hk] at h; cases h
      | some v=>rw [hk] at h; rw [hl t v hk]; exact h
theorem zlO {F:Fence} [WideF F] {P:Program} {w0:World} {K:Nat→Prop} {N:Nat} {dfs:List Deferred} {ops:Array Oper} {Q:Exit→Act→World→Prop} {rest:List Oper} {lk:Nat→Option Value} {S:List (Nat×Value)} {L:List Asn} {o:Oper} {t:Nat} {v:Value}
    (hl:∀ t v,lk t=some v→S.lookup t=some v) (e:zul lk N ops o=some (t,v)) (h:TO F P w0 K N dfs ops Q rest ((t,v)::S) L):TO F P w0 K N dfs ops Q (o::rest) S L:=by
  obtain ⟨dst,op,ty,pos,aft,g⟩:=o
  unfold zul at e
  cases dst with
  | none=>cases e
  | some d =>
    dsimp only at e
    cases hb:Nat.blt d N with
    | false=>rw [hb] at e; cases e
    | true =>
    have hd:d<N:=Nat.lt_of_lt_of_le (Nat.lt_succ_self d) (Nat.le_of_ble_eq_true hb)
    rw [hb] at e; dsimp only at e
    cases hg:zvG lk ops g with
    | none=>rw [hg] at e; cases e
    | some gb =>
      rw [hg] at e
      have hg':=ztc hl hg
      cases gb with
      | false=>cases e; exact zt4 hg' hd h
      | true =>
        cases op <;> dsimp only at e <;> first | (cases e; done) | skip
        · split at e
          · cases e; exact zfV hg' hd (ziG hl (by assumption)) h
          · cases e
        · split at e
          · cases e; exact znC hg' hd (ziG hl (by assumption)) h
          · cases e
        · split at e
          · split at e
            · cases e; exact zrt (b:=true) hg' hd (ziG hl (by assumption)) (ziG hl (by assumption)) h
            · cases e
          · split at e
            · cases e; exact zrt (b:=false) hg' hd (ziG hl (by assumption)) (ziG hl (by assumption)) h
            · cases e
          · cases e
def zvT (N:Nat) (ops:Array Oper):Nat→List Oper→List (Nat×Value)→Option (List Oper×List (Nat×Value))
  | 0,r,σ=>some (r,σ)
  | n+1,o::r,σ=>match zul (fun t=>σ.lookup t) N ops o with
    | some p=>zvT N ops n r (p::σ)
    | none=>none
  | _+1,[],_=>none
theorem zyR {F:Fence} [WideF F] {P:Program} {w0:World} {K:Nat→Prop} {N:Nat} {dfs:List Deferred} {ops:Array Oper} {Q:Exit→Act→World→Prop} {L:List Asn} (n:Nat):∀ {rest rest':List Oper} {σ σ':List (Nat×Value)},
    zvT N ops n rest σ=some (rest',σ')→TO F P w0 K N dfs ops Q rest' σ' L→TO F P w0 K N dfs ops Q rest σ L:=by
  induction n with
  | zero=>intro rest rest' σ σ' e h; cases e; exact h
  | succ n ih =>
    intro rest rest' σ σ' e h
    cases rest with
    | nil=>cases e
    | cons o r =>
      simp only [zvT] at e
      split at e
      · exact zlO (fun _ _ h=>h) (by assumption) (ih e h)
      · cases e
def zum (deps:List Nat) (σ:List (Nat×Value)) (t:Nat):List (Nat×Nat×Value)→Option Value
  | []=>σ.lookup t
  | (i,t',v)::r=>match Nat.beq t t' with
    | true=>match deps.contains i with
      | true=>some v
      | false=>none
    | false=>zum deps σ t r
theorem zlP {D:Nat→Prop} {deps:List Nat} {σ:List (Nat×Value)} (hd:∀ j∈deps,D j) (t:Nat) (v:Value):∀ {vals:List (Nat×Nat×Value)},zum deps σ t vals=some v→(dl D vals++σ).lookup t=some v
  | [],h=>h
  | (i,t',v')::r,h=>by
    unfold zum at h
    cases hb:Nat.beq t t' with
    | true =>
      rw [hb] at h; dsimp only at h
      have e:t=t':=Nat.eq_of_beq_eq_true hb
      subst e
      split at h
      · cases h
        have hD:D i:=hd i (by simpa using (by assumption:deps.contains i=true))
        simp only [dl]
        rw [if_pos hD]
        simp
      · cases h
    | false =>
      rw [hb] at h; dsimp only at h
      have ih:=zlP (σ:=σ) hd t v h
      have hn:(t==t')=false:=by
        have:t≠t':=Nat.ne_of_beq_eq_false hb
        simpa using this
      simp only [dl]
      split
      · simp only [List.cons_append,List.lookup,hn]; exact ih
      · exact ih
def zrF (N:Nat) (ops:Array Oper) (σ:List (Nat×Value)) (vals:List (Nat×Nat×Value)):Nat→List Oper→Nat→Option (List Oper×Nat×List (Nat×Nat×Value))
  | 0,r,i=>some (r,i,[])
  | n+1,o::r,i=>match zul (fun t=>zum (zc1 o) σ t vals) N ops o with
    | some p=>match zrF N ops σ vals n r (i+1) with
      | some q=>some (q.1,q.2.1,(i,p.1,p.2)::q.2.2)
      | none=>none
    | none=>none
  | _+1,[],_=>none
section
variable {F:Fence} {P:Program} {w0:World} {K:Nat→Prop} {N:Nat} {dfs:List Deferred} {Q:Exit→Act→World→Prop} {σ:List (Nat×Value)} {L:List Asn} {ops:Array Oper}
theorem zhT {vals:List (Nat×Nat×Value)} {n m i i':Nat} {o:Oper} {r rest':List Oper} (e:zrF N ops σ vals (n+1) (o::r) i=some (rest',i',(vals.drop m).take (n+1))) :
    ∃ t v,zul (fun t=>zum (zc1 o) σ t vals) N ops o=some (t,v)∧vals[m]?=some (i,t,v)∧zrF N ops σ vals n r (i+1)=some (rest',i',(vals.drop (m+1)).take n):=by
  simp only [zrF] at e
  split at e
  · rename_i p hp
    split at e
    · rename_i q hq
      obtain ⟨q1,q2,q3⟩:=q
      simp only [Option.some.injEq,Prod.mk.injEq] at e
      obtain ⟨rfl,rfl,e⟩:=e
      cases hdr:vals.drop m with
      | nil=>rw [hdr] at e; simp at e
      | cons x xs =>
        rw [hdr,List.take_succ_cons,List.cons.injEq] at e
        have hm:vals[m]?=some x:=by
          have:(vals.drop m)[0]?=some x:=by rw [hdr]; rfl
          simpa using this
        refine ⟨p.1,p.2,hp,by rw [hm,← e.1],?_⟩
        have:vals.drop (m+1)=xs:=by rw [← List.drop_drop,hdr]; rfl
        rw [this,← e.2]; exact hq
    · cases e
  · cases e
theorem zyP [WideF F] {vals:List (Nat×Nat×Value)} (n m:Nat):∀ {l rest':List Oper} {i i':Nat},zrF N ops σ vals n l i=some (rest',i',(vals.drop m).take n) →
    DrawPre F P w0 K N dfs Q ops σ L vals rest' i'→DrawPre F P w0 K N dfs Q ops σ L vals l i:=by
  induction n generalizing m with
  | zero=>intro l rest' i i' e h; cases e; exact h
  | succ n ih =>
    intro l rest' i i' e h
    cases l with
    | nil=>cases e
    | cons o r =>
      obtain ⟨t,v,h1,h2,h3⟩:=zhT e
      exact zae (fun D hn hd hcl hu hi=>zlO (fun t v h=>zlP hd t v h) h1 (zaf m hu hi h2)) (ih (m+1) h3 h)
theorem zyE [WideF F] {vals:List (Nat×Nat×Value)} {x:Nat} (n m:Nat):∀ {l rest':List Oper} {i i':Nat},zrF N ops σ vals n l i=some (rest',i',(vals.drop m).take n) →
    DrawPreX F P w0 K N dfs Q ops σ L vals x rest' i'→DrawPreX F P w0 K N dfs Q ops σ L vals x l i:=by
  induction n generalizing m with
  | zero=>intro l rest' i i' e h; cases e; exact h
  | succ n ih =>
    intro l rest' i i' e h
    cases l with
    | nil=>cases e
    | cons o r =>
      obtain ⟨t,v,h1,h2,h3⟩:=zhT e
      exact zas (fun D hn hd hcl hu hi=>zlO (fun t v h=>zlP hd t v h) h1 (zaf m hu hi h2)) (ih (m+1) h3 h)
def zyQ {β:Type} (S:List Nat) (LL:(Nat→Prop)→β→List Asn):Prop:=∀ i,S.contains i=false→∀ D b,LL (fun j=>D j∨j=i) b=LL D b
theorem zja {D:Nat→Prop} {i:Nat} {base:Asn} {r:List (Nat×Asn)} {S:List Nat} (hs:(r.map Prod.fst).all (fun x=>S.contains x)=true) (h:S.contains i=false):eD (fun j=>D j∨j=i) base r=eD D base r:=by
  refine zam ?_
  cases hc:(r.map Prod.fst).contains i with
  | false=>rfl
  | true =>
    have h1:i∈r.map Prod.fst:=by simpa using hc
    have h2:=List.all_eq_true.1 hs i h1
    have h3:S.contains i=true:=h2
    rw [h] at h3; cases h3
theorem zvU {β:Type} {vals:β→List (Nat×Nat×Value)} {LL:(Nat→Prop)→β→List Asn} (hb:¬ Nonempty β):∀ (l:List Oper) (i:Nat),DrawG F P w0 K N dfs Q ops σ vals LL l i
  | [],_=>trivial
  | o::r,i=>⟨fun D b=>absurd ⟨b⟩ hb,zvU hb r (i+1)⟩
theorem zyq {β:Type} {vals:β→List (Nat×Nat×Value)} {LL:(Nat→Prop)→β→List Asn} {S:List Nat} {o:Oper} {rest:List Oper} {i:Nat} (hq:zyQ S LL) (hs:S.contains i=false)
    (hu:∀ b,zcW ((vals b).map (fun p=>p.2.1))=true) (hi:∀ b,zcW ((vals b).map (fun p=>p.1))=true)
    (h:∀ (D:Nat→Prop) (b:β),¬ D i→(∀ j∈zc1 o,D j)→Clo ops D→zcW ((vals b).map (fun p=>p.2.1))=true→zcW ((vals b).map (fun p=>p.1))=true →
      TO F P w0 K N dfs ops (Exit.then (fun a w=>At N dfs (dl (fun j=>D j∨j=i) (vals b)++σ) a∧Holds w0 K (LL D b) w) Q) [o] (dl D (vals b)++σ) (LL D b))
    (hr:DrawG F P w0 K N dfs Q ops σ vals LL rest (i+1)):DrawG F P w0 K N dfs Q ops σ vals LL (o::rest) i :=
  zat (fun D b hn hd hcl a w ha hw=>by
    have h0:=h D b hn hd hcl (hu b) (hi b) a w ha hw
    exact zbQ (fun a' w' h2=>⟨b,h2.1,by rw [hq i hs D b]; exact h2.2⟩) h0) hr
theorem zlc [WideF F] {β:Type} {vals:β→List (Nat×Nat×Value)} {LL:(Nat→Prop)→β→List Asn} {S:List Nat} (hq:zyQ S LL)
    (hu:∀ b,zcW ((vals b).map (fun p=>p.2.1))=true) (hi:∀ b,zcW ((vals b).map (fun p=>p.1))=true) (n m:Nat):∀ {l rest':List Oper} {i i':Nat},
    (∀ b,zrF N ops σ (vals b) n l i=some (rest',i',((vals b).drop m).take n))→(List.range n).all (fun j=>!S.contains (i+j))=true →
    DrawG F P w0 K N dfs Q ops σ vals LL rest' i'→DrawG F P w0 K N dfs Q ops σ vals LL l i:=by
  induction n generalizing m with
  | zero =>
    intro l rest' i i' e hs h
    by_cases hb:Nonempty β
    · obtain ⟨b⟩:=hb
      have e:=e b
      simp only [zrF,Option.some.injEq,Prod.mk.injEq] at e
      obtain ⟨rfl,rfl,_⟩:=e
      exact h
    · exact zvU hb _ _
  | succ n ih =>
    intro l rest' i i' e hs h
    by_cases hb:Nonempty β
    · obtain ⟨b0⟩:=hb
      cases l with
      | nil=>exact absurd (e b0) (by simp [zrF])
      | cons o r =>
        have hs0:S.contains i=false:=by
          have:=List.all_eq_true.1 hs 0 (by simp)
          simpa using this
        have hs1:(List.range n).all (fun j=>!S.contains (i+1+j))=true:=by
          refine List.all_eq_true.2 fun j hj => ?_
          have:=List.all_eq_true.1 hs (j+1) (by simp at hj ⊢; omega)
          rwa [show i+(j+1)=i+1+j by omega] at this
        refine zyq hq hs0 hu hi (fun D b hn hd hcl hu' hi' => ?_) (ih (m+1) (fun b => ?_) hs1 h)
        · obtain ⟨t,v,h1,h2,h3⟩:=zhT (e b)
          exact zlO (fun t v h=>zlP hd t v h) h1 (zaf m hu' hi' h2)
        · obtain ⟨t,v,h1,h2,h3⟩:=zhT (e b)
          exact h3
    · exact zvU hb _ _
end
section
variable {F:Fence} {P:Program} {w0:World} {K:Nat→Prop} {N:Nat} {dfs:List Deferred} {Q:Exit→Act→World→Prop} {σ:List (Nat×Value)} {L:List Asn} {ops:Array Oper}
theorem zgj {β:Type} {vals:β→List (Nat×Nat×Value)} {LL:(Nat→Prop)→β→List Asn} {S:List Nat} {o:Oper} {rest:List Oper} {i:Nat} (hq:zyQ S LL) (hs:S.contains i=false)
    (hu:∀ b,zcW ((vals b).map (fun p=>p.2.1))=true) (hi:∀ b,zcW ((vals b).map (fun p=>p.1))=true)
    (h:∀ (D:Nat→Prop) (b:β),¬ D i→(∀ j∈zc1 o,D j)→Clo ops D→zcW ((vals b).map (fun p=>p.2.1))=true→zcW ((vals b).map (fun p=>p.1))=true→∃ L',LL D b=L' ∧
      TO F P w0 K N dfs ops (Exit.then (fun a w=>At N dfs (dl (fun j=>D j∨j=i) (vals b)++σ) a∧Holds w0 K L' w) Q) [o] (dl D (vals b)++σ) L')
    (hr:DrawG F P w0 K N dfs Q ops σ vals LL rest (i+1)):DrawG F P w0 K N dfs Q ops σ vals LL (o::rest) i :=
  zyq hq hs hu hi (fun D b hn hd hcl hu hi=>by obtain ⟨L',e,h0⟩:=h D b hn hd hcl hu hi; rw [e]; exact h0) hr
end
section
variable {R:Type} {F:Fence} {P:Program} {w0:World} {K:Nat→Prop} {N:Nat} {dfs:List Deferred} {ops:Array Oper} {Q:Exit→Act→World→Prop} {rest:List Oper} {σ:List (Nat×Value)} {L:List Asn} {x:Operand} {c c1 c2:Code} {p q:Option R} {r:R} {b:Bool}
theorem zyB (hc:ev σ x=some (.bool b)) (h:zax b p q=some r) (ht:p=some r→TC F P w0 K N dfs Q c1 σ L) (hf:q=some r→TC F P w0 K N dfs Q c2 σ L):TC F P w0 K N dfs Q (.cond x c1 c2) σ L:=zsC hc (fun e=>ht (zg9 e h)) (fun e=>hf (zha e h))
theorem zaW [WideF F] {b:BinOp} {t yt ty:TypeId} {d:Nat} {pos:String} {aft:Array Edge} {g:Option (Nat×Bool)} {x y:Operand} {v v1 v2:Value} (e:(gd ops σ g,decide (d<N),ev σ x,ev σ y)=(some true,true,some v1,some v2))
    (hb:∀ w:World,(do eqGuard b t x y v1 v2; binOp b t v1 v2:Sem Value).run P w=.ok v w) (h:TO F P w0 K N dfs ops Q rest ((d,v)::σ) L) :
    TO F P w0 K N dfs ops Q (⟨some d,.binOp b t x y yt,ty,pos,aft,g⟩::rest) σ L:=by
  simp only [Prod.mk.injEq] at e
  exact zcc e.1 (of_decide_eq_true e.2.1) e.2.2.1 e.2.2.2 hb h
theorem zyN (h:TC F P w0 K N dfs Q c σ L):TO F P w0 K N dfs ops (Exit.then (c.wpIn F 0 P Q) Q) [] σ L:=zaX (zaI h)
theorem zyG {id:Nat} {l:List Oper} (h:TO F P w0 K N dfs l.toArray (Exit.then (c.wpIn F 0 P Q) Q) l σ L):TC F P w0 K N dfs Q (.seq (.region id l.toArray false) c) σ L:=zaH (zaB h)
theorem zyH {id:Nat} {l:List Oper} (h:TO F P w0 K N dfs l.toArray (Exit.then (c.wpIn F 0 P Q) Q) l σ L):TO F P w0 K N dfs ops (Exit.then ((Code.seq (.region id l.toArray false) c).wpIn F 0 P Q) Q) [] σ L:=zaX (zaI (zaH (zaB h)))
theorem zyS {s:Nat} (hs:σ.lookup s=some (.bool b)) (h:zax b p q=some r) (ht:p=some r→TO F P w0 K N dfs ops Q rest ((s,.bool true)::σ) L) (hf:q=some r→TO F P w0 K N dfs ops Q rest ((s,.bool false)::σ) L):TO F P w0 K N dfs ops Q rest σ L:=zsy hs (fun e=>ht (zg9 e h)) (fun e=>hf (zha e h))
theorem zyO (h:zax b p q=some r) (ht:p=some r→TO F P w0 K N dfs ops Q rest σ L) (hf:q=some r→TO F P w0 K N dfs ops Q rest σ L):TO F P w0 K N dfs ops Q rest σ L:=zeq (b:=b) (fun e=>ht (zg9 e h)) (fun e=>hf (zha e h))
theorem zyC (h:zax b p q=some r) (ht:p=some r→TC F P w0 K N dfs Q c σ L) (hf:q=some r→TC F P w0 K N dfs Q c σ L):TC F P w0 K N dfs Q c σ L:=zfH (b:=b) (fun e=>ht (zg9 e h)) (fun e=>hf (zha e h))
abbrev zxn (F:Fence) (P:Program) (w0:World) (K:Nat→Prop) (N:Nat) (dfs:List Deferred) (ops:Array Oper) (Q:Exit→Act→World→Prop) (rest:List Oper) (σ:List (Nat×Value)) (L:List Asn):Prop:=TO F P w0 K N dfs ops Q rest σ L
end
abbrev zr0 (x:Gapi_Layout):List Value:=[zI x.Width,zI x.Height,zI x.Turn,zI x.Every]
abbrev zr1 (x:Gapi_Verse):List Value:=[.string x.Text,zI x.Indent,zI x.Stanza,zI x.In,zI x.Span_From,zI x.Span_To]
abbrev zr2 (x:Gapi_Cell):List Value:=[zI x.Span_From,zI x.Span_To,zI x.Columns]
abbrev zr3 (x:Gapi_Piece):List Value:=[zI x.At,zI x.Width,.int .i32 x.Rune,.bool x.Broken]
abbrev zr4 (x:Gapi_Row):List Value:=[zI x.Line,zI x.Stanza,zI x.Part,zI x.Indent,zI x.Number,.string x.Text]
abbrev zr5 (x:Gapi_Span):List Value:=[zI x.From,zI x.To]
abbrev zr6 (x:Gapi_Spot):List Value:=[zI x.Err,zI x.At]
abbrev zr7 (x:Gpage_best):List Value:=[zI x.cost,zI x.rows,zI x.to_]
abbrev zv0 (v:Value):=vec (zso (.i64)) 3 1 v
abbrev zv1 (v:Value):=vec zcG 33 6 v
abbrev zv2 (v:Value):=vec zbu 76 6 v
abbrev zv3 (v:Value):=vec zdw 38 2 v
abbrev zv4 (v:Value):=vec zdo 157 4 v
abbrev zv5 (v:Value):=vec zd2 155 5 v
abbrev zv6 (v:Value):=vec ze5 40 3 v
abbrev zv7 (v:Value):=vec zjl 9 1 v
abbrev zv8 (v:Value):=vec zhz 176 3 v
abbrev zv9 (v:Value):=vec zaD 70 1 v
def ze0 (r1:Int):Option Int :=
zbr (fun (j1:Option Int) =>
zax ((r1:Int) != 65533) (
zax (decide (Utf8.encode r1=(⟨#[239,191,189]⟩:ByteArray))) (
some 0
) (
j1
)
) (
j1
)
) (
some ((Utf8.encode r1).size:Int)
)
theorem zk0 {r1:Int} {r:Int} (h:ze0 r1=some r):FnP Tryz.prog 102 [.int .i32 r1] (zI r):=by
 unfold ze0 at h
 refine FnP.intro Tryz.func102 rfl Tryz.ntmps102 (by simp) ?_
 intro w0 K
 obtain ⟨j1,hj1,h⟩:=zbO h
 refine zaY (β:=Unit) 1 rfl (fun b=>j1=some r) (fun b=>[]) (fun b=>[(0,.int .i32 r1)]) (fun b=>[]) (fun cut => ?_) ?_
 ·
  refine zyG (zyR 1 rfl (zyN (cut (zyG (zyR 1 rfl (zaW rfl zbP (zyR 1 rfl ?_)))))))
  refine zyS (s:=5) rfl h (fun h => ?_) (fun h => ?_)
  ·
   refine zyR 1 rfl (zi8 rfl dc rfl (ziw Tryz.underlying21 Tryz.underlying9) (zaW rfl zgu (zyR 1 rfl (zyN ?_))))
   refine zyB rfl h (fun h => ?_) (fun h => ?_)
   ·
    refine zyG (zyR 1 rfl (zyN (zaA (zai ?_))))
    cases h
    exact zaF (rs:=[.tmp 2]) () (.inl rfl) Tryz.results102 (.cons (.tmp rfl) .nil) rfl Splits.nil
   refine zau ?_
   exact zaq () h rfl (zba rfl) Splits.nil
  refine zyR 4 rfl (zyN (zaT rfl (zau ?_)))
  exact zaq () h rfl (zba rfl) Splits.nil
 rintro _ h
 rw [hj1] at h
 refine zyG (zyR 1 rfl (zi8 rfl dc rfl (ziw Tryz.underlying21 Tryz.underlying9) (zbl rfl dc rfl Tryz.underlying9 (zyR 1 rfl (zyN (zaA ?_))))))
 cases h
 exact zaF (rs:=[.tmp 2]) () (.inl rfl) Tryz.results102 (.cons (.tmp rfl) .nil) rfl Splits.nil
def zel (s1:ByteArray) (at1:Int) (j1:Option Gapi_Piece) (ag1:Option Gapi_Piece):Option Gapi_Piece :=
zax (decide (0<(pcs (zbE s1 at1 (s1.size:Int)).data.toList).length)) (
zak ((pcs (zbE s1 at1 (s1.size:Int)).data.toList)[0]?) fun (p1:Pc) =>
zbr (fun (j2:Int→Option Gapi_Piece) =>
zak (ze0 (p1.r:Int)) fun (r1:Int) =>
zax (((p1.r:Int):Int)==65533) (
grd (I64 ((s1.size:Int) - at1)) <|
zax (decide ((((s1.size:Int) - at1):Int)<3)) (
some (⟨at1,1,65533,true⟩:Gapi_Piece)
) (
grd (I64 (at1+3)) <|
grd (0≤(at1:Int)∧(at1:Int)≤(at1+3)∧(at1+3:Int)≤(s1.size:Int)) <|
zax (!decide (zbE s1 at1 (at1+3)=(⟨#[239,191,189]⟩:ByteArray))) (
some (⟨at1,1,65533,true⟩:Gapi_Piece)
) (
j2 r1
)
)
) (
j2 r1
)
) (fun (n2:Int) =>
some (⟨at1,n2,(p1.r:Int),false⟩:Gapi_Piece)
)
) (
j1
)
def zeQ (s1:ByteArray) (at1:Int):Option Gapi_Piece :=
zbr (fun (j1:Option Gapi_Piece) =>
grd (0≤(at1:Int)∧(at1:Int)≤(s1.size:Int)∧((s1.size:Int):Int)≤(s1.size:Int)) <|
zaM none (zel s1 at1 j1) zb4
) (
some (⟨0,0,0,false⟩:Gapi_Piece)
)
theorem zl4 {s1:ByteArray} {at1:Int} {r:Gapi_Piece} (h:zeQ s1 at1=some r):FnP Tryz.prog 70 [.string s1,zI at1] (.agg (zr3 r).toArray):=by
 unfold zeQ at h
 refine FnP.intro Tryz.func70 rfl Tryz.ntmps70 (by simp) ?_
 intro w0 K
 obtain ⟨j1,hj1,h⟩:=zbO h
 refine zaY (β:=Nat) 1 rfl (fun b=>j1=some r) (fun b=>[]) (fun b=>[(4,zP b)]) (fun b=>[cells b [zI 0,zI 0,.int .i32 0,.bool false] 85]) (fun cut => ?_) ?_
 ·
  refine zyG ?_
  refine zbg zte rfl dc (fun b2 => ?_)
  refine zyN (cut (zyG (zyR 2 rfl ?_)))
  obtain ⟨hg1,h⟩:=zbw h
  refine zd8 rfl dc rfl rfl rfl (zb9 (i:=at1) (j:=(s1.size:Int)) Tryz.underlying9 (.inr rfl) (.inl ⟨rfl,rfl⟩) hg1) ?_
  refine zej Tryz.underlying9 rfl dc rfl (fun b3 => ?_)
  refine zyN (zaG ?_)
  refine zbt (β:=Nat) (fun b=>zaM none (zel s1 at1 j1) b=some r) (fun b=>[]) (fun b=>[(0,.string s1),(1,zI at1),(4,zP b2),(11,zP b3)]) (fun b=>[cells b2 [zI 0,zI 0,.int .i32 0,.bool false] 85,obj b3 (.stringIter (zbE s1 at1 (s1.size:Int)) (zfr (zbE s1 at1 (s1.size:Int)) 0))]) (fun b=>b) zb4 h rfl (zba rfl) (zad [0,1] kr rfl) ?_
  rintro n1 h
  cases n1 with
  | zero=>exact zdG h
  | succ n1 =>
   obtain ⟨ag1,hag1⟩:∃ ag,ag=zaM none (zel s1 at1 j1) n1:=⟨_,rfl⟩
   have h:zel s1 at1 j1 ag1=some r:=by rw [hag1]; exact h
   unfold zel at h
   refine zyG ?_
   refine zeq (b:=decide (0<(pcs (zbE s1 at1 (s1.size:Int)).data.toList).length)) (fun hb1 => ?_) (fun hb1 => ?_)
   ·
    have h:=zg9 hb1 h
    obtain ⟨p1,hq1,h⟩:=zbx h
    refine zeV (k:=1) (m:=0) (p:=p1) rfl dc rfl rfl hq1 (zaJ rfl dc rfl rfl (zyN (zaH (zbd rfl (zau (zaI (zaG ?_)))))))
    obtain ⟨j2,hj2,h⟩:=zbO h
    refine zaY (β:=Int) 2 rfl (fun b=>j2 b=some r) (fun b=>[]) (fun b=>[(1,zI at1),(4,zP b2),(6,.int .i32 (p1.r:Int)),(7,zI b)]) (fun b=>[cells b2 [zI 0,zI 0,.int .i32 0,.bool false] 85]) (fun cut => ?_) ?_
    ·
     refine zyG (zaJ rfl dc rfl rfl (zyR 1 rfl (zyH (zyR 1 rfl ?_))))
     obtain ⟨r1,hq2,h⟩:=zbx h
     refine zbc (v:=zI r1) (vs:=[.int .i32 (p1.r:Int)]) rfl dc rfl rfl rfl zvl (zk0 hq2) (zyR 1 rfl (zyN (cut (zyG (zyR 1 rfl (zaW rfl za1 (zyR 1 rfl ?_)))))))
     refine zyS (s:=19) rfl h (fun h => ?_) (fun h => ?_)
     ·
      refine zyR 1 rfl (zbl rfl dc rfl Tryz.underlying9 (zyR 1 rfl ?_))
      obtain ⟨hg2,h⟩:=zbw h
      refine zaW rfl (zcd (r:=(s1.size:Int) - at1) (IntWalk.i64_in _ hg2)) (zaW rfl zbA (zyR 1 rfl ?_))
      refine zyS (s:=25) rfl h (fun h => ?_) (fun h => ?_)
      ·
       refine zyR 8 rfl (zyN (zbd rfl (zyG (zyR 1 rfl ?_))))
       refine zbb (v:=.agg #[zI at1,zI 1,.int .i32 65533,.bool true]) (ps:=[(0,.tmp 34),(1,.const (zI 1)),(2,.const (.int .i32 65533)),(3,.const (.bool true))]) rfl dc rfl (fun _=>by kernel_rfl) ?_
       refine zaU (k:=0) (vs:=[zI at1,zI 1,.int .i32 65533,.bool true]) (l':=[zI at1,zI 1,.int .i32 65533,.bool true]) zlU rfl rfl rfl rfl rfl (show _≤_ by simp) rfl rfl ?_
       refine zyN (zaA (zai (zal (zai (zal (zai ?_))))))
       cases h
       exact zaF (rs:=[.cell 4 85]) () (.inl rfl) Tryz.results70 (.cons (.cells zgG (k:=0) rfl rfl rfl) .nil) rfl Splits.nil
      refine zyR 3 rfl ?_
      obtain ⟨hg3,h⟩:=zbw h
      refine zaW rfl (zaV (r:=at1+3) (IntWalk.i64_in _ hg3)) ?_
      obtain ⟨hg4,h⟩:=zbw h
      refine zd8 rfl dc rfl rfl rfl (zb9 (i:=at1) (j:=at1+3) Tryz.underlying9 (.inr rfl) (.inr rfl) hg4) (zaW rfl ziz (zyR 2 rfl (zyN ?_)))
      refine zyB rfl h (fun h => ?_) (fun h => ?_)
      ·
       refine zyG (zyR 1 rfl ?_)
       refine zbb (v:=.agg #[zI at1,zI 1,.int .i32 65533,.bool true]) (ps:=[(0,.tmp 34),(1,.const (zI 1)),(2,.const (.int .i32 65533)),(3,.const (.bool true))]) rfl dc rfl (fun _=>by kernel_rfl) ?_
       refine zaU (k:=0) (vs:=[zI at1,zI 1,.int .i32 65533,.bool true]) (l':=[zI at1,zI 1,.int .i32 65533,.bool true]) zlU rfl rfl rfl rfl rfl (show _≤_ by simp) rfl rfl ?_
       refine zyN (zaA (zai (zal (zai (zal (zai ?_))))))
       cases h
       exact zaF (rs:=[.cell 4 85]) () (.inl rfl) Tryz.results70 (.cons (.cells zgG (k:=0) rfl rfl rfl) .nil) rfl Splits.nil
      refine zau ?_
      exact zaq r1 h rfl (zba rfl) (zad [0] kr rfl)
     refine zyR 14 rfl ?_
     refine zyN (zaT rfl (zau ?_))
     exact zaq r1 h rfl (zba rfl) (zad [0] kr rfl)
    rintro n2 h
    rw [hj2] at h
    refine zyG (zyR 3 rfl ?_)
    refine zbb (v:=.agg #[zI at1,zI n2,.int .i32 (p1.r:Int),.bool false]) (ps:=[(0,.tmp 36),(1,.tmp 37),(2,.tmp 38)]) rfl dc rfl (fun _=>by kernel_rfl) ?_
    refine zaU (k:=0) (vs:=[zI at1,zI n2,.int .i32 (p1.r:Int),.bool false]) (l':=[zI at1,zI n2,.int .i32 (p1.r:Int),.bool false]) zlU rfl rfl rfl rfl rfl (show _≤_ by simp) rfl rfl (zyN (zaA (zal (zai (zal (zai ?_))))))
    cases h
    exact zaF (rs:=[.cell 4 85]) () (.inl rfl) Tryz.results70 (.cons (.cells zgG (k:=0) rfl rfl rfl) .nil) rfl Splits.nil
   have h:=zha hb1 h
   refine zeW (k:=1) (m:=0) rfl dc rfl rfl (Nat.le_of_not_lt (of_decide_eq_false hb1)) (zaJ rfl dc rfl rfl (zyN (zaH (zaT rfl (za9 (zap (zap (zaz ?_))))))))
   exact zaq b2 h rfl (zba rfl) (zad [0] kr rfl)
 rintro b1 h
 rw [hj1] at h
 refine zyG ?_
 refine zbb (v:=.agg #[zI 0,zI 0,.int .i32 0,.bool false]) (ps:=[]) rfl dc rfl (fun _=>by kernel_rfl) ?_
 refine zaU (k:=0) (vs:=[zI 0,zI 0,.int .i32 0,.bool false]) (l':=[zI 0,zI 0,.int .i32 0,.bool false]) zlU rfl rfl rfl rfl rfl (show _≤_ by simp) rfl rfl (zyN (zaA ?_))
 cases h
 exact zaF (rs:=[.cell 4 85]) () (.inl rfl) Tryz.results70 (.cons (.cells zgG (k:=0) rfl rfl rfl) .nil) rfl Splits.nil
def zcB (c0:ByteArray) (ag1:Nat→Option (List Gapi_Piece)) (m3:Nat):Option (List Gapi_Piece) :=
zax (decide (m3<(pcs c0.data.toList).length)) (
zak ((pcs c0.data.toList)[m3]?) fun (p1:Pc) =>
zak (zeQ c0 (p1.i:Int)) fun (r1:Gapi_Piece) =>
zgK r1 <|
ag1 (m3+1)
) (
some []
)
def zdW (c0:ByteArray):Option (List Gapi_Piece) :=
zaM (fun _=>none) (zcB c0) zb4 0
theorem zh0 {b_c0:Nat} {c0:ByteArray} {xs:(List Gapi_Piece)} (h:zdW c0=some xs):Itr Tryz.prog 69 [zP b_c0] (fun q:Gapi_Piece=>[.agg (zr3 q).toArray]) xs [(b_c0,.cells #[.string c0] 9 (0,0))]:=by
 unfold zdW at h
 refine Itr.intro Tryz.func69 rfl Tryz.ntmps69 (by simp) ?_
 intro l w0 K I X hRo hy
 obtain ⟨r0,hx0⟩:∃ r,xs=[]++r:=⟨xs,rfl⟩
 have hr0:xs=r0:=hx0
 rw [hr0] at h
 refine zyG (zkM (i:=0) hRo zjc rfl dc rfl rfl rfl ?_)
 refine zej Tryz.underlying9 rfl dc rfl (fun b1 => ?_)
 refine zyN (zaG ?_)
 refine zbt (β:=Nat×Nat×(List Gapi_Piece)×(List Gapi_Piece)) (fun b=>zaM (fun _=>none) (zcB c0) b.1 b.2.1=some b.2.2.2∧xs=b.2.2.1++b.2.2.2) (fun b=>[]) (fun b=>[(0,.func (.yield l) #[] #[]),(1,zP b_c0),(5,zP b1)]) (fun b=>[I b.2.2.1,obj b1 (.stringIter c0 (zfr c0 b.2.1))]) (fun b=>b.1) (zb4,0,([]:List Gapi_Piece),r0) ⟨h,hx0⟩ rfl (zba rfl) (zad [0,1] kr rfl) ?_
 rintro ⟨n1,m3,acc3,rr3⟩ ⟨h,hx3⟩
 cases n1 with
 | zero=>exact zdG h
 | succ n1 =>
  obtain ⟨ag1,hag1⟩:∃ ag,ag=zaM (fun _=>none) (zcB c0) n1:=⟨_,rfl⟩
  have h:zcB c0 ag1 m3=some rr3:=by rw [hag1]; exact h
  unfold zcB at h
  refine zyG ?_
  refine zeq (b:=decide (m3<(pcs c0.data.toList).length)) (fun hb1 => ?_) (fun hb1 => ?_)
  ·
   have h:=zg9 hb1 h
   obtain ⟨p1,hq1,h⟩:=zbx h
   refine zeV (k:=1) (m:=m3) (p:=p1) rfl dc rfl rfl hq1 (zaJ rfl dc rfl rfl (zyN (zaH (zbd rfl (zau (zaI (zaG (zyG (zaJ rfl dc rfl rfl (zyR 1 rfl (zaX ?_)))))))))))
   refine zaI (zyG (zyR 1 rfl (zkM (i:=0) hRo zjc rfl dc rfl rfl rfl (zyR 1 rfl ?_))))
   obtain ⟨r1,hq2,h⟩:=zbx h
   refine zbc (v:=.agg (zr3 r1).toArray) (vs:=[.string c0,zI (p1.i:Int)]) rfl dc rfl rfl rfl zwv (zl4 hq2) ?_
   obtain ⟨rr4,hr1,h⟩:=zjt h
   have hx4:xs=acc3++r1::rr4:=by rw [hx3,hr1]
   refine zeG hy rfl dc rfl hx4 rfl (k:=0) rfl ?_ ?_
   ·
    have hx5:xs=(acc3++[r1])++rr4:=by rw [hx4]; simp
    refine zdJ rfl dc rfl zcA (zyN (zaT rfl (zau (zah ?_))))
    subst hag1
    exact za4 (n1,m3+1,acc3++[r1],rr4) ⟨h,hx5⟩ (Nat.lt_succ_self _) rfl (zba rfl) (zad [0,1] kr rfl)
   refine zdJ rfl dc rfl zcA (zyN (zbd rfl (zaA (zal (zai (zal ?_))))))
   exact zkL (ds:=[]) acc3 r1 rr4 hx4 (.inl rfl) Splits.nil Tryz.results69 (zad [0] kr rfl)
  have h:=zha hb1 h
  refine zeW (k:=1) (m:=m3) rfl dc rfl rfl (Nat.le_of_not_lt (of_decide_eq_false hb1)) (zaJ rfl dc rfl rfl (zyN (zaH (zaT rfl (za9 (zap (zap (zaz ?_))))))))
  cases h
  exact zkK (ds:=[]) (.inr rfl) Splits.nil Tryz.results69 (congrArg I (hx3.trans (List.append_nil _))) (zad [0] kr rfl)
def zf6 (s1:ByteArray):Option ByteArray :=
some s1
theorem zj1 {s1:ByteArray} {r:ByteArray} (h:zf6 s1=some r):Fn Tryz.prog 34 [.string s1] [] (fun v0:Nat=>.func (.func 69) #[] #[zP v0]) (fun v0=>[cells v0 [.string r] 9]):=by
 unfold zf6 at h
 refine Fn.intro Tryz.func34 rfl Tryz.ntmps34 (by simp) ?_
 intro w0 K
 refine zyG ?_
 refine zdQ rfl dc rfl (fun b1 => ?_)
 refine zyR 1 rfl (zyH (zgy (x1:=[]) (x2:=[.tmp 1]) rfl dc rfl rfl (zyR 1 rfl (zyN (zaA ?_)))))
 cases h
 exact zaF (rs:=[.tmp 2]) b1 (.inl rfl) Tryz.results34 (.cons (.tmp rfl) .nil) rfl (zad [0] kr rfl)
end Go.Proofs.YtbempdelckaccaaGreatDoor


namespace Go.Proofs.YtbempdelckaccaaGreatDoor
open Go.RowKit Go.Lib
set_option linter.unusedVariables false
set_option linter.unusedSimpArgs false
theorem zq2 (r:Int) (hv:0≤r∧(r<55296∨(57343<r∧r≤1114111))) (hr:¬ r=65533):¬ Utf8.encode r=⟨#[239,191,189]⟩:=by
 intro h
 obtain ⟨n,rfl⟩:=Int.eq_ofNat_of_zero_le hv.1
 have h1:encodeRune ((n:Nat):Int)=[239,191,189]:=by rw [← zhN,h]
 have h2:=zoe n (by omega) []
 have h3:=zoe 65533 (by omega) []
 rw [h1] at h2
 rw [zoV] at h3
 rw [h2] at h3
 have:=(Prod.mk.inj h3).1
 omega
theorem ztn (r:Int) (hv:vr r):ze0 r=some ((Utf8.encode r).size:Int):=by
 unfold ze0
 refine zbF ?_
 by_cases h:r=65533
 ·exact zaw (bne_eq_false_iff_eq.2 h) rfl
 ·exact zay (bne_iff_ne.2 h) (zaw (decide_eq_false (zq2 r (by unfold vr at hv; omega) h)) rfl)
theorem zwe (s:ByteArray) (a:Nat) (ha:a<s.size) (hsz:s.size≤9223372036854775000):zeQ s (a:Int)=some (pcG ⟨a,(decodeL (s.data.toList.drop a)).2,(decodeL (s.data.toList.drop a)).1⟩):=by
 unfold zeQ
 obtain ⟨F,hF,_⟩:=zn5 1 (by omega)
 rw [hF]
 refine zbF (zbM ⟨by omega,by omega,by omega⟩ ?_)
 rw [zeo]
 generalize zaM _ _ F=ag
 unfold zel
 have hne:s.data.toList.drop a≠[]:=by
  intro h; have:=congrArg List.length h; simp at this; omega
 have hok:=zrb _ hne
 have hlen:(s.data.toList.drop a).length=s.size - a:=by simp
 have hle:=hok.le
 have e:(zbE s (a:Int) (s.size:Int)).data.toList=s.data.toList.drop a:=by unfold zbE; exact ztJ s a
 have hp:pcs (zbE s (a:Int) (s.size:Int)).data.toList=⟨0,(decodeL (s.data.toList.drop a)).2,(decodeL (s.data.toList.drop a)).1⟩::zc7 (0+(decodeL (s.data.toList.drop a)).2) ((s.data.toList.drop a).drop (decodeL (s.data.toList.drop a)).2):=by
  rw [e]; unfold pcs; rw [zcE _ _ hne]
 have hvr:vr ((decodeL (s.data.toList.drop a)).1:Int):=by have:=hok.valid; unfold vr; omega
 refine zay (decide_eq_true (by rw [hp]; simp)) (zaN (by rw [hp]; rfl) (zbF (zaN (ztn _ hvr) ?_)))
 simp only
 unfold pcG Pc.broken
 have hw:=hok.width
 have hl3:=hok.lost_ok
 have hl1:=hok.lost_bad
 generalize decodeL (s.data.toList.drop a)=d at *
 rcases d with ⟨r,w⟩
 simp only at *
 by_cases hr:r=65533
 ·subst hr
  refine zay (by decide) (zbM ⟨by omega,by omega⟩ ?_)
  by_cases h3:(s.size:Int) - a<3
  ·refine zay (decide_eq_true h3) ?_
   have hw1:w=1:=by
    by_cases hw1:w=1
    ·exact hw1
    ·have:=(hl3 rfl hw1).2; omega
   subst hw1; rfl
  ·have e3:=zgg s a 3
   refine zaw (decide_eq_false h3) (zbM ⟨by omega,by omega⟩ (zbM ⟨by omega,by omega,by omega⟩ ?_))
   by_cases hw1:w=1
   ·refine zay ?_ (by subst hw1; rfl)
    rw [decide_eq_false]
    ·rfl
    ·intro h
     exact hl1 rfl hw1 (by rw [← e3]; exact congrArg (fun b:ByteArray=>b.data.toList) h)
   ·obtain ⟨h4,h5⟩:=hl3 rfl hw1
    refine zaw ?_ ?_
    ·rw [decide_eq_true]
     ·rfl
     ·apply ByteArray.ext; apply Array.toList_inj.1; rw [show ((a:Int)+3)=(a:Int)+(3:Nat) from rfl,e3,h4]
    ·rw [zhM,hw (by omega)]
     subst h5; rfl
 ·refine zaw (by rw [beq_eq_false_iff_ne]; omega) ?_
  rw [zhM,hw (by omega)]
  have:(r==65533&&w==1)=false:=by simp [hr]
  rw [this]
theorem ztv (s:ByteArray) (hs:s.size≤2147483648):zdW s=some ((pcs s.data.toList).map pcG):=by
 unfold zdW
 have hc:(pcs s.data.toList).length≤s.size:=by have:=znP s; unfold zl5 at this; simpa using this
 have key:∀ (n k:Nat),k≤(pcs s.data.toList).length→(pcs s.data.toList).length - k<n→zaM (fun _=>none) (zcB s) n k=some (((pcs s.data.toList).drop k).map pcG):=by
  intro n
  induction n with
  | zero=>intro k _ h; omega
  | succ n ih =>
   intro k hk hn
   rw [zeo]
   generalize zaM (fun _=>none) (zcB s) n=ag at ih ⊢
   unfold zcB
   by_cases h:k<(pcs s.data.toList).length
   ·have hx:(pcs s.data.toList)[k]?=some (pcs s.data.toList)[k]:=List.getElem?_eq_getElem h
    have hm:=List.mem_of_getElem? hx
    generalize (pcs s.data.toList)[k]=p at hx hm
    obtain ⟨g1,g2,hok⟩:=zmc s.data.toList p hm
    have hlen:s.data.toList.length=s.size:=by rw [Array.length_toList]; rfl
    have hw:=hok.pos
    have hr:zeQ s (p.i:Int)=some (pcG p):=by
     have:=zwe s p.i (by omega) (by omega)
     rw [this]
     have he:=hok.eq
     rw [he]
    refine zay (decide_eq_true h) (zaN hx (zaN hr ?_))
    rw [ih (k+1) (by omega) (by omega)]
    have hd:(pcs s.data.toList).drop k=p::(pcs s.data.toList).drop (k+1):=by
     obtain ⟨hlt,he⟩:=List.getElem?_eq_some_iff.1 hx
     rw [← he]; exact List.drop_eq_getElem_cons hlt
    rw [hd]; rfl
   ·have:k=(pcs s.data.toList).length:=by omega
    subst this
    exact zaw (decide_eq_false (by omega)) (by rw [List.drop_length]; rfl)
 have:=key zb4 0 (Nat.zero_le _) (by unfold zb4; omega)
 simpa using this
end Go.Proofs.YtbempdelckaccaaGreatDoor

namespace Go.Proofs.YtbempdelckaccaaGreatDoor
open Go.RowKit Go.Lib
set_option linter.unusedVariables false
set_option linter.unusedSimpArgs false
def zc2 (r1:Int) (j1:Option Bool) (ag1:Bool→Nat→Option Bool) (within3:Bool) (m3:Nat):Option Bool :=
zax (decide (m3<(pcs (⟨#[225,132,128,225,133,159,226,186,128,227,128,190,227,129,129,228,182,191,228,184,128,234,147,143,234,176,128,237,158,163,239,164,128,239,171,191,239,184,176,239,185,175,239,188,128,239,189,160,239,191,160,239,191,166,240,159,140,128,240,159,153,143,240,159,164,128,240,159,167,191,240,160,128,128,240,191,191,189]⟩:ByteArray).data.toList).length)) (
zak ((pcs (⟨#[225,132,128,225,133,159,226,186,128,227,128,190,227,129,129,228,182,191,228,184,128,234,147,143,234,176,128,237,158,163,239,164,128,239,171,191,239,184,176,239,185,175,239,188,128,239,189,160,239,191,160,239,191,166,240,159,140,128,240,159,153,143,240,159,164,128,240,159,167,191,240,160,128,128,240,191,191,189]⟩:ByteArray).data.toList)[m3]?) fun (p1:Pc) =>
zbr (fun (j2:Bool→Bool→Option Bool) =>
zax (!within3) (
zax (decide ((r1:Int)<(p1.r:Int))) (
some within3
) (
zax (within3) (
zax (decide ((r1:Int)≤(p1.r:Int))) (
some within3
) (
j2 true (decide ((r1:Int)≤(p1.r:Int)))
)
) (
j2 false false
)
)
) (
zax (within3) (
zax (decide ((r1:Int)≤(p1.r:Int))) (
some within3
) (
j2 true (decide ((r1:Int)≤(p1.r:Int)))
)
) (
j2 false false
)
)
) (fun (x1:Bool) (x2:Bool) =>
ag1 (!within3) (m3+1)
)
) (
j1
)
def zd3 (r1:Int):Option Bool :=
zbr (fun (j1:Option Bool) =>
zaM (fun _ _=>none) (zc2 r1 j1) zb4 false 0
) (
some false
)
theorem zkG {r1:Int} {r:Bool} (h:zd3 r1=some r):FnP Tryz.prog 72 [.int .i32 r1] (.bool r):=by
 unfold zd3 at h
 refine FnP.intro Tryz.func72 rfl Tryz.ntmps72 (by simp) ?_
 intro w0 K
 obtain ⟨j1,hj1,h⟩:=zbO h
 refine zaY (β:=Unit) 2 rfl (fun b=>j1=some r) (fun b=>[]) (fun b=>[]) (fun b=>[]) (fun cut => ?_) ?_
 ·
  refine zyG (zyR 1 rfl (zyH (zyR 1 rfl (zyN (cut (zyG ?_))))))
  refine zej Tryz.underlying9 rfl dc rfl (fun b1 => ?_)
  refine zyN (zaG ?_)
  refine zbt (β:=Nat×Bool×Nat) (fun b=>zaM (fun _ _=>none) (zc2 r1 j1) b.1 b.2.1 b.2.2=some r) (fun b=>[]) (fun b=>[(0,.int .i32 r1),(3,.bool b.2.1),(6,zP b1)]) (fun b=>[obj b1 (.stringIter (⟨#[225,132,128,225,133,159,226,186,128,227,128,190,227,129,129,228,182,191,228,184,128,234,147,143,234,176,128,237,158,163,239,164,128,239,171,191,239,184,176,239,185,175,239,188,128,239,189,160,239,191,160,239,191,166,240,159,140,128,240,159,153,143,240,159,164,128,240,159,167,191,240,160,128,128,240,191,191,189]⟩:ByteArray) (zfr (⟨#[225,132,128,225,133,159,226,186,128,227,128,190,227,129,129,228,182,191,228,184,128,234,147,143,234,176,128,237,158,163,239,164,128,239,171,191,239,184,176,239,185,175,239,188,128,239,189,160,239,191,160,239,191,166,240,159,140,128,240,159,153,143,240,159,164,128,240,159,167,191,240,160,128,128,240,191,191,189]⟩:ByteArray) b.2.2))]) (fun b=>b.1) (zb4,false,0) (by exact h) rfl (zba rfl) (zad [0] kr rfl) ?_
  rintro ⟨n1,within3,m3⟩ h
  cases n1 with
  | zero=>exact zdG h
  | succ n1 =>
   obtain ⟨ag1,hag1⟩:∃ ag,ag=zaM (fun _ _=>none) (zc2 r1 j1) n1:=⟨_,rfl⟩
   have h:zc2 r1 j1 ag1 within3 m3=some r:=by rw [hag1]; exact h
   unfold zc2 at h
   refine zyG ?_
   refine zeq (b:=decide (m3<(pcs (⟨#[225,132,128,225,133,159,226,186,128,227,128,190,227,129,129,228,182,191,228,184,128,234,147,143,234,176,128,237,158,163,239,164,128,239,171,191,239,184,176,239,185,175,239,188,128,239,189,160,239,191,160,239,191,166,240,159,140,128,240,159,153,143,240,159,164,128,240,159,167,191,240,160,128,128,240,191,191,189]⟩:ByteArray).data.toList).length)) (fun hb1 => ?_) (fun hb1 => ?_)
   ·
    have h:=zg9 hb1 h
    obtain ⟨p1,hq1,h⟩:=zbx h
    refine zeV (k:=0) (m:=m3) (p:=p1) rfl dc rfl rfl hq1 (zaJ rfl dc rfl rfl (zyN (zaH (zbd rfl (zau (zaI (zaG ?_)))))))
    obtain ⟨j2,hj2,h⟩:=zbO h
    refine zaY (β:=Bool×Bool) 1 rfl (fun b=>j2 b.1 b.2=some r) (fun b=>[]) (fun b=>[(0,.int .i32 r1),(3,.bool within3),(6,zP b1),(18,.bool within3),(19,.bool b.1),(23,.bool b.2)]) (fun b=>[obj b1 (.stringIter (⟨#[225,132,128,225,133,159,226,186,128,227,128,190,227,129,129,228,182,191,228,184,128,234,147,143,234,176,128,237,158,163,239,164,128,239,171,191,239,184,176,239,185,175,239,188,128,239,189,160,239,191,160,239,191,166,240,159,140,128,240,159,153,143,240,159,164,128,240,159,167,191,240,160,128,128,240,191,191,189]⟩:ByteArray) (zfr (⟨#[225,132,128,225,133,159,226,186,128,227,128,190,227,129,129,228,182,191,228,184,128,234,147,143,234,176,128,237,158,163,239,164,128,239,171,191,239,184,176,239,185,175,239,188,128,239,189,160,239,191,160,239,191,166,240,159,140,128,240,159,153,143,240,159,164,128,240,159,167,191,240,160,128,128,240,191,191,189]⟩:ByteArray) (m3+1)))]) (fun cut => ?_) ?_
    ·
     refine zyG (zaJ rfl dc rfl rfl (zyR 1 rfl (zyN (cut (zyG (zyR 1 rfl (zdJ rfl dc rfl zcA (zyR 1 rfl ?_))))))))
     refine zyS (s:=12) rfl h (fun h => ?_) (fun h => ?_)
     ·
      refine zyR 2 rfl (zaW rfl zbA (zyR 2 rfl ?_))
      refine zyS (s:=17) rfl h (fun h => ?_) (fun h => ?_)
      ·
       refine zyR 7 rfl (zyN (zbd rfl (zyG (zyR 2 rfl ?_))))
       refine zyN (zaA (zai (zal (zai (zal (zai ?_))))))
       cases h
       exact zaF (rs:=[.tmp 2]) () (.inl rfl) Tryz.results72 (.cons (.tmp rfl) .nil) rfl Splits.nil
      refine zyR 2 rfl ?_
      refine zyS (s:=19) rfl h (fun h => ?_) (fun h => ?_)
      ·
       refine zyR 2 rfl (zaW rfl zdP (zyR 2 rfl (zyN ?_)))
       refine zyB rfl h (fun h => ?_) (fun h => ?_)
       ·
        refine zyG (zyR 2 rfl (zyN (zaA (zai (zal (zai (zal (zai ?_))))))))
        cases h
        exact zaF (rs:=[.tmp 2]) () (.inl rfl) Tryz.results72 (.cons (.tmp rfl) .nil) rfl Splits.nil
       refine zau ?_
       exact zaq (true,decide ((r1:Int)≤(p1.r:Int))) h rfl (zba rfl) (zad [0] kr rfl)
      refine zyR 5 rfl (zyN (zaT rfl (zau ?_)))
      exact zaq (false,false) h rfl (zba rfl) (zad [0] kr rfl)
     refine zyR 7 rfl ?_
     refine zyS (s:=19) rfl h (fun h => ?_) (fun h => ?_)
     ·
      refine zyR 2 rfl (zaW rfl zdP (zyR 2 rfl (zyN ?_)))
      refine zyB rfl h (fun h => ?_) (fun h => ?_)
      ·
       refine zyG (zyR 2 rfl (zyN (zaA (zai (zal (zai (zal (zai ?_))))))))
       cases h
       exact zaF (rs:=[.tmp 2]) () (.inl rfl) Tryz.results72 (.cons (.tmp rfl) .nil) rfl Splits.nil
      refine zau ?_
      exact zaq (true,decide ((r1:Int)≤(p1.r:Int))) h rfl (zba rfl) (zad [0] kr rfl)
     refine zyR 5 rfl (zyN (zaT rfl (zau ?_)))
     exact zaq (false,false) h rfl (zba rfl) (zad [0] kr rfl)
    rintro ⟨x1,x2⟩ h
    rw [hj2] at h
    refine zaB (zyR 1 rfl (zdJ rfl dc rfl zcA (zyR 1 rfl (zaX (zah ?_)))))
    subst hag1
    exact za4 (n1,!within3,m3+1) h (Nat.lt_succ_self _) rfl (zba rfl) (zad [0] kr rfl)
   have h:=zha hb1 h
   refine zeW (k:=0) (m:=m3) rfl dc rfl rfl (Nat.le_of_not_lt (of_decide_eq_false hb1)) (zaJ rfl dc rfl rfl (zyN (zaH (zaT rfl (za9 (zap (zap (zaz ?_))))))))
   exact zaq () h rfl (zgA) Splits.nil
 rintro _ h
 rw [hj1] at h
 refine zyG (zyR 1 rfl (zyN (zaA ?_)))
 cases h
 exact zaF (rs:=[.tmp 2]) () (.inl rfl) Tryz.results72 (.cons (.tmp rfl) .nil) rfl Splits.nil
def zbv (p1:Gapi_Piece):Option Int :=
grd (I32 p1.Rune) <|
zax (((zdk p1.Broken p1.Rune):Int)==11) (
some 1
) (
zbr (fun (j1:Bool→Option Int) =>
zax (((zdk p1.Broken p1.Rune):Int)==2) (
j1 (((zdk p1.Broken p1.Rune):Int)==2)
) (
zax (((zdk p1.Broken p1.Rune):Int)==4) (
j1 (((zdk p1.Broken p1.Rune):Int)==4)
) (
j1 (((zdk p1.Broken p1.Rune):Int)==9)
)
)
) (fun (x1:Bool) =>
zax (x1) (
some 0
) (
zak (zd3 p1.Rune) fun (r1:Bool) =>
zax (r1) (
some 2
) (
some 1
)
)
)
)
theorem ze7 {p1:Gapi_Piece} {r:Int} (h:zbv p1=some r):FnP Tryz.prog 37 [.agg (zr3 p1).toArray] (zI r):=by
 unfold zbv at h
 refine FnP.intro Tryz.func37 rfl Tryz.ntmps37 (by simp) ?_
 intro w0 K
 refine zyG ?_
 refine zdQ rfl dc rfl (fun b1 => ?_)
 refine zyR 1 rfl (zyN (zaH (zyG (za5 (k:=0) (cs:=(zr3 p1)) zgG rfl dc rfl rfl rfl rfl ?_))))
 obtain ⟨hg1,h⟩:=zbw h
 refine zbc (v:=zI (zdk p1.Broken p1.Rune)) (vs:=[.agg (zr3 p1).toArray]) rfl dc rfl rfl rfl ztL (zwf p1.At p1.Width p1.Rune p1.Broken hg1.1 hg1.2) (zyN (zaG (zyG (zaW rfl za1 (zyR 1 rfl (zyN ?_))))))
 refine zyB rfl h (fun h => ?_) (fun h => ?_)
 ·
  refine zyG (zyR 1 rfl (zyN (zaA (zal (zai ?_)))))
  cases h
  exact zaF (rs:=[.tmp 2]) () (.inl rfl) Tryz.results37 (.cons (.tmp rfl) .nil) rfl Splits.nil
 obtain ⟨j1,hj1,h⟩:=zbO h
 refine zaY (β:=Bool) 0 rfl (fun b=>j1 b=some r) (fun b=>[]) (fun b=>[(1,zP b1),(7,.bool b)]) (fun b=>[cells b1 (zr3 p1) 85]) (fun cut => ?_) ?_
 ·
  refine cut (zyG (zaW rfl za1 (zyR 1 rfl (zyN ?_))))
  refine zyB rfl h (fun h => ?_) (fun h => ?_)
  ·
   refine zau ?_
   exact zaq (((zdk p1.Broken p1.Rune):Int)==2) h rfl (zba rfl) (zad [0] kr rfl)
  refine zyG (zaW rfl za1 (zyR 1 rfl (zyN ?_)))
  refine zyB rfl h (fun h => ?_) (fun h => ?_)
  ·
   refine zau ?_
   exact zaq (((zdk p1.Broken p1.Rune):Int)==4) h rfl (zba rfl) (zad [0] kr rfl)
  refine zaB (zaW rfl za1 (zyR 1 rfl (zaX ?_)))
  exact zaq (((zdk p1.Broken p1.Rune):Int)==9) h rfl (zba rfl) (zad [0] kr rfl)
 rintro x1 h
 rw [hj1] at h
 refine zyB rfl h (fun h => ?_) (fun h => ?_)
 ·
  refine zyG (zyR 1 rfl (zyN (zaA (zal (zai ?_)))))
  cases h
  exact zaF (rs:=[.tmp 2]) () (.inl rfl) Tryz.results37 (.cons (.tmp rfl) .nil) rfl Splits.nil
 refine zau (zah (zaI (zaH (zyG (zac zku rfl dc rfl (show _=2 from rfl) (zan (k:=0) zqf rfl dc rfl rfl rfl ?_))))))
 obtain ⟨r1,hq1,h⟩:=zbx h
 refine zbc (v:=.bool r1) (vs:=[.int .i32 p1.Rune]) rfl dc rfl rfl rfl zwu (zkG hq1) (zyN ?_)
 refine zyB rfl h (fun h => ?_) (fun h => ?_)
 ·
  refine zyG (zyR 1 rfl (zyN (zaA (zai ?_))))
  cases h
  exact zaF (rs:=[.tmp 2]) () (.inl rfl) Tryz.results37 (.cons (.tmp rfl) .nil) rfl Splits.nil
 refine zau (zaI (zyG (zyR 1 rfl (zyN (zaA ?_)))))
 cases h
 exact zaF (rs:=[.tmp 2]) () (.inl rfl) Tryz.results37 (.cons (.tmp rfl) .nil) rfl Splits.nil
def zdl (head1:Int) (behind1:Gapi_Piece) (p1:Gapi_Piece):Option Bool :=
zax (p1.Broken) (
some false
) (
grd (I32 p1.Rune) <|
zax (((zdk p1.Broken p1.Rune):Int)==2) (
some true
) (
zax ((p1.Rune:Int)==8205) (
some true
) (
zax ((head1:Int)==10) (
zax (((zdk p1.Broken p1.Rune):Int)==10) (
some ((behind1.Rune:Int)==8205)
) (
some false
)
) (
some false
)
)
)
)
theorem zgC {head1:Int} {behind1:Gapi_Piece} {p1:Gapi_Piece} {r:Bool} (h:zdl head1 behind1 p1=some r):FnP Tryz.prog 36 [zI head1,.agg (zr3 behind1).toArray,.agg (zr3 p1).toArray] (.bool r):=by
 unfold zdl at h
 refine FnP.intro Tryz.func36 rfl Tryz.ntmps36 (by simp) ?_
 intro w0 K
 refine zyG ?_
 refine zdQ rfl dc rfl (fun b1 => ?_)
 refine zdQ rfl dc rfl (fun b2 => ?_)
 refine zyR 1 rfl (zyN (zaH (zyG (zac ztH rfl dc rfl (show _=3 from rfl) (zan (k:=1) zwc rfl dc rfl rfl rfl (zyN ?_))))))
 refine zyB rfl h (fun h => ?_) (fun h => ?_)
 ·
  refine zyG (zyR 1 rfl (zyN (zaA (zai ?_))))
  cases h
  exact zaF (rs:=[.tmp 6]) () (.inl rfl) Tryz.results36 (.cons (.tmp rfl) .nil) rfl Splits.nil
 refine zau (zaI (zyG (za5 (k:=1) (cs:=(zr3 p1)) zgG rfl dc rfl rfl rfl rfl ?_)))
 obtain ⟨hg1,h⟩:=zbw h
 refine zbc (v:=zI (zdk p1.Broken p1.Rune)) (vs:=[.agg (zr3 p1).toArray]) rfl dc rfl rfl rfl ztL (zwf p1.At p1.Width p1.Rune p1.Broken hg1.1 hg1.2) (zyR 1 rfl (zyH (zyR 1 rfl (zaW rfl za1 (zyR 1 rfl ?_)))))
 refine zyS (s:=14) rfl h (fun h => ?_) (fun h => ?_)
 ·
  refine zyR 14 rfl ?_
  refine zyR 4 rfl (zyN (zaA ?_))
  cases h
  exact zaF (rs:=[.tmp 6]) () (.inl rfl) Tryz.results36 (.cons (.tmp rfl) .nil) rfl Splits.nil
 refine zac zku rfl dc rfl (show _=2 from rfl) (zan (k:=1) zqf rfl dc rfl rfl rfl (zaW rfl za1 (zyR 2 rfl ?_)))
 refine zyS (s:=19) rfl h (fun h => ?_) (fun h => ?_)
 ·
  refine zyR 13 rfl (zaX ?_)
  refine zaI (zaA ?_)
  cases h
  exact zaF (rs:=[.tmp 6]) () (.inl rfl) Tryz.results36 (.cons (.tmp rfl) .nil) rfl Splits.nil
 refine zyR 1 rfl (zaW rfl za1 (zyR 1 rfl ?_))
 refine zyS (s:=22) rfl h (fun h => ?_) (fun h => ?_)
 ·
  refine zyR 1 rfl (zaW rfl za1 (zyR 2 rfl ?_))
  refine zyS (s:=26) rfl h (fun h => ?_) (fun h => ?_)
  ·
   refine zac zku rfl dc rfl (show _=2 from rfl) (zan (k:=0) zqf rfl dc rfl rfl rfl (zaW rfl za1 (zyR 3 rfl (zyN (zaA ?_)))))
   cases h
   exact zaF (rs:=[.tmp 6]) () (.inl rfl) Tryz.results36 (.cons (.tmp rfl) .nil) rfl Splits.nil
  refine zyR 6 rfl (zyN (zaA ?_))
  cases h
  exact zaF (rs:=[.tmp 6]) () (.inl rfl) Tryz.results36 (.cons (.tmp rfl) .nil) rfl Splits.nil
 refine zyR 10 rfl (zyN (zaA ?_))
 cases h
 exact zaF (rs:=[.tmp 6]) () (.inl rfl) Tryz.results36 (.cons (.tmp rfl) .nil) rfl Splits.nil
def zb8 (x1:Gapi_Piece) (ag1:Int→Int→Int→Int→Int→Int→Int→Bool→Bool→Option (List Gapi_Cell)) (now13:Int) (now14:Int) (now15:Int) (head4:Int) (last13:Int) (last14:Int) (last15:Int) (last16:Bool) (open5:Bool):Option (List Gapi_Cell) :=
zbr (fun (j2:Option (List Gapi_Cell)) =>
grd (I32 x1.Rune) <|
zax (!open5) (
j2
) (
zax ((last15:Int)==13) (
zax ((x1.Rune:Int)==10) (
grd (I64 (x1.At+x1.Width)) <|
ag1 now13 (x1.At+x1.Width) now15 head4 x1.At x1.Width x1.Rune x1.Broken open5
) (
zax ((head4:Int) != 11) (
zax ((head4:Int) != 4) (
zax ((head4:Int) != 9) (
zak (zdl head4 (⟨last13,last14,last15,last16⟩:Gapi_Piece) x1) fun (r2:Bool) =>
zax (r2) (
grd (I64 (x1.At+x1.Width)) <|
zak (zbv x1) fun (r3:Int) =>
ag1 now13 (x1.At+x1.Width) (max now15 r3) head4 x1.At x1.Width x1.Rune x1.Broken open5
) (
zgK (⟨now13,now14,now15⟩:Gapi_Cell) <|
j2
)
) (
zgK (⟨now13,now14,now15⟩:Gapi_Cell) <|
j2
)
) (
zgK (⟨now13,now14,now15⟩:Gapi_Cell) <|
j2
)
) (
zgK (⟨now13,now14,now15⟩:Gapi_Cell) <|
j2
)
)
) (
zax ((head4:Int) != 11) (
zax ((head4:Int) != 4) (
zax ((head4:Int) != 9) (
zak (zdl head4 (⟨last13,last14,last15,last16⟩:Gapi_Piece) x1) fun (r4:Bool) =>
zax (r4) (
grd (I64 (x1.At+x1.Width)) <|
zak (zbv x1) fun (r5:Int) =>
ag1 now13 (x1.At+x1.Width) (max now15 r5) head4 x1.At x1.Width x1.Rune x1.Broken open5
) (
zgK (⟨now13,now14,now15⟩:Gapi_Cell) <|
j2
)
) (
zgK (⟨now13,now14,now15⟩:Gapi_Cell) <|
j2
)
) (
zgK (⟨now13,now14,now15⟩:Gapi_Cell) <|
j2
)
) (
zgK (⟨now13,now14,now15⟩:Gapi_Cell) <|
j2
)
)
)
) (
grd (I64 (x1.At+x1.Width)) <|
zak (zbv x1) fun (r6:Int) =>
ag1 x1.At (x1.At+x1.Width) r6 (zdk x1.Broken x1.Rune) x1.At x1.Width x1.Rune x1.Broken true
)
def zd0 (c0:ByteArray):Option (List Gapi_Cell) :=
zbr (fun (j1:Int→Int→Int→Bool→Option (List Gapi_Cell)) =>
zak (zf6 c0) fun (r1:ByteArray) =>
zak (zdW r1) fun (its1:(List Gapi_Piece)) =>
zbr (fun (dn1:Int→Int→Int→Int→Int→Int→Int→Bool→Bool→Option (List Gapi_Cell)) =>
zdh dn1 (zb8) its1 0 0 0 0 0 0 0 false false
) (fun (now13:Int) (now14:Int) (now15:Int) (head4:Int) (last13:Int) (last14:Int) (last15:Int) (last16:Bool) (open5:Bool) =>
j1 now13 now14 now15 open5
)
) (fun (now1:Int) (now2:Int) (now3:Int) (zcM:Bool) =>
zax (zcM) (
zgK (⟨now1,now2,now3⟩:Gapi_Cell) <|
some []
) (
some []
)
)
theorem zix {b_c0:Nat} {c0:ByteArray} {xs:(List Gapi_Cell)} (h:zd0 c0=some xs):Itr Tryz.prog 33 [zP b_c0] (fun q:Gapi_Cell=>[.agg (zr2 q).toArray]) xs [(b_c0,.cells #[.string c0] 9 (0,0))]:=by
 unfold zd0 at h
 refine Itr.intro Tryz.func33 rfl Tryz.ntmps33 (by simp) ?_
 intro l w0 K I X hRo hy
 obtain ⟨r0,hx0⟩:∃ r,xs=[]++r:=⟨xs,rfl⟩
 have hr0:xs=r0:=hx0
 rw [hr0] at h
 refine ziE ?_
 refine zyG ?_
 refine zdQ rfl dc rfl (fun b1 => ?_)
 refine zyN ?_
 refine zf4 (β:=Unit) (l:=0) (fun _=>False) (fun _=>[]) (fun _=>[]) rfl ?_ ?_
 ·
  obtain ⟨j1,hj1,h⟩:=zbO h
  refine zaY (β:=Int×Int×Int×Bool×(List Gapi_Cell)×(List Gapi_Cell)×Nat×Nat×(List Nat)) 5 rfl (fun b=>j1 b.1 b.2.1 b.2.2.1 b.2.2.2.1=some b.2.2.2.2.2.1∧xs=b.2.2.2.2.1++b.2.2.2.2.2.1) (fun b=>zfQ b.2.2.2.2.2.2.2.2) (fun b=>[(2,zP b1),(3,zP b.2.2.2.2.2.2.1),(6,zP b.2.2.2.2.2.2.2.1)]) (fun b=>[I b.2.2.2.2.1,cells b1 [.func (.yield l) #[] #[]] 82,cells b.2.2.2.2.2.2.1 [zI b.1,zI b.2.1,zI b.2.2.1] 40,cells b.2.2.2.2.2.2.2.1 [.bool b.2.2.2.1] 4,zhS ((b.2.2.2.2.2.2.2.2:List Nat).map zkT)]) (fun cut => ?_) ?_
  ·
   refine zyG ?_
   refine zbg zun rfl dc (fun b4 => ?_)
   refine zyH ?_
   refine zbg zvV rfl dc (fun b5 => ?_)
   refine zyH ?_
   refine zbg zte rfl dc (fun b6 => ?_)
   refine zyH ?_
   refine zbg zxh rfl dc (fun b7 => ?_)
   refine zbe (k:=6) (l':=[.bool false]) zw8 rfl rfl rfl rfl rfl (fun _ _=>rfl) rfl ?_
   refine zyN (zaH (zjM (zaI (cut (zyG (zkM (i:=0) hRo zjc rfl dc rfl rfl rfl ?_))))))
   obtain ⟨r1,hq1,h⟩:=zbx h
   refine zdI (vs:=[.string c0]) rfl dc rfl rfl rfl zwJ (zj1 hq1) Splits.nil ?_
   rintro b8
   refine zyN (zaG ?_)
   obtain ⟨its1,hq2,h⟩:=zbx h
   obtain ⟨dn1,hdn1,h⟩:=zbO h
   refine zo6 (α:=Gapi_Piece) (β:=Int×Int×Int×Int×Int×Int×Int×Bool×Bool×(List Gapi_Cell)×(List Gapi_Cell)) (γ:=(List Gapi_Cell×Gapi_Cell×List Gapi_Cell)) (δ:=Nat) (ps:=[11]) hRo rfl zww (zh0 hq2) (fun pre b=>(∀ post,its1=pre++post→zdh dn1 (zb8) post b.1 b.2.1 b.2.2.1 b.2.2.2.1 b.2.2.2.2.1 b.2.2.2.2.2.1 b.2.2.2.2.2.2.1 b.2.2.2.2.2.2.2.1 b.2.2.2.2.2.2.2.2.1=some b.2.2.2.2.2.2.2.2.2.2)∧xs=b.2.2.2.2.2.2.2.2.2.1++b.2.2.2.2.2.2.2.2.2.2) (fun pre b=>[I b.2.2.2.2.2.2.2.2.2.1,cells b1 [.func (.yield l) #[] #[]] 82,cells b4 [zI b.1,zI b.2.1,zI b.2.2.1] 40,cells b5 [zI b.2.2.2.1] 83,cells b6 [zI b.2.2.2.2.1,zI b.2.2.2.2.2.1,.int .i32 b.2.2.2.2.2.2.1,.bool b.2.2.2.2.2.2.2.1] 85,cells b7 [.bool b.2.2.2.2.2.2.2.2.1] 4]) (fun c pre g=>(fun g=>c=Code.ret∧xs=g.1++g.2.1::g.2.2) g) (fun c pre g=>(fun g=>[X (g.1++[g.2.1])]) g) (fun pre x b j=>[(2,zP b1),(3,zP b4),(4,zP b5),(5,zP b6),(6,zP b7),(10,.func (.func 69) #[] #[zP b8]),(7,zP j)]) (fun pre x b j=>[I b.2.2.2.2.2.2.2.2.2.1,cells b1 [.func (.yield l) #[] #[]] 82,cells b4 [zI b.1,zI b.2.1,zI b.2.2.1] 40,cells b5 [zI b.2.2.2.1] 83,cells b6 [zI b.2.2.2.2.1,zI b.2.2.2.2.2.1,.int .i32 b.2.2.2.2.2.2.1,.bool b.2.2.2.2.2.2.2.1] 85,cells b7 [.bool b.2.2.2.2.2.2.2.2.1] 4,cells j (zr3 x) 85]) (0,0,0,0,0,0,0,false,false,([]:List Gapi_Cell),r0) ⟨fun post e=>(by rw [List.nil_append] at e; subst e; exact h),hx0⟩ (zad [0,2,3,4,5,6] kr rfl) ⟨.inl ⟨7,rfl⟩,trivial⟩ (fun _=>rfl) dc ?_ ?_ ?_ ?_
   ·
    rintro lp rc pre x1 post ⟨now13,now14,now15,head4,last13,last14,last15,last16,open5,acc4,rr4⟩ w1 K1 hxs1 hext hro hinv
    have hy:=hy.later hext
    refine zaB ?_
    refine zbg zte rfl dc (fun b9 => ?_)
    refine zaU (k:=6) (vs:=(zr3 x1)) (l':=(zr3 x1)) zlU rfl rfl rfl rfl rfl (show _≤_ by simp) rfl rfl ?_
    refine zaX ?_
    exact fun a w ha hw=>⟨b9,(zba rfl) _ _ _ ha,hw.weaken (zad [0,1,2,3,4,5,6] kr rfl)⟩
   ·
    rintro lp rc pre x1 post1 ⟨now13,now14,now15,head4,last13,last14,last15,last16,open5,acc4,rr4⟩ jb1 w1 K1 hxs1 hext hro hinv
    have hy:=hy.later hext
    obtain ⟨hinv,hx4⟩:=hinv
    have h:=hinv (x1::post1) hxs1
    obtain ⟨ag1,hag1⟩:∃ ag,ag=zdh dn1 (zb8) post1:=⟨_,rfl⟩
    have h:zb8 x1 ag1 now13 now14 now15 head4 last13 last14 last15 last16 open5=some rr4:=by rw [hag1]; exact h
    unfold zb8 at h
    refine zaG ?_
    obtain ⟨j2,hj2,h⟩:=zbO h
    refine zaY (β:=(List Gapi_Cell)×(List Gapi_Cell)) 1 rfl (fun b=>j2=some b.2∧xs=b.1++b.2) (fun b=>[]) (fun b=>[(2,zP b1),(3,zP b4),(4,zP b5),(5,zP b6),(6,zP b7),(7,zP jb1),(8,zI (zdk x1.Broken x1.Rune)),(10,.func (.func 69) #[] #[zP b8])]) (fun b=>[I b.1,cells b1 [.func (.yield l) #[] #[]] 82,cells b4 [zI now13,zI now14,zI now15] 40,cells b5 [zI head4] 83,cells b6 [zI last13,zI last14,.int .i32 last15,.bool last16] 85,cells b7 [.bool open5] 4,cells jb1 (zr3 x1) 85]) (fun cut => ?_) ?_
    ·
     refine zyG (za5 (k:=6) (cs:=(zr3 x1)) zgG rfl dc rfl rfl rfl rfl ?_)
     obtain ⟨hg1,h⟩:=zbw h
     refine zbc (v:=zI (zdk x1.Broken x1.Rune)) (vs:=[.agg (zr3 x1).toArray]) rfl dc rfl rfl rfl ztL (zwf x1.At x1.Width x1.Rune x1.Broken hg1.1 hg1.2) (zyR 1 rfl (zyN (cut (zaG (zyG (zan (k:=5) zwc rfl dc rfl rfl rfl (zdJ rfl dc rfl zcA (zyR 1 rfl (zyN ?_)))))))))
     refine zyB rfl h (fun h => ?_) (fun h => ?_)
     ·
      refine zau (zah ?_)
      exact zaq (acc4,rr4) ⟨h,hx4⟩ rfl (zba rfl) (zad [0,1,2,3,4,5,6] kr rfl)
     refine zyG (zac zku rfl dc rfl (show _=2 from rfl) (zan (k:=4) zqf rfl dc rfl rfl rfl (zaW rfl za1 (zyR 1 rfl ?_))))
     refine zyS (s:=25) rfl h (fun h => ?_) (fun h => ?_)
     ·
      refine zac zku rfl dc rfl (show _=2 from rfl) (zan (k:=6) zqf rfl dc rfl rfl rfl (zaW rfl za1 (zyR 2 rfl (zyN ?_))))
      refine zyB rfl h (fun h => ?_) (fun h => ?_)
      ·
       refine zyG (zac zkv rfl dc rfl (show _=0 from rfl) (zan (k:=6) zbS rfl dc rfl rfl rfl (zac zmi rfl dc rfl (show _=1 from rfl) (zan (k:=6) zbS rfl dc rfl rfl rfl ?_))))
       obtain ⟨hg2,h⟩:=zbw h
       refine zaW rfl (zaV (r:=x1.At+x1.Width) (IntWalk.i64_in _ hg2)) (zac ziR rfl dc rfl (show _=0 from rfl) (zac zeu rfl dc rfl (show _=1 from rfl) ?_))
       refine zbe (k:=2) (l':=[zI now13,zI (x1.At+x1.Width),zI now15]) zf9 rfl rfl rfl rfl rfl (fun _ _=>rfl) rfl ?_
       refine zyH (za5 (k:=6) (cs:=(zr3 x1)) zgG rfl dc rfl rfl rfl rfl (zaU (k:=4) (vs:=(zr3 x1)) (l':=(zr3 x1)) zlU rfl rfl rfl rfl rfl (show _≤_ by simp) rfl rfl ?_))
       refine zyN (za9 (zcH dc (zap (zaz ?_))))
       exact zfm (now13,x1.At+x1.Width,now15,head4,x1.At,x1.Width,x1.Rune,x1.Broken,open5,acc4,rr4) ⟨fun post2 e2=>(by have e9:=zex hxs1 e2; subst e9; subst hag1; exact h),hx4⟩ (zad [0,1,2,3,4,5] kr rfl)
      refine zyG (zan (k:=3) zmN rfl dc rfl rfl rfl (zaW rfl zbP (zyR 1 rfl ?_)))
      refine zyS (s:=41) rfl h (fun h => ?_) (fun h => ?_)
      ·
       refine zan (k:=3) zmN rfl dc rfl rfl rfl (zaW rfl zbP (zyR 2 rfl ?_))
       refine zyS (s:=45) rfl h (fun h => ?_) (fun h => ?_)
       ·
        refine zan (k:=3) zmN rfl dc rfl rfl rfl (zaW rfl zbP (zyR 2 rfl ?_))
        refine zyS (s:=49) rfl h (fun h => ?_) (fun h => ?_)
        ·
         refine zan (k:=3) zmN rfl dc rfl rfl rfl (za5 (k:=4) (cs:=[zI last13,zI last14,.int .i32 last15,.bool last16]) zgG rfl dc rfl rfl rfl rfl (za5 (k:=6) (cs:=(zr3 x1)) zgG rfl dc rfl rfl rfl rfl ?_))
         obtain ⟨r2,hq3,h⟩:=zbx h
         refine zbc (v:=.bool r2) (vs:=[zI head4,.agg #[zI last13,zI last14,.int .i32 last15,.bool last16],.agg (zr3 x1).toArray]) rfl dc rfl rfl rfl zvd (zgC (behind1:=(⟨last13,last14,last15,last16⟩:Gapi_Piece)) (p1:=x1) hq3) (zyR 2 rfl (zyN ?_))
         refine zyB rfl h (fun h => ?_) (fun h => ?_)
         ·
          refine zyG (zac zkv rfl dc rfl (show _=0 from rfl) (zan (k:=6) zbS rfl dc rfl rfl rfl (zac zmi rfl dc rfl (show _=1 from rfl) (zan (k:=6) zbS rfl dc rfl rfl rfl ?_))))
          obtain ⟨hg3,h⟩:=zbw h
          refine zaW rfl (zaV (r:=x1.At+x1.Width) (IntWalk.i64_in _ hg3)) (zac ziR rfl dc rfl (show _=0 from rfl) (zac zeu rfl dc rfl (show _=1 from rfl) ?_))
          refine zbe (k:=2) (l':=[zI now13,zI (x1.At+x1.Width),zI now15]) zf9 rfl rfl rfl rfl rfl (fun _ _=>rfl) rfl ?_
          refine zyN (zaH ?_)
          obtain ⟨r3,hq4,h⟩:=zbx h
          refine zbz 4 [(0,62,.pointer (some ⟨b4,2,none⟩)),(1,63,zI now15),(2,64,.agg (zr3 x1).toArray),(3,65,zI r3)] mixed kr kr dc (by rfl) kr kr (zae ?_ (zae ?_ (zae ?_ (zae ?_ DrawPre.nil)))) ?_
          · exact fun D n d c u i=>zac zky rfl dc (za8 (by rfl) rfl) (show _=2 from rfl) (zaf 0 u i rfl)
          · exact fun D n d c u i=>zan (k:=2) zbS rfl dc (zaa (m:=0) u rfl (d 0 dc)) rfl rfl (zaf 1 u i rfl)
          · exact fun D n d c u i=>za5 (k:=6) (cs:=(zr3 x1)) zgG rfl dc (za8 (by rfl) rfl) rfl rfl rfl (zaf 2 u i rfl)
          · exact fun D n d c u i=>zbc (v:=zI r3) (vs:=[.agg (zr3 x1).toArray]) rfl dc rfl (evL.cons (zaa (m:=2) u rfl (d 2 dc)) evL.nil) rfl ztK (ze7 (p1:=x1) hq4) (zaf 3 u i rfl)
          refine zmw rfl dc rfl rfl (zac zky rfl dc rfl (show _=2 from rfl) ?_)
          refine zbe (k:=2) (l':=[zI now13,zI (x1.At+x1.Width),zI (max now15 r3)]) zf9 rfl rfl rfl rfl rfl (fun _ _=>rfl) rfl ?_
          refine zyH (za5 (k:=6) (cs:=(zr3 x1)) zgG rfl dc rfl rfl rfl rfl (zaU (k:=4) (vs:=(zr3 x1)) (l':=(zr3 x1)) zlU rfl rfl rfl rfl rfl (show _≤_ by simp) rfl rfl (zyN (za9 (zcH dc (zap (zaz ?_)))))))
          exact zfm (now13,x1.At+x1.Width,max now15 r3,head4,x1.At,x1.Width,x1.Rune,x1.Broken,open5,acc4,rr4) ⟨fun post2 e2=>(by have e9:=zex hxs1 e2; subst e9; subst hag1; exact h),hx4⟩ (zad [0,1,2,3,4,5] kr rfl)
         refine zyG (zan (k:=1) zl2 rfl dc rfl rfl rfl (za5 (k:=2) (cs:=[zI now13,zI now14,zI now15]) zkY rfl dc rfl rfl rfl rfl ?_))
         obtain ⟨rr6,hr1,h⟩:=zjt h
         have hx6:xs=acc4++(⟨now13,now14,now15⟩:Gapi_Cell)::rr6:=by rw [hx4,hr1]
         refine zeG hy rfl dc rfl hx6 rfl (k:=0) rfl ?_ ?_
         ·
          have hx7:xs=(acc4++[(⟨now13,now14,now15⟩:Gapi_Cell)])++rr6:=by rw [hx6]; simp
          refine zdJ rfl dc rfl zcA (zyN (zaT rfl (zau (zah ?_))))
          exact zaq (acc4++[(⟨now13,now14,now15⟩:Gapi_Cell)],rr6) ⟨h,hx7⟩ rfl (zba rfl) (zad [0,1,2,3,4,5,6] kr rfl)
         refine zdJ rfl dc rfl zcA (zyN (zbd rfl (zaA (zal (zai (zal ?_))))))
         exact zeh (acc4,(⟨now13,now14,now15⟩:Gapi_Cell),rr6) (show _∧_ from ⟨rfl,hx6⟩) (zad [0] kr rfl)
        refine zyR 6 rfl (zyN (zaT rfl (zyG (zan (k:=1) zl2 rfl dc rfl rfl rfl (za5 (k:=2) (cs:=[zI now13,zI now14,zI now15]) zkY rfl dc rfl rfl rfl rfl ?_)))))
        obtain ⟨rr7,hr2,h⟩:=zjt h
        have hx8:xs=acc4++(⟨now13,now14,now15⟩:Gapi_Cell)::rr7:=by rw [hx4,hr2]
        refine zeG hy rfl dc rfl hx8 rfl (k:=0) rfl ?_ ?_
        ·
         have hx9:xs=(acc4++[(⟨now13,now14,now15⟩:Gapi_Cell)])++rr7:=by rw [hx8]; simp
         refine zdJ rfl dc rfl zcA (zyN (zaT rfl (zau (zah ?_))))
         exact zaq (acc4++[(⟨now13,now14,now15⟩:Gapi_Cell)],rr7) ⟨h,hx9⟩ rfl (zba rfl) (zad [0,1,2,3,4,5,6] kr rfl)
        refine zdJ rfl dc rfl zcA (zyN (zbd rfl (zaA (zal (zai (zal ?_))))))
        exact zeh (acc4,(⟨now13,now14,now15⟩:Gapi_Cell),rr7) (show _∧_ from ⟨rfl,hx8⟩) (zad [0] kr rfl)
       refine zyR 10 rfl (zyN (zaT rfl (zaH ?_)))
       refine zaB (zan (k:=1) zl2 rfl dc rfl rfl rfl (za5 (k:=2) (cs:=[zI now13,zI now14,zI now15]) zkY rfl dc rfl rfl rfl rfl ?_))
       obtain ⟨rr8,hr3,h⟩:=zjt h
       have hx10:xs=acc4++(⟨now13,now14,now15⟩:Gapi_Cell)::rr8:=by rw [hx4,hr3]
       refine zeG hy rfl dc rfl hx10 rfl (k:=0) rfl ?_ ?_
       ·
        have hx11:xs=(acc4++[(⟨now13,now14,now15⟩:Gapi_Cell)])++rr8:=by rw [hx10]; simp
        refine zdJ rfl dc rfl zcA (zyN (zaT rfl (zau (zah ?_))))
        exact zaq (acc4++[(⟨now13,now14,now15⟩:Gapi_Cell)],rr8) ⟨h,hx11⟩ rfl (zba rfl) (zad [0,1,2,3,4,5,6] kr rfl)
       refine zdJ rfl dc rfl zcA (zyN (zbd rfl (zaA (zal (zai (zal ?_))))))
       exact zeh (acc4,(⟨now13,now14,now15⟩:Gapi_Cell),rr8) (show _∧_ from ⟨rfl,hx10⟩) (zad [0] kr rfl)
      refine zyR 14 rfl ?_
      refine zyN (zaT rfl (zyG (zan (k:=1) zl2 rfl dc rfl rfl rfl (za5 (k:=2) (cs:=[zI now13,zI now14,zI now15]) zkY rfl dc rfl rfl rfl rfl ?_))))
      obtain ⟨rr9,hr4,h⟩:=zjt h
      have hx12:xs=acc4++(⟨now13,now14,now15⟩:Gapi_Cell)::rr9:=by rw [hx4,hr4]
      refine zeG hy rfl dc rfl hx12 rfl (k:=0) rfl ?_ ?_
      ·
       have hx13:xs=(acc4++[(⟨now13,now14,now15⟩:Gapi_Cell)])++rr9:=by rw [hx12]; simp
       refine zdJ rfl dc rfl zcA (zyN (zaT rfl (zau (zah ?_))))
       exact zaq (acc4++[(⟨now13,now14,now15⟩:Gapi_Cell)],rr9) ⟨h,hx13⟩ rfl (zba rfl) (zad [0,1,2,3,4,5,6] kr rfl)
      refine zdJ rfl dc rfl zcA (zyN (zbd rfl (zaA (zal (zai (zal ?_))))))
      exact zeh (acc4,(⟨now13,now14,now15⟩:Gapi_Cell),rr9) (show _∧_ from ⟨rfl,hx12⟩) (zad [0] kr rfl)
     refine zyR 5 rfl (zyN (zaT rfl (zyG (zan (k:=3) zmN rfl dc rfl rfl rfl (zaW rfl zbP (zyR 1 rfl ?_))))))
     refine zyS (s:=41) rfl h (fun h => ?_) (fun h => ?_)
     ·
      refine zan (k:=3) zmN rfl dc rfl rfl rfl (zaW rfl zbP (zyR 2 rfl ?_))
      refine zyS (s:=45) rfl h (fun h => ?_) (fun h => ?_)
      ·
       refine zan (k:=3) zmN rfl dc rfl rfl rfl (zaW rfl zbP (zyR 2 rfl ?_))
       refine zyS (s:=49) rfl h (fun h => ?_) (fun h => ?_)
       ·
        refine zan (k:=3) zmN rfl dc rfl rfl rfl (za5 (k:=4) (cs:=[zI last13,zI last14,.int .i32 last15,.bool last16]) zgG rfl dc rfl rfl rfl rfl (za5 (k:=6) (cs:=(zr3 x1)) zgG rfl dc rfl rfl rfl rfl ?_))
        obtain ⟨r4,hq5,h⟩:=zbx h
        refine zbc (v:=.bool r4) (vs:=[zI head4,.agg #[zI last13,zI last14,.int .i32 last15,.bool last16],.agg (zr3 x1).toArray]) rfl dc rfl rfl rfl zvd (zgC (behind1:=(⟨last13,last14,last15,last16⟩:Gapi_Piece)) (p1:=x1) hq5) (zyR 2 rfl (zyN ?_))
        refine zyB rfl h (fun h => ?_) (fun h => ?_)
        ·
         refine zyG (zac zkv rfl dc rfl (show _=0 from rfl) (zan (k:=6) zbS rfl dc rfl rfl rfl (zac zmi rfl dc rfl (show _=1 from rfl) (zan (k:=6) zbS rfl dc rfl rfl rfl ?_))))
         obtain ⟨hg4,h⟩:=zbw h
         refine zaW rfl (zaV (r:=x1.At+x1.Width) (IntWalk.i64_in _ hg4)) (zac ziR rfl dc rfl (show _=0 from rfl) (zac zeu rfl dc rfl (show _=1 from rfl) ?_))
         refine zbe (k:=2) (l':=[zI now13,zI (x1.At+x1.Width),zI now15]) zf9 rfl rfl rfl rfl rfl (fun _ _=>rfl) rfl ?_
         refine zyN (zaH ?_)
         obtain ⟨r5,hq6,h⟩:=zbx h
         refine zbz 4 [(0,62,.pointer (some ⟨b4,2,none⟩)),(1,63,zI now15),(2,64,.agg (zr3 x1).toArray),(3,65,zI r5)] mixed kr kr dc (by rfl) kr kr (zae ?_ (zae ?_ (zae ?_ (zae ?_ DrawPre.nil)))) ?_
         · exact fun D n d c u i=>zac zky rfl dc (za8 (by rfl) rfl) (show _=2 from rfl) (zaf 0 u i rfl)
         · exact fun D n d c u i=>zan (k:=2) zbS rfl dc (zaa (m:=0) u rfl (d 0 dc)) rfl rfl (zaf 1 u i rfl)
         · exact fun D n d c u i=>za5 (k:=6) (cs:=(zr3 x1)) zgG rfl dc (za8 (by rfl) rfl) rfl rfl rfl (zaf 2 u i rfl)
         · exact fun D n d c u i=>zbc (v:=zI r5) (vs:=[.agg (zr3 x1).toArray]) rfl dc rfl (evL.cons (zaa (m:=2) u rfl (d 2 dc)) evL.nil) rfl ztK (ze7 (p1:=x1) hq6) (zaf 3 u i rfl)
         refine zmw rfl dc rfl rfl (zac zky rfl dc rfl (show _=2 from rfl) ?_)
         refine zbe (k:=2) (l':=[zI now13,zI (x1.At+x1.Width),zI (max now15 r5)]) zf9 rfl rfl rfl rfl rfl (fun _ _=>rfl) rfl ?_
         refine zyH (za5 (k:=6) (cs:=(zr3 x1)) zgG rfl dc rfl rfl rfl rfl (zaU (k:=4) (vs:=(zr3 x1)) (l':=(zr3 x1)) zlU rfl rfl rfl rfl rfl (show _≤_ by simp) rfl rfl (zyN (za9 (zcH dc (zap (zaz ?_)))))))
         exact zfm (now13,x1.At+x1.Width,max now15 r5,head4,x1.At,x1.Width,x1.Rune,x1.Broken,open5,acc4,rr4) ⟨fun post2 e2=>(by have e9:=zex hxs1 e2; subst e9; subst hag1; exact h),hx4⟩ (zad [0,1,2,3,4,5] kr rfl)
        refine zyG (zan (k:=1) zl2 rfl dc rfl rfl rfl (za5 (k:=2) (cs:=[zI now13,zI now14,zI now15]) zkY rfl dc rfl rfl rfl rfl ?_))
        obtain ⟨rr10,hr5,h⟩:=zjt h
        have hx14:xs=acc4++(⟨now13,now14,now15⟩:Gapi_Cell)::rr10:=by rw [hx4,hr5]
        refine zeG hy rfl dc rfl hx14 rfl (k:=0) rfl ?_ ?_
        ·
         have hx15:xs=(acc4++[(⟨now13,now14,now15⟩:Gapi_Cell)])++rr10:=by rw [hx14]; simp
         refine zdJ rfl dc rfl zcA (zyN (zaT rfl (zau (zah ?_))))
         exact zaq (acc4++[(⟨now13,now14,now15⟩:Gapi_Cell)],rr10) ⟨h,hx15⟩ rfl (zba rfl) (zad [0,1,2,3,4,5,6] kr rfl)
        refine zdJ rfl dc rfl zcA (zyN (zbd rfl (zaA (zal (zai (zal ?_))))))
        exact zeh (acc4,(⟨now13,now14,now15⟩:Gapi_Cell),rr10) (show _∧_ from ⟨rfl,hx14⟩) (zad [0] kr rfl)
       refine zyR 6 rfl (zyN (zaT rfl (zyG (zan (k:=1) zl2 rfl dc rfl rfl rfl (za5 (k:=2) (cs:=[zI now13,zI now14,zI now15]) zkY rfl dc rfl rfl rfl rfl ?_)))))
       obtain ⟨rr11,hr6,h⟩:=zjt h
       have hx16:xs=acc4++(⟨now13,now14,now15⟩:Gapi_Cell)::rr11:=by rw [hx4,hr6]
       refine zeG hy rfl dc rfl hx16 rfl (k:=0) rfl ?_ ?_
       ·
        have hx17:xs=(acc4++[(⟨now13,now14,now15⟩:Gapi_Cell)])++rr11:=by rw [hx16]; simp
        refine zdJ rfl dc rfl zcA (zyN (zaT rfl (zau (zah ?_))))
        exact zaq (acc4++[(⟨now13,now14,now15⟩:Gapi_Cell)],rr11) ⟨h,hx17⟩ rfl (zba rfl) (zad [0,1,2,3,4,5,6] kr rfl)
       refine zdJ rfl dc rfl zcA (zyN (zbd rfl (zaA (zal (zai (zal ?_))))))
       exact zeh (acc4,(⟨now13,now14,now15⟩:Gapi_Cell),rr11) (show _∧_ from ⟨rfl,hx16⟩) (zad [0] kr rfl)
      refine zyR 10 rfl (zyN (zaT rfl (zaH ?_)))
      refine zaB (zan (k:=1) zl2 rfl dc rfl rfl rfl (za5 (k:=2) (cs:=[zI now13,zI now14,zI now15]) zkY rfl dc rfl rfl rfl rfl ?_))
      obtain ⟨rr12,hr7,h⟩:=zjt h
      have hx18:xs=acc4++(⟨now13,now14,now15⟩:Gapi_Cell)::rr12:=by rw [hx4,hr7]
      refine zeG hy rfl dc rfl hx18 rfl (k:=0) rfl ?_ ?_
      ·
       have hx19:xs=(acc4++[(⟨now13,now14,now15⟩:Gapi_Cell)])++rr12:=by rw [hx18]; simp
       refine zdJ rfl dc rfl zcA (zyN (zaT rfl (zau (zah ?_))))
       exact zaq (acc4++[(⟨now13,now14,now15⟩:Gapi_Cell)],rr12) ⟨h,hx19⟩ rfl (zba rfl) (zad [0,1,2,3,4,5,6] kr rfl)
      refine zdJ rfl dc rfl zcA (zyN (zbd rfl (zaA (zal (zai (zal ?_))))))
      exact zeh (acc4,(⟨now13,now14,now15⟩:Gapi_Cell),rr12) (show _∧_ from ⟨rfl,hx18⟩) (zad [0] kr rfl)
     refine zyR 14 rfl ?_
     refine zyN (zaT rfl (zyG (zan (k:=1) zl2 rfl dc rfl rfl rfl (za5 (k:=2) (cs:=[zI now13,zI now14,zI now15]) zkY rfl dc rfl rfl rfl rfl ?_))))
     obtain ⟨rr13,hr8,h⟩:=zjt h
     have hx20:xs=acc4++(⟨now13,now14,now15⟩:Gapi_Cell)::rr13:=by rw [hx4,hr8]
     refine zeG hy rfl dc rfl hx20 rfl (k:=0) rfl ?_ ?_
     ·
      have hx21:xs=(acc4++[(⟨now13,now14,now15⟩:Gapi_Cell)])++rr13:=by rw [hx20]; simp
      refine zdJ rfl dc rfl zcA (zyN (zaT rfl (zau (zah ?_))))
      exact zaq (acc4++[(⟨now13,now14,now15⟩:Gapi_Cell)],rr13) ⟨h,hx21⟩ rfl (zba rfl) (zad [0,1,2,3,4,5,6] kr rfl)
     refine zdJ rfl dc rfl zcA (zyN (zbd rfl (zaA (zal (zai (zal ?_))))))
     exact zeh (acc4,(⟨now13,now14,now15⟩:Gapi_Cell),rr13) (show _∧_ from ⟨rfl,hx20⟩) (zad [0] kr rfl)
    rintro ⟨acc5,rr5⟩ ⟨h,hx5⟩
    rw [hj2] at h
    refine zaH ?_
    refine let vals1:(Unit)→List (Nat×Nat×Value):=fun b=>[(0,69,zI (zdk x1.Broken x1.Rune)),(1,70,.agg (zr3 x1).toArray)]; let LL1:(Nat→Prop)→(Unit)→List Asn:=fun D b=>[I acc5,cells b1 [.func (.yield l) #[] #[]] 82,cells b4 [zI now13,zI now14,zI now15] 40,eD D (cells b5 [zI head4] 83) [(3,cells b5 [zI (zdk x1.Broken x1.Rune)] 83)],cells b6 [zI last13,zI last14,.int .i32 last15,.bool last16] 85,eD D (cells b7 [.bool open5] 4) [(2,cells b7 [.bool true] 4)],cells jb1 (zr3 x1) 85]; ?_
    have zhq:zyQ [2,3] LL1:=fun i h D b=>zab rfl (zab rfl (zab rfl (zab (zja rfl h) (zab rfl (zab (zja rfl h) rfl)))))
    refine zdB (β:=Unit) 4 () vals1 LL1 mixed kr kr dc (fun _=>rfl) (zcK (zab zbN (zab rfl (zab zbN rfl)))) (zlc zhq (fun _=>rfl) (fun _=>rfl) 1 0 (fun _=>rfl) rfl (zgj zhq rfl (fun _=>rfl) (fun _=>rfl) ?_ (zat ?_ (zat ?_ DrawG.nil)))) ?_
    · exact fun D b n d c u i=>⟨_,(zhd rfl),za5 (k:=6) (cs:=(zr3 x1)) zgG rfl dc (za8 (by rfl) rfl) rfl rfl rfl (zaf 1 u i rfl)⟩
    ·
     intro D b hn hd hcl
     refine zaK (zcK (zab (zag (fun hD=>hn (hcl 3 _ rfl hD 2 dc)) zaj) (zab rfl (zab (zag hn zaj) rfl)))) ?_
     refine zbe (k:=5) (l':=[.bool true]) zw8 rfl (za8 (by rfl) rfl) rfl rfl rfl (fun _ _=>rfl) rfl ?_
     exact ziB (b:=b) () (by rfl) (zuj rfl) (zcK (zab ((zam (by rfl)).trans (zag (fun hD=>hn (hcl 3 _ rfl hD 2 dc)) zaj)) (zab rfl (zab (zaE (Or.inr rfl) rfl) rfl))))
    ·
     intro D b hn hd hcl
     refine zaK (zcK (zab (zag hn zaj) (zab rfl (zab (zaE (hd 2 dc) rfl) rfl)))) ?_
     refine zbe (k:=3) (l':=[zI (zdk x1.Broken x1.Rune)]) zvY rfl (za8 (by rfl) rfl) (zaa (m:=0) rfl rfl (hd 0 dc)) rfl rfl (fun _ _=>rfl) rfl ?_
     exact ziB (b:=b) () (by rfl) (zuj rfl) (zcK (zab (zaE (Or.inr rfl) rfl) (zab rfl (zab ((zam (by rfl)).trans (zaE (hd 2 dc) rfl)) rfl))))
    intro D b hall
    refine zaK (zcK (zab (zaE (hall 3 dc) rfl) (zab rfl (zab (zaE (hall 2 dc) rfl) rfl)))) (zaU (k:=4) (vs:=(zr3 x1)) (l':=(zr3 x1)) zlU rfl rfl rfl rfl rfl (show _≤_ by simp) rfl rfl (zyN ?_))
    obtain ⟨hg5,h⟩:=zbw h
    obtain ⟨r6,hq7,h⟩:=zbx h
    refine zbz 10 [(0,71,zP jb1),(1,72,zI x1.At),(2,73,zP jb1),(3,74,zI x1.At),(4,75,.pointer (some ⟨jb1,1,none⟩)),(5,76,zI x1.Width),(6,77,zI (x1.At+x1.Width)),(7,78,.agg #[zI x1.At,zI (x1.At+x1.Width)]),(8,79,.agg (zr3 x1).toArray),(9,80,zI r6)] mixed kr kr dc (by rfl) kr kr (zae ?_ (zae ?_ (zae ?_ (zae ?_ (zae ?_ (zae ?_ (zae ?_ (zae ?_ (zae ?_ (zae ?_ DrawPre.nil)))))))))) ?_
    · exact fun D n d c u i=>zac zkv rfl dc (za8 (by rfl) rfl) (show _=0 from rfl) (zaf 0 u i rfl)
    · exact fun D n d c u i=>zan (k:=6) zbS rfl dc (zaa (m:=0) u rfl (d 0 dc)) rfl rfl (zaf 1 u i rfl)
    · exact fun D n d c u i=>zac zkv rfl dc (za8 (by rfl) rfl) (show _=0 from rfl) (zaf 2 u i rfl)
    · exact fun D n d c u i=>zan (k:=6) zbS rfl dc (zaa (m:=2) u rfl (d 2 dc)) rfl rfl (zaf 3 u i rfl)
    · exact fun D n d c u i=>zac zmi rfl dc (za8 (by rfl) rfl) (show _=1 from rfl) (zaf 4 u i rfl)
    · exact fun D n d c u i=>zan (k:=6) zbS rfl dc (zaa (m:=4) u rfl (d 4 dc)) rfl rfl (zaf 5 u i rfl)
    · exact fun D n d c u i=>zcc rfl dc (zaa (m:=3) u rfl (d 3 dc)) (zaa (m:=5) u rfl (d 5 dc)) (zaV (r:=x1.At+x1.Width) (IntWalk.i64_in _ hg5)) (zaf 6 u i rfl)
    · exact fun D n d c u i=>zbb (v:=.agg #[zI x1.At,zI (x1.At+x1.Width)]) (ps:=[(0,.tmp 72),(1,.tmp 77)]) rfl dc (evP.cons (zaa (m:=1) u rfl (d 1 dc)) (evP.cons (zaa (m:=6) u rfl (d 6 dc)) evP.nil)) (fun _=>by kernel_rfl) (zaf 7 u i rfl)
    · exact fun D n d c u i=>za5 (k:=6) (cs:=(zr3 x1)) zgG rfl dc (za8 (by rfl) rfl) rfl rfl rfl (zaf 8 u i rfl)
    · exact fun D n d c u i=>zbc (v:=zI r6) (vs:=[.agg (zr3 x1).toArray]) rfl dc rfl (evL.cons (zaa (m:=8) u rfl (d 8 dc)) evL.nil) rfl ztK (ze7 (p1:=x1) hq7) (zaf 9 u i rfl)
    refine zbb (v:=.agg #[zI x1.At,zI (x1.At+x1.Width),zI r6]) (ps:=[(0,.tmp 78),(1,.tmp 80)]) rfl dc rfl (fun _=>by kernel_rfl) ?_
    refine zaU (k:=2) (vs:=[zI x1.At,zI (x1.At+x1.Width),zI r6]) (l':=[zI x1.At,zI (x1.At+x1.Width),zI r6]) zp1 rfl rfl rfl rfl rfl (show _≤_ by simp) rfl rfl ?_
    refine zaX (zah ?_)
    exact zfm (x1.At,x1.At+x1.Width,r6,zdk x1.Broken x1.Rune,x1.At,x1.Width,x1.Rune,x1.Broken,true,acc5,rr5) ⟨fun post2 e2=>(by have e9:=zex hxs1 e2; subst e9; subst hag1; exact h),hx5⟩ (zad [0,1,2,3,4,5] kr rfl)
   ·
    rintro dm1 ⟨now13,now14,now15,head4,last13,last14,last15,last16,open5,acc4,rr4⟩ hinv
    obtain ⟨hinv,hx4⟩:=hinv
    have h:dn1 now13 now14 now15 head4 last13 last14 last15 last16 open5=some rr4:=hinv [] (List.append_nil _).symm
    rw [hdn1] at h
    refine zfT (k:=14) (j:=1) rfl rfl dc ?_
    refine zah ?_
    exact zaq (now13,now14,now15,open5,acc4,rr4,b4,b7,dm1::([]:List Nat)) ⟨h,hx4⟩ rfl (zba rfl) (zad [8,9,10,13,1] kr rfl)
   rintro dm1 c pre x1 post g hxs hX
   obtain ⟨ta1,tq1,tr1⟩:=g
   obtain ⟨rfl,hx22⟩:=(show _∧_ from hX)
   refine zol (k:=9) (j:=1) rfl rfl dc ?_
   refine zaA (zal (zai (zcl (by simp) ?_)))
   exact zkL (ds:=(dm1::([]:List Nat))) ta1 tq1 tr1 hx22 (.inl rfl) (zbI (k:=1) rfl) Tryz.results33 (zad [8] kr rfl)
  rintro ⟨now1,now2,now3,zcM,acc1,rr1,b2,b3,ds1⟩ ⟨h,hx1⟩
  rw [hj1] at h
  refine zyG (zan (k:=3) zwc rfl dc rfl rfl rfl (zyN ?_))
  refine zyB rfl h (fun h => ?_) (fun h => ?_)
  ·
   refine zaB (zan (k:=1) zl2 rfl dc rfl rfl rfl (za5 (k:=2) (cs:=[zI now1,zI now2,zI now3]) zkY rfl dc rfl rfl rfl rfl ?_))
   obtain ⟨rr14,hr9,h⟩:=zjt h
   have hx23:xs=acc1++(⟨now1,now2,now3⟩:Gapi_Cell)::rr14:=by rw [hx1,hr9]
   refine zeG hy rfl dc rfl hx23 rfl (k:=0) rfl ?_ ?_
   ·
    have hx24:xs=(acc1++[(⟨now1,now2,now3⟩:Gapi_Cell)])++rr14:=by rw [hx23]; simp
    refine zaX (zcl (by simp) ?_)
    cases h
    exact zkK (ds:=ds1) (.inr rfl) (zbI (k:=4) rfl) Tryz.results33 (congrArg I (hx24.trans (List.append_nil _))) (zad [0] kr rfl)
   refine zaX (zcl (by simp) ?_)
   exact zkL (ds:=ds1) acc1 (⟨now1,now2,now3⟩:Gapi_Cell) rr14 hx23 (.inr rfl) (zbI (k:=4) rfl) Tryz.results33 (zad [0] kr rfl)
  refine zau (zcl (by simp) ?_)
  cases h
  exact zkK (ds:=ds1) (.inr rfl) (zbI (k:=4) rfl) Tryz.results33 (congrArg I (hx1.trans (List.append_nil _))) (zad [0] kr rfl)
 exact fun b hb=>hb.elim
def zf7 (s1:ByteArray):Option ByteArray :=
some s1
theorem zkH {s1:ByteArray} {r:ByteArray} (h:zf7 s1=some r):Fn Tryz.prog 11 [.string s1] [] (fun v0:Nat=>.func (.func 33) #[] #[zP v0]) (fun v0=>[cells v0 [.string r] 9]):=by
 unfold zf7 at h
 refine Fn.intro Tryz.func11 rfl Tryz.ntmps11 (by simp) ?_
 intro w0 K
 refine zyG ?_
 refine zdQ rfl dc rfl (fun b1 => ?_)
 refine zyR 1 rfl (zyH (zgy (x1:=[]) (x2:=[.tmp 1]) rfl dc rfl rfl (zyR 1 rfl (zyN (zaA ?_)))))
 cases h
 exact zaF (rs:=[.tmp 2]) b1 (.inl rfl) Tryz.results11 (.cons (.tmp rfl) .nil) rfl (zad [0] kr rfl)
end Go.Proofs.YtbempdelckaccaaGreatDoor

namespace Go.Proofs.YtbempdelckaccaaGreatDoor
open Go.RowKit Go.Lib
set_option linter.unusedVariables false
set_option linter.unusedSimpArgs false
theorem zlo (s:ByteArray):s.data.toList.length=s.size:=by rw [Array.length_toList]; rfl
def zpb (r:Int):Bool→List Int→Bool
 | _,[]=>false
 | false,e::es=>if r<e then false else zpb r true es
 | true,e::es=>if r≤e then true else zpb r false es
def zsF:List Int:=(pcs (⟨#[225,132,128,225,133,159,226,186,128,227,128,190,227,129,129,228,182,191,228,184,128,234,147,143,234,176,128,237,158,163,239,164,128,239,171,191,239,184,176,239,185,175,239,188,128,239,189,160,239,191,160,239,191,166,240,159,140,128,240,159,153,143,240,159,164,128,240,159,167,191,240,160,128,128,240,191,191,189]⟩:ByteArray).data.toList).map fun p=>(p.r:Int)
def zpU (r:Int):Bool:=zpb r false zsF
theorem zuv (r:Int):zd3 r=some (zpU r):=by
 unfold zd3 zpU zsF
 refine zbF ?_
 generalize hP:pcs (⟨#[225,132,128,225,133,159,226,186,128,227,128,190,227,129,129,228,182,191,228,184,128,234,147,143,234,176,128,237,158,163,239,164,128,239,171,191,239,184,176,239,185,175,239,188,128,239,189,160,239,191,160,239,191,166,240,159,140,128,240,159,153,143,240,159,164,128,240,159,167,191,240,160,128,128,240,191,191,189]⟩:ByteArray).data.toList=P
 have hlen:P.length≤1000:=by rw [← hP]; decide +kernel
 have key:∀ (n m:Nat) (w:Bool),m≤P.length→P.length - m<n→zaM (fun _ _=>none) (zc2 r (some false)) n w m=some (zpb r w ((P.drop m).map fun p=>(p.r:Int))):=by
  intro n
  induction n with
  | zero=>intro m w _ h; omega
  | succ n ih =>
   intro m w hm hn
   rw [zeo]
   generalize zaM (fun _ _=>none) (zc2 r (some false)) n=ag at ih ⊢
   unfold zc2
   rw [hP]
   by_cases h:m<P.length
   ·have hx:P[m]?=some P[m]:=List.getElem?_eq_getElem h
    have hd:=List.drop_eq_getElem_cons h
    generalize P[m]=p at hx hd
    have hn1:=fun w=>ih (m+1) w (by omega) (by omega)
    refine zay (decide_eq_true h) (zaN hx (zbF ?_))
    rw [hd,List.map_cons]
    cases w with
    | false =>
     refine zay rfl ?_
     unfold zpb
     by_cases h1:r<(p.r:Int)
     ·rw [if_pos h1]; exact zay (decide_eq_true h1) rfl
     ·rw [if_neg h1]; exact zaw (decide_eq_false h1) (zaw rfl (hn1 true))
    | true =>
     refine zaw rfl (zay rfl ?_)
     unfold zpb
     by_cases h1:r≤(p.r:Int)
     ·rw [if_pos h1]; exact zay (decide_eq_true h1) rfl
     ·rw [if_neg h1]; exact zaw (decide_eq_false h1) (hn1 false)
   ·have:m=P.length:=by omega
    subst this
    refine zaw (decide_eq_false h) ?_
    rw [List.drop_length]
    cases w <;> rfl
 have:=key zb4 0 false (Nat.zero_le _) (by have:=zdL (n:=P.length) (by omega); omega)
 rw [List.drop_zero] at this
 exact this
def kdP (x:Gapi_Piece):Int:=zdk x.Broken x.Rune
def zmD (x:Gapi_Piece):Int:=if kdP x=11 then 1 else if kdP x=2∨kdP x=4∨kdP x=9 then 0 else if zpU x.Rune=true then 2 else 1
theorem zrh (x:Gapi_Piece):0≤zmD x∧zmD x≤2:=by
 unfold zmD; repeat' split
 all_goals omega
theorem zkI {a b:Int} (h:a=b):(a==b)=true:=by rw [h]; exact beq_self_eq_true _
theorem zlb {a b:Int} (h:a≠b):(a==b)=false:=beq_eq_false_iff_ne.2 h
theorem zxa {a b:Int} (h:a≠b):(a != b)=true:=bne_iff_ne.2 h
theorem zxb {a b:Int} (h:a=b):(a != b)=false:=by rw [h]; exact bne_self_eq_false _
theorem zkF (x:Gapi_Piece) (hx:I32 x.Rune):zbv x=some (zmD x):=by
 unfold zbv zmD
 refine zbM hx ?_
 change zax (kdP x==11) _ _=_
 by_cases h1:kdP x=11
 ·rw [if_pos h1]; exact zay (zkI h1) rfl
 rw [if_neg h1]
 refine zaw (zlb h1) (zbF ?_)
 change zax (kdP x==2) (zax (kdP x==2) _ _) (zax (kdP x==4) (zax (kdP x==4) _ _) (zax (kdP x==9) _ _))=_
 have wd:(zak (zd3 x.Rune) fun (r1:Bool)=>zax (r1) (some (2:Int)) (some 1))=some (if zpU x.Rune=true then 2 else 1):=by
  refine zaN (zuv x.Rune) ?_
  cases zpU x.Rune <;> rfl
 by_cases h2:kdP x=2
 ·rw [if_pos (.inl h2)]; exact zay (zkI h2) (zay (zkI h2) rfl)
 refine zaw (zlb h2) ?_
 by_cases h4:kdP x=4
 ·rw [if_pos (.inr (.inl h4))]; exact zay (zkI h4) (zay (zkI h4) rfl)
 refine zaw (zlb h4) ?_
 by_cases h9:kdP x=9
 ·rw [if_pos (.inr (.inr h9))]; exact zay (zkI h9) rfl
 rw [if_neg (by omega)]
 exact zaw (zlb h9) wd
def zpt (head behind:Int) (x:Gapi_Piece):Bool:=if x.Broken then false else if kdP x=2 then true else if x.Rune=8205 then true else if head=10 then (if kdP x=10 then decide (behind=8205) else false) else false
theorem ztB (head:Int) (b x:Gapi_Piece) (hx:I32 x.Rune):zdl head b x=some (zpt head b.Rune x):=by
 unfold zdl zpt
 cases hb:x.Broken with
 | true=>exact zay rfl rfl
 | false =>
  refine zaw rfl (zbM hx ?_)
  have hk:kdP x=zdk false x.Rune:=by unfold kdP; rw [hb]
  rw [← hk]
  simp only [Bool.false_eq_true,if_false]
  by_cases h2:kdP x=2
  ·rw [if_pos h2]; exact zay (zkI h2) rfl
  rw [if_neg h2]
  refine zaw (zlb h2) ?_
  by_cases hj:x.Rune=8205
  ·rw [if_pos hj]; exact zay (zkI hj) rfl
  rw [if_neg hj]
  refine zaw (zlb hj) ?_
  by_cases hh:head=10
  ·rw [if_pos hh]
   refine zay (zkI hh) ?_
   by_cases h10:kdP x=10
   ·rw [if_pos h10]
    refine zay (zkI h10) ?_
    by_cases e:b.Rune=8205
    ·rw [decide_eq_true e,zkI e]
    ·rw [decide_eq_false e,zlb e]
   ·rw [if_neg h10]; exact zaw (zlb h10) rfl
  ·rw [if_neg hh]; exact zaw (zlb hh) rfl
def zpZ (head last:Int) (x:Gapi_Piece):Bool:=head != 11&&(head != 4&&(head != 9&&zpt head last x))
def zgD:Gapi_Cell→Int→Int→List Gapi_Piece→List Gapi_Cell
 | c,_,_,[]=>[c]
 | c,head,last,x::xs =>
  if last=13∧x.Rune=10 then zgD ⟨c.Span_From,x.At+x.Width,c.Columns⟩ head x.Rune xs
  else if zpZ head last x=true then zgD ⟨c.Span_From,x.At+x.Width,max c.Columns (zmD x)⟩ head x.Rune xs
  else c::zgD ⟨x.At,x.At+x.Width,zmD x⟩ (kdP x) x.Rune xs
theorem zhP (c:Gapi_Cell) (head last:Int) (x:Gapi_Piece) (xs:List Gapi_Piece):zgD c head last (x::xs)=if last=13∧x.Rune=10 then zgD ⟨c.Span_From,x.At+x.Width,c.Columns⟩ head x.Rune xs
  else if zpZ head last x=true then zgD ⟨c.Span_From,x.At+x.Width,max c.Columns (zmD x)⟩ head x.Rune xs
  else c::zgD ⟨x.At,x.At+x.Width,zmD x⟩ (kdP x) x.Rune xs:=rfl
def zs4:List Gapi_Piece→List Gapi_Cell
 | []=>[]
 | x::xs=>zgD ⟨x.At,x.At+x.Width,zmD x⟩ (kdP x) x.Rune xs
def zav (s:ByteArray):List Gapi_Cell:=zs4 ((pcs s.data.toList).map pcG)
def okP (x:Gapi_Piece):Prop:=I32 x.Rune∧0≤x.At∧x.At≤4000000000∧0<x.Width∧x.Width≤4
theorem zq9 (d:Int→Int→Int→Int→Int→Int→Int→Bool→Bool→Option (List Gapi_Cell)) (hd:∀ a b c h l1 l2 l3 l4,d a b c h l1 l2 l3 l4 true=some [⟨a,b,c⟩]) :
  ∀ (xs:List Gapi_Piece) (a b c h l1 l2 l3:Int) (l4:Bool),(∀ x∈xs,okP x)→zdh d zb8 xs a b c h l1 l2 l3 l4 true=some (zgD ⟨a,b,c⟩ h l3 xs)
 | [],a,b,c,h,l1,l2,l3,l4,_=>hd a b c h l1 l2 l3 l4
 | x::xs,a,b,c,h,l1,l2,l3,l4,ho=>by
  obtain ⟨o1,o2,o3,o4,o5⟩:=ho x (List.mem_cons_self ..)
  have ih:=fun a b c h l1 l2 l3 l4=>zq9 d hd xs a b c h l1 l2 l3 l4 (fun y hy=>ho y (List.mem_cons_of_mem _ hy))
  rw [zgo]
  generalize zdh d zb8 xs=ag at ih ⊢
  unfold zb8
  refine zbF (zbM o1 (zaw rfl ?_))
  have hI:I64 (x.At+x.Width):=⟨by omega,by omega⟩
  have new:(grd (I64 (x.At+x.Width))<|zak (zbv x) fun (r6:Int)=>ag x.At (x.At+x.Width) r6 (zdk x.Broken x.Rune) x.At x.Width x.Rune x.Broken true)=some (zgD ⟨x.At,x.At+x.Width,zmD x⟩ (kdP x) x.Rune xs) :=
   zbM hI (zaN (zkF x o1) (ih ..))
  have rest:¬ (l3=13∧x.Rune=10)→zax ((h:Int) != 11) (zax ((h:Int) != 4) (zax ((h:Int) != 9) (zak (zdl h (⟨l1,l2,l3,l4⟩:Gapi_Piece) x) fun (r2:Bool)=>zax (r2) (grd (I64 (x.At+x.Width))<|zak (zbv x) fun (r3:Int)=>ag a (x.At+x.Width) (max c r3) h x.At x.Width x.Rune x.Broken true)
    (zgK (⟨a,b,c⟩:Gapi_Cell)<|(grd (I64 (x.At+x.Width))<|zak (zbv x) fun (r6:Int)=>ag x.At (x.At+x.Width) r6 (zdk x.Broken x.Rune) x.At x.Width x.Rune x.Broken true)))
    (zgK (⟨a,b,c⟩:Gapi_Cell)<|(grd (I64 (x.At+x.Width))<|zak (zbv x) fun (r6:Int)=>ag x.At (x.At+x.Width) r6 (zdk x.Broken x.Rune) x.At x.Width x.Rune x.Broken true)))
    (zgK (⟨a,b,c⟩:Gapi_Cell)<|(grd (I64 (x.At+x.Width))<|zak (zbv x) fun (r6:Int)=>ag x.At (x.At+x.Width) r6 (zdk x.Broken x.Rune) x.At x.Width x.Rune x.Broken true)))
    (zgK (⟨a,b,c⟩:Gapi_Cell)<|(grd (I64 (x.At+x.Width))<|zak (zbv x) fun (r6:Int)=>ag x.At (x.At+x.Width) r6 (zdk x.Broken x.Rune) x.At x.Width x.Rune x.Broken true))=some (zgD ⟨a,b,c⟩ h l3 (x::xs)):=by
   intro hn
   rw [new,zhP,if_neg hn]
   unfold zpZ
   cases h1:(h != 11) with
   | false=>exact zaw rfl rfl
   | true =>
    refine zay rfl ?_
    cases h2:(h != 4) with
    | false=>exact zaw rfl rfl
    | true =>
     refine zay rfl ?_
     cases h3:(h != 9) with
     | false=>exact zaw rfl rfl
     | true =>
      refine zay rfl (zaN (ztB h _ x o1) ?_)
      show zax (zpt h l3 x) _ _=some (if (true&&(true&&(true&&zpt h l3 x)))=true then _ else _)
      cases h4:zpt h l3 x with
      | false=>exact zaw rfl rfl
      | true=>exact zay rfl (zbM hI (zaN (zkF x o1) (ih ..)))
  by_cases hr:l3=13
  ·refine zay (zkI hr) ?_
   by_cases hx:x.Rune=10
   ·refine zay (zkI hx) (zbM hI ?_)
    rw [ih,zhP,if_pos ⟨hr,hx⟩]
   ·exact zaw (zlb hx) (rest (fun e=>hx e.2))
  ·exact zaw (zlb hr) (rest (fun e=>hr e.1))
theorem ztw (s:ByteArray) (hs:s.size≤2147483648):∀ x∈(pcs s.data.toList).map pcG,okP x:=by
 intro x hx
 obtain ⟨p,hp,rfl⟩:=List.mem_map.1 hx
 obtain ⟨g1,g2,hok⟩:=zmc s.data.toList p hp
 have hl:=zlo s
 have h1:=hok.pos
 have hv:=hok.valid
 have hw:p.w≤4:=by
  by_cases h:p.r=65533∧p.w=1
  ·omega
  ·rw [← hok.width h]; exact (zhy _).2
 refine ⟨⟨?_,?_⟩,?_,?_,?_,?_⟩
 ·show -2147483648≤(p.r:Int); omega
 ·show (p.r:Int)≤2147483647; omega
 ·show 0≤(p.i:Int); omega
 ·show (p.i:Int)≤4000000000; omega
 ·show 0<(p.w:Int); omega
 ·show (p.w:Int)≤4; omega
theorem zvp (s:ByteArray) (hs:s.size≤2147483648):zd0 s=some (zav s):=by
 unfold zd0
 refine zbF (zaN rfl (zaN (ztv s hs) (zbF ?_)))
 have ho:=ztw s hs
 unfold zav
 generalize (pcs s.data.toList).map pcG=P at ho
 cases P with
 | nil=>rfl
 | cons x xs =>
  obtain ⟨o1,o2,o3,o4,o5⟩:=ho x (List.mem_cons_self ..)
  rw [zgo]
  have ih:=zq9 (fun (now13:Int) (now14:Int) (now15:Int) (head4:Int) (last13:Int) (last14:Int) (last15:Int) (last16:Bool) (open5:Bool)=>zax (open5) (zgK (⟨now13,now14,now15⟩:Gapi_Cell)<|some []) (some [])) (fun a b c h l1 l2 l3 l4=>rfl) xs x.At (x.At+x.Width) (zmD x) (kdP x) x.At x.Width x.Rune x.Broken (fun y hy=>ho y (List.mem_cons_of_mem _ hy))
  generalize zdh _ zb8 xs=ag at ih ⊢
  unfold zb8
  exact zbF (zbM o1 (zay rfl (zbM ⟨by omega,by omega⟩ (zaN (zkF x o1) ih))))
def Cov:Int→List Gapi_Cell→Int→Prop
 | a,[],b=>a=b
 | a,c::cs,b=>c.Span_From=a∧a<c.Span_To∧(0≤c.Columns∧c.Columns≤2)∧Cov c.Span_To cs b
def zvB:Int→List Gapi_Piece→Int→Prop
 | a,[],b=>a=b
 | a,x::xs,b=>x.At=a∧0<x.Width∧zvB (a+x.Width) xs b
theorem ziy:∀ (xs:List Gapi_Piece) (c:Gapi_Cell) (h l:Int) (b:Int),c.Span_From<c.Span_To→0≤c.Columns∧c.Columns≤2→zvB c.Span_To xs b→Cov c.Span_From (zgD c h l xs) b
 | [],c,h,l,b,h1,h2,h3=>⟨rfl,h1,h2,h3⟩
 | x::xs,c,h,l,b,h1,h2,h3=>by
  obtain ⟨g1,g2,g3⟩:=h3
  rw [← g1] at g3
  have hc:=zrh x
  rw [zhP]
  split
  ·exact ziy xs ⟨c.Span_From,x.At+x.Width,c.Columns⟩ h x.Rune b (by show c.Span_From<x.At+x.Width; omega) h2 g3
  split
  ·exact ziy xs ⟨c.Span_From,x.At+x.Width,max c.Columns (zmD x)⟩ h x.Rune b (by show c.Span_From<x.At+x.Width; omega) ⟨by show 0≤max c.Columns (zmD x); omega,by show max c.Columns (zmD x)≤2; omega⟩ g3
  ·refine ⟨rfl,h1,h2,?_⟩
   have:=ziy xs ⟨x.At,x.At+x.Width,zmD x⟩ (kdP x) x.Rune b (by show x.At<x.At+x.Width; omega) hc g3
   rw [← g1]; exact this
theorem zpH {xs:List Gapi_Piece} {a b:Int} (h:zvB a xs b):Cov a (zs4 xs) b:=by
 cases xs with
 | nil=>exact h
 | cons x xs =>
  obtain ⟨g1,g2,g3⟩:=h
  rw [← g1] at g3 ⊢
  exact ziy xs ⟨x.At,x.At+x.Width,zmD x⟩ (kdP x) x.Rune b (by show x.At<x.At+x.Width; omega) (zrh x) g3
theorem zmZ:∀ (ts:List Tok) (i:Nat),(∀ t∈ts,t.valid∨t.broken=true)→zvB (i:Int) ((place i ts).map pcG) ((i+(zgJ ts).length:Nat):Int)
 | [],i,_=>rfl
 | t::ts,i,h=>by
  have hb:=List.length_pos_iff.2 (ztX (h t (List.mem_cons_self ..)))
  have ih:=zmZ ts (i+t.bs.length) fun u hu=>h u (List.mem_cons_of_mem _ hu)
  refine ⟨rfl,?_,?_⟩
  ·show 0<(t.bs.length:Int); omega
  ·show zvB ((i:Int)+(t.bs.length:Int)) _ _
   rw [show (i:Int)+(t.bs.length:Int)=((i+t.bs.length:Nat):Int) by omega,zg3,List.length_append,← Nat.add_assoc]
   exact ih
theorem zeT (s:ByteArray):Cov 0 (zav s) (s.size:Int):=by
 unfold zav
 refine zpH ?_
 have h:=zmZ (zkS s.data.toList) 0 (ztj _)
 rw [zqT,Nat.zero_add,zlo] at h
 rw [show pcs s.data.toList=place 0 (zkS s.data.toList) from zqw _ 0]
 exact h
theorem zhl (s:ByteArray):(zav s).length≤s.size:=by
 have hc:=zeT s
 have key:∀ (cs:List Gapi_Cell) (a b:Int),Cov a cs b→a+cs.length≤b:=by
  intro cs
  induction cs with
  | nil=>intro a b h; have:a=b:=h; simp; omega
  | cons c cs ih =>
   intro a b h
   obtain ⟨h1,h2,_,h3⟩:=h
   have:=ih _ _ h3
   rw [List.length_cons]; push_cast; omega
 have:=key _ _ _ hc
 omega
end Go.Proofs.YtbempdelckaccaaGreatDoor

namespace Go.Proofs.YtbempdelckaccaaGreatDoor
open Go.RowKit Go.Lib
set_option linter.unusedVariables false
set_option linter.unusedSimpArgs false
def zfE (l1:Gapi_Layout):Option Bool :=
zax (decide ((8:Int)≤l1.Width)) (
zax (decide ((l1.Width:Int)≤256)) (
zax (decide ((4:Int)≤l1.Height)) (
zax (decide ((l1.Height:Int)≤200)) (
zax (decide ((0:Int)≤l1.Turn)) (
zax (decide ((l1.Turn:Int)≤7)) (
zax (decide ((0:Int)≤l1.Every)) (
some (decide ((l1.Every:Int)≤512))
) (
some false
)
) (
some false
)
) (
some false
)
) (
some false
)
) (
some false
)
) (
some false
)
) (
some false
)
theorem zkb {l1:Gapi_Layout} {r:Bool} (h:zfE l1=some r):FnP Tryz.prog 64 [.agg (zr0 l1).toArray] (.bool r):=by
 unfold zfE at h
 refine FnP.intro Tryz.func64 rfl Tryz.ntmps64 (by simp) ?_
 intro w0 K
 refine zyG ?_
 refine zdQ rfl dc rfl (fun b1 => ?_)
 refine zyR 1 rfl (zyH (zac ziV rfl dc rfl (show _=0 from rfl) (zan (k:=0) zbS rfl dc rfl rfl rfl (zaW rfl zeg (zyR 1 rfl ?_)))))
 refine zyS (s:=6) rfl h (fun h => ?_) (fun h => ?_)
 ·
  refine zac ziV rfl dc rfl (show _=0 from rfl) (zan (k:=0) zbS rfl dc rfl rfl rfl (zaW rfl zdP (zyR 2 rfl ?_)))
  refine zyS (s:=11) rfl h (fun h => ?_) (fun h => ?_)
  ·
   refine zac zkz rfl dc rfl (show _=1 from rfl) (zan (k:=0) zbS rfl dc rfl rfl rfl (zaW rfl zeg (zyR 2 rfl ?_)))
   refine zyS (s:=16) rfl h (fun h => ?_) (fun h => ?_)
   ·
    refine zac zkz rfl dc rfl (show _=1 from rfl) (zan (k:=0) zbS rfl dc rfl rfl rfl (zaW rfl zdP (zyR 2 rfl ?_)))
    refine zyS (s:=21) rfl h (fun h => ?_) (fun h => ?_)
    ·
     refine zac ziU rfl dc rfl (show _=2 from rfl) (zan (k:=0) zbS rfl dc rfl rfl rfl (zaW rfl zeg (zyR 2 rfl ?_)))
     refine zyS (s:=26) rfl h (fun h => ?_) (fun h => ?_)
     ·
      refine zac ziU rfl dc rfl (show _=2 from rfl) (zan (k:=0) zbS rfl dc rfl rfl rfl (zaW rfl zdP (zyR 2 rfl ?_)))
      refine zyS (s:=31) rfl h (fun h => ?_) (fun h => ?_)
      ·
       refine zac ziT rfl dc rfl (show _=3 from rfl) (zan (k:=0) zbS rfl dc rfl rfl rfl (zaW rfl zeg (zyR 2 rfl ?_)))
       refine zyS (s:=36) rfl h (fun h => ?_) (fun h => ?_)
       ·
        refine zac ziT rfl dc rfl (show _=3 from rfl) (zan (k:=0) zbS rfl dc rfl rfl rfl (zaW rfl zdP (zyR 2 rfl (zyN (zaA ?_)))))
        cases h
        exact zaF (rs:=[.tmp 2]) () (.inl rfl) Tryz.results64 (.cons (.tmp rfl) .nil) rfl Splits.nil
       refine zyR 5 rfl (zyN (zaA ?_))
       cases h
       exact zaF (rs:=[.tmp 2]) () (.inl rfl) Tryz.results64 (.cons (.tmp rfl) .nil) rfl Splits.nil
      refine zyR 10 rfl (zyN (zaA ?_))
      cases h
      exact zaF (rs:=[.tmp 2]) () (.inl rfl) Tryz.results64 (.cons (.tmp rfl) .nil) rfl Splits.nil
     refine zyR 14 rfl ?_
     refine zyR 1 rfl (zyN (zaA ?_))
     cases h
     exact zaF (rs:=[.tmp 2]) () (.inl rfl) Tryz.results64 (.cons (.tmp rfl) .nil) rfl Splits.nil
    refine zyR 14 rfl ?_
    refine zyR 6 rfl (zyN (zaA ?_))
    cases h
    exact zaF (rs:=[.tmp 2]) () (.inl rfl) Tryz.results64 (.cons (.tmp rfl) .nil) rfl Splits.nil
   refine zyR 14 rfl ?_
   refine zyR 11 rfl (zyN (zaA ?_))
   cases h
   exact zaF (rs:=[.tmp 2]) () (.inl rfl) Tryz.results64 (.cons (.tmp rfl) .nil) rfl Splits.nil
  refine zyR 14 rfl ?_
  refine zyR 14 rfl ?_
  refine zyR 2 rfl (zyN (zaA ?_))
  cases h
  exact zaF (rs:=[.tmp 2]) () (.inl rfl) Tryz.results64 (.cons (.tmp rfl) .nil) rfl Splits.nil
 refine zyR 14 rfl ?_
 refine zyR 14 rfl ?_
 refine zyR 7 rfl (zyN (zaA ?_))
 cases h
 exact zaF (rs:=[.tmp 2]) () (.inl rfl) Tryz.results64 (.cons (.tmp rfl) .nil) rfl Splits.nil
def zbV (t1:Gpage_turner) (k1:Int):Option Bool :=
zak (zcN t1.cells k1) fun (q1:Gapi_Cell) =>
grd (I64 (q1.Span_From+1)) <|
zax ((q1.Span_To:Int)==(q1.Span_From+1)) (
zak (zg2 t1.s q1.Span_From) fun (c1:Int) =>
some ((c1:Int)==32)
) (
some false
)
theorem zet {bt1:Nat} {t1:Gpage_turner} {t1_h0 t1_h1 t1_h2:Hd} {k1:Int} {r:Bool} (h:zbV t1 k1=some r):FnR Tryz.prog 121 [zP bt1,zI k1] [cells bt1 [.string t1.s,t1_h0.v,t1_h1.v,t1_h2.v,zI t1.first,zI t1.rest] 203,zv6 t1_h0.v t1.cells,zv0 t1_h1.v t1.wide,zv0 t1_h2.v t1.ends] [] (fun _:Unit=>(.bool r)) (fun _=>[]):=by
 unfold zbV at h
 refine FnR.intro Tryz.func121 rfl Tryz.ntmps121 (by simp) ?_
 intro w0 K hrd
 refine zyG (zyR 1 rfl (zyH (zyR 1 rfl (zar rfl dc rfl (zac zgq rfl dc rfl (show _=1 from rfl) (za3 (i:=0) hrd rfl zpf rfl dc rfl rfl (zyR 1 rfl ?_)))))))
 obtain ⟨q1,hq1,h⟩:=zbx h
 refine zbj (hrd.vw (i:=1) rfl) hq1 Tryz.underlying94 zp1 rfl dc rfl rfl rfl (zac ziR rfl dc rfl (show _=(0+(k1:Int).toNat)*3 from rfl) (zdz (m:=0+(k1:Int).toNat) (j:=0) (i:=1) (q:=q1) (cs:=[zI q1.Span_From,zI q1.Span_To]) hrd rfl zmO zep rfl dc rfl (Vw.get (hrd.vw (i:=1) rfl) hq1) rfl rfl rfl ?_))
 refine zbg zpP rfl dc (fun b1 => ?_)
 refine zaU (k:=0) (vs:=[zI q1.Span_From,zI q1.Span_To]) (l':=[zI q1.Span_From,zI q1.Span_To]) zjS rfl rfl rfl rfl rfl (show _≤_ by simp) rfl rfl ?_
 refine zyN (zaH ?_)
 obtain ⟨hg1,h⟩:=zbw h
 refine zfH (b:=(q1.Span_To:Int)==(q1.Span_From+1)) (fun hb1 => ?_) (fun hb1 => ?_)
 ·
  have h:=zg9 hb1 h
  obtain ⟨c1,hq2,h⟩:=zbx h
  refine zbz 13 [(0,14,.pointer (some ⟨b1,1,none⟩)),(1,15,zI q1.Span_To),(2,16,zP b1),(3,17,zI q1.Span_From),(4,18,zI (q1.Span_From+1)),(5,19,.bool true),(6,20,.bool true),(7,21,zP bt1),(8,22,zP bt1),(9,23,zP bt1),(10,24,.string t1.s),(11,25,zP b1),(12,26,zI q1.Span_From)] mixed kr kr dc (by rfl) kr kr (zae ?_ (zae ?_ (zae ?_ (zae ?_ (zae ?_ (zae ?_ (zyP 2 6 rfl (zae ?_ (zae ?_ (zae ?_ (zae ?_ (zae ?_ DrawPre.nil)))))))))))) ?_
  · exact fun D n d c u i=>zac zeu rfl dc (za8 (by rfl) rfl) (show _=1 from rfl) (zaf 0 u i rfl)
  · exact fun D n d c u i=>zan (k:=0) zbS rfl dc (zaa (m:=0) u rfl (d 0 dc)) rfl rfl (zaf 1 u i rfl)
  · exact fun D n d c u i=>zac zev rfl dc (za8 (by rfl) rfl) (show _=0 from rfl) (zaf 2 u i rfl)
  · exact fun D n d c u i=>zan (k:=0) zbS rfl dc (zaa (m:=2) u rfl (d 2 dc)) rfl rfl (zaf 3 u i rfl)
  · exact fun D n d c u i=>zcc rfl dc (zaa (m:=3) u rfl (d 3 dc)) rfl (zaV (r:=q1.Span_From+1) (IntWalk.i64_in _ hg1)) (zaf 4 u i rfl)
  · exact fun D n d c u i=>zcc rfl dc (zaa (m:=1) u rfl (d 1 dc)) (zaa (m:=4) u rfl (d 4 dc)) za1 (zf8 (show Value.bool ((q1.Span_To:Int)==(q1.Span_From+1))=Value.bool true from congrArg Value.bool hb1) (zaf 5 u i rfl))
  · exact fun D n d c u i=>zar (zeY rfl (zaa (m:=6) u rfl (d 6 dc))) dc (zaa (m:=7) u rfl (d 7 dc)) (zaf 8 u i rfl)
  · exact fun D n d c u i=>zac zoP (zeY rfl (zaa (m:=6) u rfl (d 6 dc))) dc (zaa (m:=8) u rfl (d 8 dc)) (show _=0 from rfl) (zaf 9 u i rfl)
  · exact fun D n d c u i=>za3 (i:=0) hrd rfl zjc (zeY rfl (zaa (m:=6) u rfl (d 6 dc))) dc (zaa (m:=9) u rfl (d 9 dc)) rfl (zaf 10 u i rfl)
  · exact fun D n d c u i=>zac zev (zeY rfl (zaa (m:=6) u rfl (d 6 dc))) dc (za8 (by rfl) rfl) (show _=0 from rfl) (zaf 11 u i rfl)
  · exact fun D n d c u i=>zan (k:=0) zbS (zeY rfl (zaa (m:=6) u rfl (d 6 dc))) dc (zaa (m:=11) u rfl (d 11 dc)) rfl rfl (zaf 12 u i rfl)
  refine zcb rfl dc rfl rfl (za2 Tryz.underlying9 hq2) (zaW rfl za1 (zyR 2 rfl (zyN (zaA ?_))))
  cases h
  exact zaF (rs:=[.tmp 4]) () (.inl rfl) Tryz.results121 (.cons (.tmp rfl) .nil) rfl Splits.nil
 have h:=zha hb1 h
 refine zbz 13 [(0,14,.pointer (some ⟨b1,1,none⟩)),(1,15,zI q1.Span_To),(2,16,zP b1),(3,17,zI q1.Span_From),(4,18,zI (q1.Span_From+1)),(5,19,.bool false),(6,20,.bool false),(7,21,undef),(8,22,undef),(9,23,undef),(10,24,undef),(11,25,undef),(12,26,undef)] mixed kr kr dc (by rfl) kr kr (zae ?_ (zae ?_ (zae ?_ (zae ?_ (zae ?_ (zae ?_ (zyP 7 6 rfl DrawPre.nil))))))) ?_
 · exact fun D n d c u i=>zac zeu rfl dc (za8 (by rfl) rfl) (show _=1 from rfl) (zaf 0 u i rfl)
 · exact fun D n d c u i=>zan (k:=0) zbS rfl dc (zaa (m:=0) u rfl (d 0 dc)) rfl rfl (zaf 1 u i rfl)
 · exact fun D n d c u i=>zac zev rfl dc (za8 (by rfl) rfl) (show _=0 from rfl) (zaf 2 u i rfl)
 · exact fun D n d c u i=>zan (k:=0) zbS rfl dc (zaa (m:=2) u rfl (d 2 dc)) rfl rfl (zaf 3 u i rfl)
 · exact fun D n d c u i=>zcc rfl dc (zaa (m:=3) u rfl (d 3 dc)) rfl (zaV (r:=q1.Span_From+1) (IntWalk.i64_in _ hg1)) (zaf 4 u i rfl)
 · exact fun D n d c u i=>zcc rfl dc (zaa (m:=1) u rfl (d 1 dc)) (zaa (m:=4) u rfl (d 4 dc)) za1 (zf8 (show Value.bool ((q1.Span_To:Int)==(q1.Span_From+1))=Value.bool false from congrArg Value.bool hb1) (zaf 5 u i rfl))
 refine zyR 4 rfl (zyN (zaA ?_))
 cases h
 exact zaF (rs:=[.tmp 4]) () (.inl rfl) Tryz.results121 (.cons (.tmp rfl) .nil) rfl Splits.nil
def zbT (t1:Gpage_turner) (from1:Int) (to1:Int):Option Int :=
zak (zcN t1.ends to1) fun (q1:Int) =>
zak (zcN t1.wide (max from1 q1)) fun (q2:Int) =>
zak (zcN t1.wide from1) fun (q3:Int) =>
grd (I64 (q2 - q3)) <|
some (q2 - q3)
theorem zd4 {bt1:Nat} {t1:Gpage_turner} {t1_h0 t1_h1 t1_h2:Hd} {from1:Int} {to1:Int} {r:Int} (h:zbT t1 from1 to1=some r):FnR Tryz.prog 123 [zP bt1,zI from1,zI to1] [cells bt1 [.string t1.s,t1_h0.v,t1_h1.v,t1_h2.v,zI t1.first,zI t1.rest] 203,zv6 t1_h0.v t1.cells,zv0 t1_h1.v t1.wide,zv0 t1_h2.v t1.ends] [] (fun _:Unit=>(zI r)) (fun _=>[]):=by
 unfold zbT at h
 refine FnR.intro Tryz.func123 rfl Tryz.ntmps123 (by simp) ?_
 intro w0 K hrd
 refine zyG (zyR 1 rfl (zyH (zyR 2 rfl (zar rfl dc rfl (zac zif rfl dc rfl (show _=3 from rfl) (za3 (i:=0) hrd rfl zgF rfl dc rfl rfl (zyR 1 rfl ?_)))))))
 obtain ⟨q1,hq1,h⟩:=zbx h
 refine zbj (hrd.vw (i:=3) rfl) hq1 Tryz.underlying49 zf9 rfl dc rfl rfl rfl (zcI (n:=0+(to1:Int).toNat) (j:=0) (i:=3) (q:=q1) hrd rfl zbS zcO rfl dc rfl (Vw.get (hrd.vw (i:=3) rfl) hq1) rfl dc rfl (zmw rfl dc rfl rfl (zyR 1 rfl (zyN (zaH ?_)))))
 obtain ⟨q2,hq2,h⟩:=zbx h
 obtain ⟨q3,hq3,h⟩:=zbx h
 obtain ⟨hg1,h⟩:=zbw h
 refine zbz 14 [(0,16,zP bt1),(1,17,zP bt1),(2,18,.pointer (some ⟨bt1,2,none⟩)),(3,19,t1_h1.v),(4,20,zI (max from1 q1)),(5,21,.pointer (some ⟨zdK t1_h1.v,(0+(max from1 q1:Int).toNat)*1,none⟩)),(6,22,zI q2),(7,23,zP bt1),(8,24,zP bt1),(9,25,.pointer (some ⟨bt1,2,none⟩)),(10,26,t1_h1.v),(11,27,zI from1),(12,28,.pointer (some ⟨zdK t1_h1.v,(0+(from1:Int).toNat)*1,none⟩)),(13,29,zI q3)] mixed kr kr dc (by rfl) kr kr (zyP 1 0 rfl (zae ?_ (zae ?_ (zae ?_ (zyP 1 4 rfl (zae ?_ (zae ?_ (zyP 1 7 rfl (zae ?_ (zae ?_ (zae ?_ (zyP 1 11 rfl (zae ?_ (zae ?_ DrawPre.nil)))))))))))))) ?_
 · exact fun D n d c u i=>zar rfl dc (zaa (m:=0) u rfl (d 0 dc)) (zaf 1 u i rfl)
 · exact fun D n d c u i=>zac zig rfl dc (zaa (m:=1) u rfl (d 1 dc)) (show _=2 from rfl) (zaf 2 u i rfl)
 · exact fun D n d c u i=>za3 (i:=0) hrd rfl zgF rfl dc (zaa (m:=2) u rfl (d 2 dc)) rfl (zaf 3 u i rfl)
 · exact fun D n d c u i=>zbj (hrd.vw (i:=2) rfl) hq2 Tryz.underlying49 zf9 rfl dc (zaa (m:=3) u rfl (d 3 dc)) (zaa (m:=4) u rfl (d 4 dc)) rfl (zaf 5 u i rfl)
 · exact fun D n d c u i=>zcI (n:=0+(max from1 q1:Int).toNat) (j:=0) (i:=2) (q:=q2) hrd rfl zbS zcO rfl dc (zaa (m:=5) u rfl (d 5 dc)) (Vw.get (hrd.vw (i:=2) rfl) hq2) rfl dc rfl (zaf 6 u i rfl)
 · exact fun D n d c u i=>zar rfl dc (zaa (m:=7) u rfl (d 7 dc)) (zaf 8 u i rfl)
 · exact fun D n d c u i=>zac zig rfl dc (zaa (m:=8) u rfl (d 8 dc)) (show _=2 from rfl) (zaf 9 u i rfl)
 · exact fun D n d c u i=>za3 (i:=0) hrd rfl zgF rfl dc (zaa (m:=9) u rfl (d 9 dc)) rfl (zaf 10 u i rfl)
 · exact fun D n d c u i=>zbj (hrd.vw (i:=2) rfl) hq3 Tryz.underlying49 zf9 rfl dc (zaa (m:=10) u rfl (d 10 dc)) (zaa (m:=11) u rfl (d 11 dc)) rfl (zaf 12 u i rfl)
 · exact fun D n d c u i=>zcI (n:=0+(from1:Int).toNat) (j:=0) (i:=2) (q:=q3) hrd rfl zbS zcO rfl dc (zaa (m:=12) u rfl (d 12 dc)) (Vw.get (hrd.vw (i:=2) rfl) hq3) rfl dc rfl (zaf 13 u i rfl)
 refine zaW rfl (zcd (r:=q2 - q3) (IntWalk.i64_in _ hg1)) (zyR 1 rfl (zyN (zaA ?_)))
 cases h
 exact zaF (rs:=[.tmp 6]) () (.inl rfl) Tryz.results123 (.cons (.tmp rfl) .nil) rfl Splits.nil
def zcr (t1:Gpage_turner) (from1:Int):Option Int :=
zax ((from1:Int)==0) (
some t1.first
) (
some t1.rest
)
theorem zeK {bt1:Nat} {t1:Gpage_turner} {t1_h0 t1_h1 t1_h2:Hd} {from1:Int} {r:Int} (h:zcr t1 from1=some r):FnR Tryz.prog 124 [zP bt1,zI from1] [cells bt1 [.string t1.s,t1_h0.v,t1_h1.v,t1_h2.v,zI t1.first,zI t1.rest] 203,zv6 t1_h0.v t1.cells,zv0 t1_h1.v t1.wide,zv0 t1_h2.v t1.ends] [] (fun _:Unit=>(zI r)) (fun _=>[]):=by
 unfold zcr at h
 refine FnR.intro Tryz.func124 rfl Tryz.ntmps124 (by simp) ?_
 intro w0 K hrd
 refine zyG (zyR 1 rfl (zyN (zaH (zyG (zyR 1 rfl (zaW rfl za1 (zyN ?_)))))))
 refine zyB rfl h (fun h => ?_) (fun h => ?_)
 ·
  refine zyG (zyR 1 rfl (zar rfl dc rfl (zac zsm rfl dc rfl (show _=4 from rfl) (za3 (i:=0) hrd rfl zbS rfl dc rfl rfl (zyR 1 rfl (zyN (zaA (zai ?_))))))))
  cases h
  exact zaF (rs:=[.tmp 4]) () (.inl rfl) Tryz.results124 (.cons (.tmp rfl) .nil) rfl Splits.nil
 refine zau (zaI (zyG (zyR 1 rfl (zar rfl dc rfl (zac zsl rfl dc rfl (show _=5 from rfl) (za3 (i:=0) hrd rfl zbS rfl dc rfl rfl (zyR 1 rfl (zyN (zaA ?_)))))))))
 cases h
 exact zaF (rs:=[.tmp 4]) () (.inl rfl) Tryz.results124 (.cons (.tmp rfl) .nil) rfl Splits.nil
def zdN (t1:Gpage_turner) (from1:Int) (to1:Int):Option Bool :=
zbr (fun (j1:Option Bool) =>
zax (decide ((0:Int)<from1)) (
zak (zbV t1 from1) fun (r1:Bool) =>
zax (r1) (
some false
) (
j1
)
) (
j1
)
) (
zak (zbT t1 from1 to1) fun (r2:Int) =>
zak (zcr t1 from1) fun (r3:Int) =>
zax (decide ((r2:Int)≤r3)) (
some true
) (
zak (zcN t1.ends to1) fun (q1:Int) =>
grd (I64 (from1+1)) <|
some (decide ((q1:Int)≤(from1+1)))
)
)
theorem zh8 {bt1:Nat} {t1:Gpage_turner} {t1_h0 t1_h1 t1_h2:Hd} {from1:Int} {to1:Int} {r:Bool} (h:zdN t1 from1 to1=some r):FnR Tryz.prog 122 [zP bt1,zI from1,zI to1] [cells bt1 [.string t1.s,t1_h0.v,t1_h1.v,t1_h2.v,zI t1.first,zI t1.rest] 203,zv6 t1_h0.v t1.cells,zv0 t1_h1.v t1.wide,zv0 t1_h2.v t1.ends] [] (fun _:Unit=>(.bool r)) (fun _=>[]):=by
 unfold zdN at h
 refine FnR.intro Tryz.func122 rfl Tryz.ntmps122 (by simp) ?_
 intro w0 K hrd
 obtain ⟨j1,hj1,h⟩:=zbO h
 refine zaY (β:=Unit) 1 rfl (fun b=>j1=some r) (fun b=>[]) (fun b=>[(0,zP bt1),(1,zI from1),(2,zI to1)]) (fun b=>[]) (fun cut => ?_) ?_
 ·
  refine zyG (zyR 1 rfl (zyN (cut (zyG (zyR 1 rfl (zaW rfl zcR (zyR 1 rfl ?_)))))))
  refine zyS (s:=9) rfl h (fun h => ?_) (fun h => ?_)
  ·
   refine zyR 2 rfl ?_
   obtain ⟨r1,hq1,h⟩:=zbx h
   refine zbZ (v:=.bool r1) (vs:=[zP bt1,zI from1]) hrd rfl dc rfl rfl rfl zq6 (zet (bt1:=bt1) (t1:=t1) (t1_h0:=t1_h0) (t1_h1:=t1_h1) (t1_h2:=t1_h2) hq1) (.ro 0 rfl (.ro 1 rfl (.ro 2 rfl (.ro 3 rfl .nil)))) (zyR 1 rfl (zyN ?_))
   refine zyB rfl h (fun h => ?_) (fun h => ?_)
   ·
    refine zyG (zyR 1 rfl (zyN (zaA (zai ?_))))
    cases h
    exact zaF (rs:=[.tmp 6]) () (.inl rfl) Tryz.results122 (.cons (.tmp rfl) .nil) rfl Splits.nil
   refine zau ?_
   exact zaq () h rfl (zba rfl) Splits.nil
  refine zyR 4 rfl (zyN (zaT rfl (zau ?_)))
  exact zaq () h rfl (zba rfl) Splits.nil
 rintro _ h
 rw [hj1] at h
 refine zyG (zyR 3 rfl ?_)
 obtain ⟨r2,hq2,h⟩:=zbx h
 refine zbZ (v:=zI r2) (vs:=[zP bt1,zI from1,zI to1]) hrd rfl dc rfl rfl rfl zq5 (zd4 (bt1:=bt1) (t1:=t1) (t1_h0:=t1_h0) (t1_h1:=t1_h1) (t1_h2:=t1_h2) hq2) (.ro 0 rfl (.ro 1 rfl (.ro 2 rfl (.ro 3 rfl .nil)))) (zyR 2 rfl ?_)
 obtain ⟨r3,hq3,h⟩:=zbx h
 refine zbZ (v:=zI r3) (vs:=[zP bt1,zI from1]) hrd rfl dc rfl rfl rfl zq4 (zeK (bt1:=bt1) (t1:=t1) (t1_h0:=t1_h0) (t1_h1:=t1_h1) (t1_h2:=t1_h2) hq3) (.ro 0 rfl (.ro 1 rfl (.ro 2 rfl (.ro 3 rfl .nil)))) (zaW rfl zdP (zyR 1 rfl ?_))
 refine zyS (s:=22) rfl h (fun h => ?_) (fun h => ?_)
 ·
  refine zyR 12 rfl (zyN ?_)
  refine zaA ?_
  cases h
  exact zaF (rs:=[.tmp 6]) () (.inl rfl) Tryz.results122 (.cons (.tmp rfl) .nil) rfl Splits.nil
 refine zyR 1 rfl (zar rfl dc rfl (zac zif rfl dc rfl (show _=3 from rfl) (za3 (i:=0) hrd rfl zgF rfl dc rfl rfl (zyR 1 rfl ?_))))
 obtain ⟨q1,hq4,h⟩:=zbx h
 refine zbj (hrd.vw (i:=3) rfl) hq4 Tryz.underlying49 zf9 rfl dc rfl rfl rfl (zcI (n:=0+(to1:Int).toNat) (j:=0) (i:=3) (q:=q1) hrd rfl zbS zcO rfl dc rfl (Vw.get (hrd.vw (i:=3) rfl) hq4) rfl dc rfl (zyR 1 rfl ?_))
 obtain ⟨hg1,h⟩:=zbw h
 refine zaW rfl (zaV (r:=from1+1) (IntWalk.i64_in _ hg1)) (zaW rfl zdP (zyR 2 rfl (zyN (zaA ?_))))
 cases h
 exact zaF (rs:=[.tmp 6]) () (.inl rfl) Tryz.results122 (.cons (.tmp rfl) .nil) rfl Splits.nil
def zdu (t1:Gpage_turner) (from1:Int) (to1:Int):Option Int :=
zbr (fun (j1:Int→Option Int) =>
zak (zcr t1 from1) fun (r1:Int) =>
zak (zbT t1 from1 to1) fun (r2:Int) =>
grd (I64 (r1 - r2)) <|
zax (decide ((0:Int)<(r1 - r2))) (
grd (I64 ((r1 - r2)*(r1 - r2))) <|
j1 ((r1 - r2)*(r1 - r2))
) (
j1 0
)
) (fun (n1:Int) =>
zbr (fun (j2:Int→Option Int) =>
grd (I64 (to1 - 1)) <|
zak (zbV t1 (to1 - 1)) fun (r3:Bool) =>
zax (!r3) (
grd (I64 (n1+1000)) <|
j2 (n1+1000)
) (
j2 n1
)
) (fun (n2:Int) =>
some n2
)
)
theorem zhF {bt1:Nat} {t1:Gpage_turner} {t1_h0 t1_h1 t1_h2:Hd} {from1:Int} {to1:Int} {r:Int} (h:zdu t1 from1 to1=some r):FnR Tryz.prog 125 [zP bt1,zI from1,zI to1] [cells bt1 [.string t1.s,t1_h0.v,t1_h1.v,t1_h2.v,zI t1.first,zI t1.rest] 203,zv6 t1_h0.v t1.cells,zv0 t1_h1.v t1.wide,zv0 t1_h2.v t1.ends] [] (fun _:Unit=>(zI r)) (fun _=>[]):=by
 unfold zdu at h
 refine FnR.intro Tryz.func125 rfl Tryz.ntmps125 (by simp) ?_
 intro w0 K hrd
 obtain ⟨j1,hj1,h⟩:=zbO h
 refine zaY (β:=Int) 2 rfl (fun b=>j1 b=some r) (fun b=>[]) (fun b=>[(0,zP bt1),(2,zI to1),(7,zI b)]) (fun b=>[]) (fun cut => ?_) ?_
 ·
  refine zyG (zyR 1 rfl (zyH (zyR 1 rfl (zyN (cut (zyG (zyR 1 rfl ?_)))))))
  refine zyR 1 rfl ?_
  obtain ⟨r1,hq1,h⟩:=zbx h
  refine zbZ (v:=zI r1) (vs:=[zP bt1,zI from1]) hrd rfl dc rfl rfl rfl zq4 (zeK (bt1:=bt1) (t1:=t1) (t1_h0:=t1_h0) (t1_h1:=t1_h1) (t1_h2:=t1_h2) hq1) (.ro 0 rfl (.ro 1 rfl (.ro 2 rfl (.ro 3 rfl .nil)))) (zyR 3 rfl ?_)
  obtain ⟨r2,hq2,h⟩:=zbx h
  refine zbZ (v:=zI r2) (vs:=[zP bt1,zI from1,zI to1]) hrd rfl dc rfl rfl rfl zq5 (zd4 (bt1:=bt1) (t1:=t1) (t1_h0:=t1_h0) (t1_h1:=t1_h1) (t1_h2:=t1_h2) hq2) (.ro 0 rfl (.ro 1 rfl (.ro 2 rfl (.ro 3 rfl .nil)))) ?_
  obtain ⟨hg1,h⟩:=zbw h
  refine zaW rfl (zcd (r:=r1 - r2) (IntWalk.i64_in _ hg1)) (zyR 1 rfl (zyH (zyR 1 rfl (zaW rfl zcR (zyN ?_)))))
  refine zyB rfl h (fun h => ?_) (fun h => ?_)
  ·
   refine zaB (zyR 2 rfl ?_)
   obtain ⟨hg2,h⟩:=zbw h
   refine zaW rfl (zrq (r:=(r1 - r2)*(r1 - r2)) (IntWalk.i64_in _ hg2)) (zyR 1 rfl (zaX ?_))
   exact zaq ((r1 - r2)*(r1 - r2)) h rfl (zba rfl) Splits.nil
  refine zau ?_
  exact zaq 0 h rfl (zba rfl) Splits.nil
 rintro n1 h
 rw [hj1] at h
 obtain ⟨j2,hj2,h⟩:=zbO h
 refine zaY (β:=Int) 0 rfl (fun b=>j2 b=some r) (fun b=>[]) (fun b=>[(7,zI b)]) (fun b=>[]) (fun cut => ?_) ?_
 ·
  refine cut (zyG (zyR 2 rfl ?_))
  obtain ⟨hg3,h⟩:=zbw h
  refine zaW rfl (zcd (r:=to1 - 1) (IntWalk.i64_in _ hg3)) ?_
  obtain ⟨r3,hq3,h⟩:=zbx h
  refine zbZ (v:=.bool r3) (vs:=[zP bt1,zI (to1 - 1)]) hrd rfl dc rfl rfl rfl zq6 (zet (bt1:=bt1) (t1:=t1) (t1_h0:=t1_h0) (t1_h1:=t1_h1) (t1_h2:=t1_h2) hq3) (.ro 0 rfl (.ro 1 rfl (.ro 2 rfl (.ro 3 rfl .nil)))) (zdJ rfl dc rfl zcA (zyN ?_))
  refine zyB rfl h (fun h => ?_) (fun h => ?_)
  ·
   refine zaB (zyR 1 rfl ?_)
   obtain ⟨hg4,h⟩:=zbw h
   refine zaW rfl (zaV (r:=n1+1000) (IntWalk.i64_in _ hg4)) (zyR 1 rfl (zaX ?_))
   exact zaq (n1+1000) h rfl (zba rfl) Splits.nil
  refine zau ?_
  exact zaq n1 h rfl (zba rfl) Splits.nil
 rintro n2 h
 rw [hj2] at h
 refine zyG (zyR 2 rfl (zyN (zaA ?_)))
 cases h
 exact zaF (rs:=[.tmp 6]) () (.inl rfl) Tryz.results125 (.cons (.tmp rfl) .nil) rfl Splits.nil
def zbK (t1:Gpage_turner) (from3:Int) (j2:(List Gpage_best)→Option ((List Int)×Int)) (ag2:(List Gpage_best)→Int→Option ((List Int)×Int)) (all8:List Gpage_best) (to3:Int):Option ((List Int)×Int) :=
zax (decide ((to3:Int)≤(t1.cells.length:Int))) (
zbr (fun (j3:(List Gpage_best)→Option ((List Int)×Int)) =>
zak (zdN t1 from3 to3) fun (r1:Bool) =>
zax (!r1) (
zak (zbT t1 from3 to3) fun (r2:Int) =>
zak (zcr t1 from3) fun (r3:Int) =>
zax (decide ((r3:Int)<r2)) (
j2 all8
) (
j3 all8
)
) (
zbr (fun (j4:Int→Int→Option ((List Int)×Int)) =>
zax (decide ((to3:Int)<(t1.cells.length:Int))) (
zak (zcN all8 to3) fun (q2:Gpage_best) =>
zax (decide ((q2.rows:Int)<0)) (
j3 all8
) (
zak (zdu t1 from3 to3) fun (r4:Int) =>
zak (zcN all8 to3) fun (q3:Gpage_best) =>
grd (I64 (r4+q3.cost)) <|
grd (I64 (q3.rows+1)) <|
j4 (r4+q3.cost) (q3.rows+1)
)
) (
j4 0 1
)
) (fun (b2:Int) (b3:Int) =>
zak (zcN all8 from3) fun (q4:Gpage_best) =>
zax (decide ((q4.rows:Int)<0)) (
zak (zcN all8 from3) fun (q5:Gpage_best) =>
j3 (all8.set (from3:Int).toNat (⟨b2,b3,to3⟩:Gpage_best))
) (
zax (decide ((b2:Int)<q4.cost)) (
zak (zcN all8 from3) fun (q6:Gpage_best) =>
j3 (all8.set (from3:Int).toNat (⟨b2,b3,to3⟩:Gpage_best))
) (
zax ((b2:Int)==q4.cost) (
zax (decide ((b3:Int)≤q4.rows)) (
zak (zcN all8 from3) fun (q7:Gpage_best) =>
j3 (all8.set (from3:Int).toNat (⟨b2,b3,to3⟩:Gpage_best))
) (
j3 all8
)
) (
j3 all8
)
)
)
)
)
) (fun (all9:List Gpage_best) =>
grd (I64 (to3+1)) <|
ag2 all9 (to3+1)
)
) (
j2 all8
)
def zbL (t1:Gpage_turner) (j1:(List Gpage_best)→Option ((List Int)×Int)) (ag1:(List Gpage_best)→Int→Option ((List Int)×Int)) (all4:List Gpage_best) (from3:Int):Option ((List Int)×Int) :=
zax (decide ((0:Int)≤from3)) (
zbr (fun (j2:(List Gpage_best)→Option ((List Int)×Int)) =>
zak (zcN all4 from3) fun (q1:Gpage_best) =>
grd (I64 (from3+1)) <|
zaM (fun _ _=>none) (zbK t1 from3 j2) zb4 (all4.set (from3:Int).toNat (⟨q1.cost,(-1),q1.to_⟩:Gpage_best)) (from3+1)
) (fun (all5:List Gpage_best) =>
grd (I64 (from3 - 1)) <|
ag1 all5 (from3 - 1)
)
) (
j1 all4
)
def zby (t1:Gpage_turner) (all1:List Gpage_best) (j5:(List Int)→Option ((List Int)×Int)) (ag3:(List Int)→Int→Option ((List Int)×Int)) (out4:List Int) (from6:Int):Option ((List Int)×Int) :=
zax (decide ((from6:Int)<(t1.cells.length:Int))) (
zak (zcN all1 from6) fun (q8:Gpage_best) =>
grd (out4.length+1≤2147483648) <|
zak (zcN all1 from6) fun (q9:Gpage_best) =>
ag3 (out4++[q8.to_]) q9.to_
) (
j5 out4
)
def zdt (t1:Gpage_turner):Option ((List Int)×Int) :=
zbr (fun (j1:(List Gpage_best)→Option ((List Int)×Int)) =>
grd (I64 ((t1.cells.length:Int)+1)) <|
grd (0≤((t1.cells.length:Int)+1)∧((t1.cells.length:Int)+1)≤2147483648) <|
grd (I64 ((t1.cells.length:Int) - 1)) <|
zaM (fun _ _=>none) (zbL t1 j1) zb4 (List.replicate ((t1.cells.length:Int)+1:Int).toNat (⟨0,0,0⟩:Gpage_best):List Gpage_best) ((t1.cells.length:Int) - 1)
) (fun (all1:List Gpage_best) =>
zbr (fun (j5:(List Int)→Option ((List Int)×Int)) =>
zaM (fun _ _=>none) (zby t1 all1 j5) zb4 ([]:List Int) 0
) (fun (out1:List Int) =>
zak (zcN all1 0) fun (q10:Gpage_best) =>
some (out1,q10.cost)
)
)
theorem zhE {bt1:Nat} {t1:Gpage_turner} {t1_h0 t1_h1 t1_h2:Hd} {r:((List Int)×Int)} (h:zdt t1=some r):FnR Tryz.prog 96 [zP bt1] [cells bt1 [.string t1.s,t1_h0.v,t1_h1.v,t1_h2.v,zI t1.first,zI t1.rest] 203,zv6 t1_h0.v t1.cells,zv0 t1_h1.v t1.wide,zv0 t1_h2.v t1.ends] [] (fun v0:Value=>.tuple #[v0,zI r.2]) (fun v0=>[zv0 v0 r.1]):=by
 unfold zdt at h
 refine FnR.intro Tryz.func96 rfl Tryz.ntmps96 (by simp) ?_
 intro w0 K hrd
 obtain ⟨j1,hj1,h⟩:=zbO h
 refine zaY (β:=(List Gpage_best)×Value) 3 rfl (fun b=>j1 b.1=some r) (fun b=>[]) (fun b=>[(4,zI (t1.cells.length:Int)),(5,b.2)]) (fun b=>[zv8 b.2 b.1]) (fun cut => ?_) ?_
 ·
  refine zyG (zyR 2 rfl (zyH (zyR 1 rfl (zar rfl dc rfl (zac zgq rfl dc rfl (show _=1 from rfl) (za3 (i:=0) hrd rfl zpf rfl dc rfl rfl (zdA (hrd.vw (i:=1) rfl) rfl dc rfl Tryz.underlying94 (zyR 1 rfl ?_))))))))
  refine zyH (zyR 1 rfl ?_)
  obtain ⟨hg1,h⟩:=zbw h
  refine zaW rfl (zaV (r:=(t1.cells.length:Int)+1) (IntWalk.i64_in _ hg1)) ?_
  obtain ⟨hg2,h⟩:=zbw h
  refine zlJ (z:=(⟨0,0,0⟩:Gpage_best)) Tryz.underlying174 zsZ zld zaS rfl dc rfl hg2 (fun v2 => ?_)
  refine zyR 1 rfl (zyN (cut (zyG (zyR 1 rfl ?_))))
  obtain ⟨hg3,h⟩:=zbw h
  refine zaW rfl (zcd (r:=(t1.cells.length:Int) - 1) (IntWalk.i64_in _ hg3)) (zyR 1 rfl (zyN (zaG ?_)))
  refine zbt (β:=Nat×(List Gpage_best)×Int) (fun b=>zaM (fun _ _=>none) (zbL t1 j1) b.1 b.2.1 b.2.2=some r) (fun b=>[]) (fun b=>[(0,zP bt1),(4,zI (t1.cells.length:Int)),(5,v2),(6,zI b.2.2)]) (fun b=>[zv8 v2 b.2.1]) (fun b=>b.1) (zb4,(List.replicate ((t1.cells.length:Int)+1:Int).toNat (⟨0,0,0⟩:Gpage_best):List Gpage_best),(t1.cells.length:Int) - 1) h rfl (zba rfl) (zad [0] kr rfl) ?_
  rintro ⟨n1,all4,from3⟩ h
  cases n1 with
  | zero=>exact zdG h
  | succ n1 =>
   obtain ⟨ag1,hag1⟩:∃ ag,ag=zaM (fun _ _=>none) (zbL t1 j1) n1:=⟨_,rfl⟩
   have h:zbL t1 j1 ag1 all4 from3=some r:=by rw [hag1]; exact h
   unfold zbL at h
   refine zaH (zyG (zyR 1 rfl (zaW rfl zeg (zyN ?_))))
   refine zyB rfl h (fun h => ?_) (fun h => ?_)
   ·
    refine zau (zaI ?_)
    obtain ⟨j2,hj2,h⟩:=zbO h
    refine zaY (β:=(List Gpage_best)) 0 rfl (fun b=>j2 b=some r) (fun b=>[]) (fun b=>[(0,zP bt1),(4,zI (t1.cells.length:Int)),(5,v2),(6,zI from3)]) (fun b=>[zv8 v2 b]) (fun cut => ?_) ?_
    ·
     refine cut (zaG ?_)
     refine zf4 (β:=Unit) (l:=0) (fun _=>False) (fun _=>[]) (fun _=>[]) rfl ?_ ?_
     ·
      refine zyG (zyR 2 rfl ?_)
      obtain ⟨q1,hq1,h⟩:=zbx h
      refine zaL (k:=0) hq1 Tryz.underlying174 zc8 rfl dc rfl rfl rfl rfl (zac ze4 rfl dc rfl (show _=((from3:Int).toNat)*3+1 from rfl) ?_)
      refine zei (i:=(from3:Int).toNat) (j:=1) (k:=0) (q:=q1) (q':=(⟨q1.cost,(-1),q1.to_⟩:Gpage_best)) zf9 zaS rfl rfl rfl rfl (za0 hq1) rfl dc rfl (fun _ _=>rfl) ?_
      refine zyN (zaH (zjM (zaI (zyG (zyR 1 rfl ?_)))))
      obtain ⟨hg4,h⟩:=zbw h
      refine zaW rfl (zaV (r:=from3+1) (IntWalk.i64_in _ hg4)) (zyR 1 rfl (zyN (zaG ?_)))
      refine zbt (β:=Nat×(List Gpage_best)×Int) (fun b=>zaM (fun _ _=>none) (zbK t1 from3 j2) b.1 b.2.1 b.2.2=some r) (fun b=>[]) (fun b=>[(0,zP bt1),(4,zI (t1.cells.length:Int)),(5,v2),(6,zI from3),(7,zI b.2.2)]) (fun b=>[zv8 v2 b.2.1]) (fun b=>b.1) (zb4,all4.set (from3:Int).toNat (⟨q1.cost,(-1),q1.to_⟩:Gpage_best),from3+1) h rfl (zba rfl) (zad [0] kr rfl) ?_
      rintro ⟨n2,all8,to3⟩ h
      cases n2 with
      | zero=>exact zdG h
      | succ n2 =>
       obtain ⟨ag2,hag2⟩:∃ ag,ag=zaM (fun _ _=>none) (zbK t1 from3 j2) n2:=⟨_,rfl⟩
       have h:zbK t1 from3 j2 ag2 all8 to3=some r:=by rw [hag2]; exact h
       unfold zbK at h
       refine zaH (zyG (zyR 2 rfl (zaW rfl zdP (zyN ?_))))
       refine zyB rfl h (fun h => ?_) (fun h => ?_)
       ·
        refine zau (zaI ?_)
        obtain ⟨j3,hj3,h⟩:=zbO h
        refine zaY (β:=(List Gpage_best)) 0 rfl (fun b=>j3 b=some r) (fun b=>[]) (fun b=>[(0,zP bt1),(4,zI (t1.cells.length:Int)),(5,v2),(6,zI from3),(7,zI to3)]) (fun b=>[zv8 v2 b]) (fun cut => ?_) ?_
        ·
         refine cut (zaG (zaH (zyG (zyR 3 rfl ?_))))
         obtain ⟨r1,hq2,h⟩:=zbx h
         refine zbZ (v:=.bool r1) (vs:=[zP bt1,zI from3,zI to3]) hrd rfl dc rfl rfl rfl zvj (zh8 (bt1:=bt1) (t1:=t1) (t1_h0:=t1_h0) (t1_h1:=t1_h1) (t1_h2:=t1_h2) hq2) (.ro 0 rfl (.ro 1 rfl (.ro 2 rfl (.ro 3 rfl .nil)))) (zdJ rfl dc rfl zcA (zyN ?_))
         refine zyB rfl h (fun h => ?_) (fun h => ?_)
         ·
          refine zaH (zyG (zyR 3 rfl ?_))
          obtain ⟨r2,hq3,h⟩:=zbx h
          refine zbZ (v:=zI r2) (vs:=[zP bt1,zI from3,zI to3]) hrd rfl dc rfl rfl rfl zq5 (zd4 (bt1:=bt1) (t1:=t1) (t1_h0:=t1_h0) (t1_h1:=t1_h1) (t1_h2:=t1_h2) hq3) (.ro 0 rfl (.ro 1 rfl (.ro 2 rfl (.ro 3 rfl .nil)))) (zyR 2 rfl ?_)
          obtain ⟨r3,hq4,h⟩:=zbx h
          refine zbZ (v:=zI r3) (vs:=[zP bt1,zI from3]) hrd rfl dc rfl rfl rfl zq4 (zeK (bt1:=bt1) (t1:=t1) (t1_h0:=t1_h0) (t1_h1:=t1_h1) (t1_h2:=t1_h2) hq4) (.ro 0 rfl (.ro 1 rfl (.ro 2 rfl (.ro 3 rfl .nil)))) (zaW rfl zcR (zyN ?_))
          refine zyB rfl h (fun h => ?_) (fun h => ?_)
          ·
           refine za9 (zap (zap (zcH dc (zap (zap (zaz (zcl (by simp) (zah ?_))))))))
           exact zaq all8 h rfl (zba rfl) (zad [0] kr rfl)
          refine zau (zaI (za9 (zap (zaz ?_))))
          exact zaq all8 h rfl (zba rfl) (zad [0] kr rfl)
         refine zau (zaI ?_)
         obtain ⟨j4,hj4,h⟩:=zbO h
         refine zaY (β:=Int×Int×Nat) 1 rfl (fun b=>j4 b.1 b.2.1=some r) (fun b=>[]) (fun b=>[(0,zP bt1),(4,zI (t1.cells.length:Int)),(5,v2),(6,zI from3),(7,zI to3),(8,zP b.2.2)]) (fun b=>[zv8 v2 all8,cells b.2.2 [zI b.1,zI b.2.1,zI to3] 176]) (fun cut => ?_) ?_
         ·
          refine zyG (zyR 1 rfl ?_)
          refine zbb (v:=.agg #[zI 0,zI 1,zI to3]) (ps:=[(1,.const (zI 1)),(2,.tmp 50)]) rfl dc rfl (fun _=>by kernel_rfl) ?_
          refine zbg zld rfl dc (fun b4 => ?_)
          refine zaU (k:=1) (vs:=[zI 0,zI 1,zI to3]) (l':=[zI 0,zI 1,zI to3]) zc8 rfl rfl rfl rfl rfl (show _≤_ by simp) rfl rfl ?_
          refine zyN (cut (zyG (zyR 2 rfl (zaW rfl zbA (zyN ?_)))))
          refine zyB rfl h (fun h => ?_) (fun h => ?_)
          ·
           refine zaH (zyG (zyR 2 rfl ?_))
           obtain ⟨q2,hq5,h⟩:=zbx h
           refine zaL (k:=0) hq5 Tryz.underlying174 zc8 rfl dc rfl rfl rfl rfl (zac ze4 rfl dc rfl (show _=((to3:Int).toNat)*3+1 from rfl) (zbk (i:=(to3:Int).toNat) (j:=1) (k:=0) (q:=q2) zbS zaS rfl dc rfl rfl (za0 hq5) rfl dc rfl (zaW rfl zbA (zyN ?_))))
           refine zyB rfl h (fun h => ?_) (fun h => ?_)
           ·
            refine za9 (zap (zap (zaz ?_)))
            exact zaq all8 h rfl (zba rfl) (zad [0] kr rfl)
           refine zau (zaI ?_)
           obtain ⟨r4,hq6,h⟩:=zbx h
           obtain ⟨q3,hq7,h⟩:=zbx h
           obtain ⟨hg5,h⟩:=zbw h
           obtain ⟨hg6,h⟩:=zbw h
           refine zbz 17 [(0,61,zP bt1),(1,62,zI from3),(2,63,zI to3),(3,64,zI r4),(4,65,v2),(5,66,zI to3),(6,67,.pointer (some ⟨zdK v2,(to3:Int).toNat*3,none⟩)),(7,68,.pointer (some ⟨zdK v2,((to3:Int).toNat)*3,none⟩)),(8,69,zI q3.cost),(9,70,zI (r4+q3.cost)),(10,71,v2),(11,72,zI to3),(12,73,.pointer (some ⟨zdK v2,(to3:Int).toNat*3,none⟩)),(13,74,.pointer (some ⟨zdK v2,((to3:Int).toNat)*3+1,none⟩)),(14,75,zI q3.rows),(15,76,zI (q3.rows+1)),(16,77,zI to3)] mixed kr kr dc (by rfl) kr kr (zyP 3 0 rfl (zae ?_ (zyP 2 4 rfl (zae ?_ (zae ?_ (zae ?_ (zae ?_ (zyP 2 10 rfl (zae ?_ (zae ?_ (zae ?_ (zae ?_ (zyP 1 16 rfl DrawPre.nil))))))))))))) ?_
           · exact fun D n d c u i=>zbZ (v:=zI r4) (vs:=[zP bt1,zI from3,zI to3]) hrd rfl dc rfl (evL.cons (zaa (m:=0) u rfl (d 0 dc)) (evL.cons (zaa (m:=1) u rfl (d 1 dc)) (evL.cons (zaa (m:=2) u rfl (d 2 dc)) evL.nil))) rfl zvi (zhF (bt1:=bt1) (t1:=t1) (t1_h0:=t1_h0) (t1_h1:=t1_h1) (t1_h2:=t1_h2) hq6) (.ro 0 rfl (.ro 1 rfl (.ro 2 rfl (.ro 3 rfl .nil)))) (zaf 3 u i rfl)
           · exact fun D n d c u i=>zaL (k:=0) hq7 Tryz.underlying174 zc8 rfl dc (zaa (m:=4) u rfl (d 4 dc)) (zaa (m:=5) u rfl (d 5 dc)) rfl rfl (zaf 6 u i rfl)
           · exact fun D n d c u i=>zac zeD rfl dc (zaa (m:=6) u rfl (d 6 dc)) (show _=((to3:Int).toNat)*3 from rfl) (zaf 7 u i rfl)
           · exact fun D n d c u i=>zbk (i:=(to3:Int).toNat) (j:=0) (k:=0) (q:=q3) zbS zaS rfl dc (zaa (m:=7) u rfl (d 7 dc)) rfl (za0 hq7) rfl dc rfl (zaf 8 u i rfl)
           · exact fun D n d c u i=>zcc rfl dc (zaa (m:=3) u rfl (d 3 dc)) (zaa (m:=8) u rfl (d 8 dc)) (zaV (r:=r4+q3.cost) (IntWalk.i64_in _ hg5)) (zaf 9 u i rfl)
           · exact fun D n d c u i=>zaL (k:=0) hq7 Tryz.underlying174 zc8 rfl dc (zaa (m:=10) u rfl (d 10 dc)) (zaa (m:=11) u rfl (d 11 dc)) rfl rfl (zaf 12 u i rfl)
           · exact fun D n d c u i=>zac ze4 rfl dc (zaa (m:=12) u rfl (d 12 dc)) (show _=((to3:Int).toNat)*3+1 from rfl) (zaf 13 u i rfl)
           · exact fun D n d c u i=>zbk (i:=(to3:Int).toNat) (j:=1) (k:=0) (q:=q3) zbS zaS rfl dc (zaa (m:=13) u rfl (d 13 dc)) rfl (za0 hq7) rfl dc rfl (zaf 14 u i rfl)
           · exact fun D n d c u i=>zcc rfl dc (zaa (m:=14) u rfl (d 14 dc)) rfl (zaV (r:=q3.rows+1) (IntWalk.i64_in _ hg6)) (zaf 15 u i rfl)
           refine zbb (v:=.agg #[zI (r4+q3.cost),zI (q3.rows+1),zI to3]) (ps:=[(0,.tmp 70),(1,.tmp 76),(2,.tmp 77)]) rfl dc rfl (fun _=>by kernel_rfl) ?_
           refine zaU (k:=1) (vs:=[zI (r4+q3.cost),zI (q3.rows+1),zI to3]) (l':=[zI (r4+q3.cost),zI (q3.rows+1),zI to3]) zc8 rfl rfl rfl rfl rfl (show _≤_ by simp) rfl rfl (zaX ?_)
           exact zaq (r4+q3.cost,q3.rows+1,b4) h rfl (zba rfl) (zad [0,1] kr rfl)
          refine zau ?_
          exact zaq (0,1,b4) h rfl (zba rfl) (zad [0,1] kr rfl)
         rintro ⟨b2,b3,b1⟩ h
         rw [hj4] at h
         refine zyG (zyR 2 rfl ?_)
         obtain ⟨q4,hq8,h⟩:=zbx h
         refine zaL (k:=0) hq8 Tryz.underlying174 zc8 rfl dc rfl rfl rfl rfl (zgz (i:=(from3:Int).toNat) (j:=0) (k:=0) (q:=q4) (cs:=(zr7 q4)) zje zaS rfl dc rfl rfl (za0 hq8) rfl rfl rfl ?_)
         refine zbg zld rfl dc (fun b5 => ?_)
         refine zaU (k:=2) (vs:=(zr7 q4)) (l':=(zr7 q4)) zc8 rfl rfl rfl rfl rfl (show _≤_ by simp) rfl rfl ?_
         refine zyH (zac ze4 rfl dc rfl (show _=1 from rfl) (zan (k:=2) zbS rfl dc rfl rfl rfl (zaW rfl zbA (zyR 1 rfl ?_))))
         refine zyS (s:=86) rfl h (fun h => ?_) (fun h => ?_)
         ·
          refine zyR 14 rfl ?_
          refine zyR 6 rfl (zyN (zbd rfl (zaB (zyR 2 rfl (za5 (k:=1) (cs:=[zI b2,zI b3,zI to3]) zje rfl dc rfl rfl rfl rfl ?_)))))
          obtain ⟨q5,hq9,h⟩:=zbx h
          refine zaL (k:=0) hq9 Tryz.underlying174 zc8 rfl dc rfl rfl rfl rfl ?_
          refine zeU (i:=(from3:Int).toNat) (j:=0) (k:=0) (q:=q5) (q':=(⟨b2,b3,to3⟩:Gpage_best)) (vs:=[zI b2,zI b3,zI to3]) zc8 zaS rfl rfl rfl rfl (za0 hq9) rfl dc rfl rfl (fun m=>[q5,(⟨b2,q5.rows,q5.to_⟩:Gpage_best),(⟨b2,b3,q5.to_⟩:Gpage_best),(⟨b2,b3,to3⟩:Gpage_best)].getD m q5) rfl rfl (by intro m hm; rcases m with _ | _ | _ | m <;> first | rfl | (exfalso; omega)) ?_
          refine zaX (zah ?_)
          exact zaq (all8.set (from3:Int).toNat (⟨b2,b3,to3⟩:Gpage_best)) h rfl (zba rfl) (zad [0] kr rfl)
         refine zac zeD rfl dc rfl (show _=0 from rfl) (zan (k:=1) zbS rfl dc rfl rfl rfl (zac zeD rfl dc rfl (show _=0 from rfl) (zan (k:=2) zbS rfl dc rfl rfl rfl (zaW rfl zbA (zyR 2 rfl ?_)))))
         refine zyS (s:=93) rfl h (fun h => ?_) (fun h => ?_)
         ·
          refine zyR 13 rfl (zaX ?_)
          refine zaI (zbd rfl (zaB (zyR 2 rfl (za5 (k:=1) (cs:=[zI b2,zI b3,zI to3]) zje rfl dc rfl rfl rfl rfl ?_))))
          obtain ⟨q6,hq10,h⟩:=zbx h
          refine zaL (k:=0) hq10 Tryz.underlying174 zc8 rfl dc rfl rfl rfl rfl ?_
          refine zeU (i:=(from3:Int).toNat) (j:=0) (k:=0) (q:=q6) (q':=(⟨b2,b3,to3⟩:Gpage_best)) (vs:=[zI b2,zI b3,zI to3]) zc8 zaS rfl rfl rfl rfl (za0 hq10) rfl dc rfl rfl (fun m=>[q6,(⟨b2,q6.rows,q6.to_⟩:Gpage_best),(⟨b2,b3,q6.to_⟩:Gpage_best),(⟨b2,b3,to3⟩:Gpage_best)].getD m q6) rfl rfl (by intro m hm; rcases m with _ | _ | _ | m <;> first | rfl | (exfalso; omega)) ?_
          refine zaX (zah ?_)
          exact zaq (all8.set (from3:Int).toNat (⟨b2,b3,to3⟩:Gpage_best)) h rfl (zba rfl) (zad [0] kr rfl)
         refine zac zeD rfl dc rfl (show _=0 from rfl) (zan (k:=1) zbS rfl dc rfl rfl rfl (zac zeD rfl dc rfl (show _=0 from rfl) (zan (k:=2) zbS rfl dc rfl rfl rfl (zaW rfl za1 (zyR 1 rfl ?_)))))
         refine zyS (s:=99) rfl h (fun h => ?_) (fun h => ?_)
         ·
          refine zac ze4 rfl dc rfl (show _=1 from rfl) (zan (k:=1) zbS rfl dc rfl rfl rfl (zac ze4 rfl dc rfl (show _=1 from rfl) (zan (k:=2) zbS rfl dc rfl rfl rfl (zaW rfl zdP (zyR 2 rfl (zyN ?_))))))
          refine zyB rfl h (fun h => ?_) (fun h => ?_)
          ·
           refine zaB (zyR 2 rfl (za5 (k:=1) (cs:=[zI b2,zI b3,zI to3]) zje rfl dc rfl rfl rfl rfl ?_))
           obtain ⟨q7,hq11,h⟩:=zbx h
           refine zaL (k:=0) hq11 Tryz.underlying174 zc8 rfl dc rfl rfl rfl rfl ?_
           refine zeU (i:=(from3:Int).toNat) (j:=0) (k:=0) (q:=q7) (q':=(⟨b2,b3,to3⟩:Gpage_best)) (vs:=[zI b2,zI b3,zI to3]) zc8 zaS rfl rfl rfl rfl (za0 hq11) rfl dc rfl rfl (fun m=>[q7,(⟨b2,q7.rows,q7.to_⟩:Gpage_best),(⟨b2,b3,q7.to_⟩:Gpage_best),(⟨b2,b3,to3⟩:Gpage_best)].getD m q7) rfl rfl (by intro m hm; rcases m with _ | _ | _ | m <;> first | rfl | (exfalso; omega)) ?_
           refine zaX (zah ?_)
           exact zaq (all8.set (from3:Int).toNat (⟨b2,b3,to3⟩:Gpage_best)) h rfl (zba rfl) (zad [0] kr rfl)
          refine zau (zah ?_)
          exact zaq all8 h rfl (zba rfl) (zad [0] kr rfl)
         refine zyR 7 rfl (zyN (zaT rfl (zau (zah ?_))))
         exact zaq all8 h rfl (zba rfl) (zad [0] kr rfl)
        rintro all9 h
        rw [hj3] at h
        refine zaB (zyR 1 rfl ?_)
        obtain ⟨hg7,h⟩:=zbw h
        refine zaW rfl (zaV (r:=to3+1) (IntWalk.i64_in _ hg7)) (zyR 1 rfl (zaX ?_))
        subst hag2
        exact za4 (n2,all9,to3+1) h (Nat.lt_succ_self _) rfl (zba rfl) (zad [0] kr rfl)
       refine za9 (zap (zap (zaz (zcl (by simp) (zah ?_)))))
       exact zaq all8 h rfl (zba rfl) (zad [0] kr rfl)
     exact fun b hb=>hb.elim
    rintro all5 h
    rw [hj2] at h
    refine zaB (zyR 1 rfl ?_)
    obtain ⟨hg8,h⟩:=zbw h
    refine zaW rfl (zcd (r:=from3 - 1) (IntWalk.i64_in _ hg8)) (zyR 1 rfl (zaX ?_))
    subst hag1
    exact za4 (n1,all5,from3 - 1) h (Nat.lt_succ_self _) rfl (zba rfl) (zad [0] kr rfl)
   refine za9 (zap (zap (zaz ?_)))
   exact zaq (all4,v2) h rfl (zba rfl) (zad [0] kr rfl)
 rintro ⟨all1,v1⟩ h
 rw [hj1] at h
 obtain ⟨j5,hj5,h⟩:=zbO h
 refine zaY (β:=(List Int)×Hd) 1 rfl (fun b=>j5 b.1=some r) (fun b=>[]) (fun b=>[(5,v1),(10,b.2.v)]) (fun b=>[zv8 v1 all1,zv0 b.2.v b.1]) (fun cut => ?_) ?_
 ·
  refine zyG (zyR 1 rfl (zyN (cut (zyG (zyR 1 rfl (zyN (zaG (zdR (enc:=(zso (.i64))) (e:=3) (size:=1) ?_))))))))
  refine zbt (β:=Nat×(List Int)×Int×Hd) (fun b=>zaM (fun _ _=>none) (zby t1 all1 j5) b.1 b.2.1 b.2.2.1=some r) (fun b=>[]) (fun b=>[(4,zI (t1.cells.length:Int)),(5,v1),(10,b.2.2.2.v),(11,zI b.2.2.1)]) (fun b=>[zv8 v1 all1,zv0 b.2.2.2.v b.2.1]) (fun b=>b.1) (zb4,([]:List Int),0,Hd.nil) h rfl (zba rfl) (zad [0,1] kr rfl) ?_
  rintro ⟨n3,out4,from6,hd4⟩ h
  cases n3 with
  | zero=>exact zdG h
  | succ n3 =>
   obtain ⟨ag3,hag3⟩:∃ ag,ag=zaM (fun _ _=>none) (zby t1 all1 j5) n3:=⟨_,rfl⟩
   have h:zby t1 all1 j5 ag3 out4 from6=some r:=by rw [hag3]; exact h
   unfold zby at h
   refine zaH (zyG (zyR 2 rfl (zaW rfl zbA (zyN ?_))))
   refine zyB rfl h (fun h => ?_) (fun h => ?_)
   ·
    refine zau (zaI (zaH (zaG (zaB (zyR 3 rfl ?_)))))
    obtain ⟨q8,hq12,h⟩:=zbx h
    refine zaL (k:=0) hq12 Tryz.underlying174 zc8 rfl dc rfl rfl rfl rfl (zac zjF rfl dc rfl (show _=((from6:Int).toNat)*3+2 from rfl) (zbk (i:=(from6:Int).toNat) (j:=2) (k:=0) (q:=q8) zbS zaS rfl dc rfl rfl (za0 hq12) rfl dc rfl ?_))
    refine zaR (cs:=[zI q8.to_]) (te:=3) (ps:=[(0,.tmp 124)]) rfl dc rfl (fun _=>by kernel_rfl) (fun b6 => ?_)
    obtain ⟨hg9,h⟩:=zbw h
    refine zaZ (k:=1) (k2:=2) (ys:=[q8.to_]) Tryz.underlying49 ztR zcO zgs rfl dc rfl rfl rfl rfl rfl rfl hg9 (fun v3 => ?_)
    refine zbo (k:=1) rfl (fun hd5 he1 => ?_)
    subst he1
    refine zyR 1 rfl (zaX (zah (zaI (zaB (zyR 2 rfl ?_)))))
    obtain ⟨q9,hq13,h⟩:=zbx h
    refine zaL (k:=0) hq13 Tryz.underlying174 zc8 rfl dc rfl rfl rfl rfl (zac zjF rfl dc rfl (show _=((from6:Int).toNat)*3+2 from rfl) (zbk (i:=(from6:Int).toNat) (j:=2) (k:=0) (q:=q9) zbS zaS rfl dc rfl rfl (za0 hq13) rfl dc rfl (zyR 1 rfl (zaX ?_))))
    subst hag3
    exact za4 (n3,out4++[q8.to_],q9.to_,hd5) h (Nat.lt_succ_self _) rfl (zba rfl) (zad [0,1] kr rfl)
   refine za9 (zap (zap (zaz ?_)))
   exact zaq (out4,hd4) h rfl (zba rfl) (zad [0,1] kr rfl)
 rintro ⟨out1,hd1⟩ h
 rw [hj5] at h
 refine zaH ?_
 obtain ⟨q10,hq14,h⟩:=zbx h
 refine zbz 6 [(0,127,hd1.v),(1,128,v1),(2,129,.pointer (some ⟨zdK v1,(0:Int).toNat*3,none⟩)),(3,130,.pointer (some ⟨zdK v1,((0:Int).toNat)*3,none⟩)),(4,131,zI q10.cost),(5,2,hd1.v)] mixed kr kr dc (by rfl) kr kr (zyP 2 0 rfl (zae ?_ (zae ?_ (zae ?_ (zyP 1 5 rfl DrawPre.nil))))) ?_
 · exact fun D n d c u i=>zaL (k:=0) hq14 Tryz.underlying174 zc8 rfl dc (zaa (m:=1) u rfl (d 1 dc)) rfl rfl rfl (zaf 2 u i rfl)
 · exact fun D n d c u i=>zac zeD rfl dc (zaa (m:=2) u rfl (d 2 dc)) (show _=((0:Int).toNat)*3 from rfl) (zaf 3 u i rfl)
 · exact fun D n d c u i=>zbk (i:=(0:Int).toNat) (j:=0) (k:=0) (q:=q10) zbS zaS rfl dc (zaa (m:=3) u rfl (d 3 dc)) rfl (za0 hq14) rfl dc rfl (zaf 4 u i rfl)
 refine zyR 1 rfl (zyN (zaA ?_))
 cases h
 exact zaF (rs:=[.tmp 2,.tmp 3]) hd1.v (.inl rfl) Tryz.results96 (.cons (.tmp rfl) (.cons (.tmp rfl) .nil)) rfl (zad [1] kr rfl)
def zds (t1:Gpage_turner) (from1:Int) (to1:Int):Option ByteArray :=
zak (zcN t1.cells from1) fun (q1:Gapi_Cell) =>
grd (I64 (to1 - 1)) <|
zak (zcN t1.cells (to1 - 1)) fun (q2:Gapi_Cell) =>
grd (0≤(q1.Span_From:Int)∧(q1.Span_From:Int)≤q2.Span_To∧(q2.Span_To:Int)≤(t1.s.size:Int)) <|
some (zbE t1.s q1.Span_From q2.Span_To)
theorem zhD {bt1:Nat} {t1:Gpage_turner} {t1_h0 t1_h1 t1_h2:Hd} {from1:Int} {to1:Int} {r:ByteArray} (h:zds t1 from1 to1=some r):FnR Tryz.prog 97 [zP bt1,zI from1,zI to1] [cells bt1 [.string t1.s,t1_h0.v,t1_h1.v,t1_h2.v,zI t1.first,zI t1.rest] 203,zv6 t1_h0.v t1.cells,zv0 t1_h1.v t1.wide,zv0 t1_h2.v t1.ends] [] (fun _:Unit=>(.string r)) (fun _=>[]):=by
 unfold zds at h
 refine FnR.intro Tryz.func97 rfl Tryz.ntmps97 (by simp) ?_
 intro w0 K hrd
 refine zyG (zyR 1 rfl (zyN (zaH ?_)))
 obtain ⟨q1,hq1,h⟩:=zbx h
 obtain ⟨hg1,h⟩:=zbw h
 obtain ⟨q2,hq2,h⟩:=zbx h
 obtain ⟨hg2,h⟩:=zbw h
 refine zbz 23 [(0,7,zP bt1),(1,8,zP bt1),(2,9,zP bt1),(3,10,.string t1.s),(4,11,zP bt1),(5,12,zP bt1),(6,13,.pointer (some ⟨bt1,1,none⟩)),(7,14,t1_h0.v),(8,15,zI from1),(9,16,.pointer (some ⟨zdK t1_h0.v,(0+(from1:Int).toNat)*3,none⟩)),(10,17,.pointer (some ⟨zdK t1_h0.v,(0+(from1:Int).toNat)*3,none⟩)),(11,18,.pointer (some ⟨zdK t1_h0.v,(0+(from1:Int).toNat)*3,none⟩)),(12,19,zI q1.Span_From),(13,20,zP bt1),(14,21,zP bt1),(15,22,.pointer (some ⟨bt1,1,none⟩)),(16,23,t1_h0.v),(17,24,zI to1),(18,25,zI (to1 - 1)),(19,26,.pointer (some ⟨zdK t1_h0.v,(0+(to1 - 1:Int).toNat)*3,none⟩)),(20,27,.pointer (some ⟨zdK t1_h0.v,(0+(to1 - 1:Int).toNat)*3,none⟩)),(21,28,.pointer (some ⟨zdK t1_h0.v,(0+(to1 - 1:Int).toNat)*3+1,none⟩)),(22,29,zI q2.Span_To)] mixed kr kr dc (by rfl) kr kr (zyP 1 0 rfl (zae ?_ (zae ?_ (zae ?_ (zyP 1 4 rfl (zae ?_ (zae ?_ (zae ?_ (zyP 1 8 rfl (zae ?_ (zae ?_ (zae ?_ (zae ?_ (zyP 1 13 rfl (zae ?_ (zae ?_ (zae ?_ (zyP 1 17 rfl (zae ?_ (zae ?_ (zae ?_ (zae ?_ (zae ?_ DrawPre.nil))))))))))))))))))))))) ?_
 · exact fun D n d c u i=>zar rfl dc (zaa (m:=0) u rfl (d 0 dc)) (zaf 1 u i rfl)
 · exact fun D n d c u i=>zac zoP rfl dc (zaa (m:=1) u rfl (d 1 dc)) (show _=0 from rfl) (zaf 2 u i rfl)
 · exact fun D n d c u i=>za3 (i:=0) hrd rfl zjc rfl dc (zaa (m:=2) u rfl (d 2 dc)) rfl (zaf 3 u i rfl)
 · exact fun D n d c u i=>zar rfl dc (zaa (m:=4) u rfl (d 4 dc)) (zaf 5 u i rfl)
 · exact fun D n d c u i=>zac zgq rfl dc (zaa (m:=5) u rfl (d 5 dc)) (show _=1 from rfl) (zaf 6 u i rfl)
 · exact fun D n d c u i=>za3 (i:=0) hrd rfl zpf rfl dc (zaa (m:=6) u rfl (d 6 dc)) rfl (zaf 7 u i rfl)
 · exact fun D n d c u i=>zbj (hrd.vw (i:=1) rfl) hq1 Tryz.underlying94 zp1 rfl dc (zaa (m:=7) u rfl (d 7 dc)) (zaa (m:=8) u rfl (d 8 dc)) rfl (zaf 9 u i rfl)
 · exact fun D n d c u i=>zac ziR rfl dc (zaa (m:=9) u rfl (d 9 dc)) (show _=(0+(from1:Int).toNat)*3 from rfl) (zaf 10 u i rfl)
 · exact fun D n d c u i=>zac zev rfl dc (zaa (m:=10) u rfl (d 10 dc)) (show _=(0+(from1:Int).toNat)*3 from rfl) (zaf 11 u i rfl)
 · exact fun D n d c u i=>zcI (n:=0+(from1:Int).toNat) (j:=0) (i:=1) (q:=q1) hrd rfl zbS zep rfl dc (zaa (m:=11) u rfl (d 11 dc)) (Vw.get (hrd.vw (i:=1) rfl) hq1) rfl dc rfl (zaf 12 u i rfl)
 · exact fun D n d c u i=>zar rfl dc (zaa (m:=13) u rfl (d 13 dc)) (zaf 14 u i rfl)
 · exact fun D n d c u i=>zac zgq rfl dc (zaa (m:=14) u rfl (d 14 dc)) (show _=1 from rfl) (zaf 15 u i rfl)
 · exact fun D n d c u i=>za3 (i:=0) hrd rfl zpf rfl dc (zaa (m:=15) u rfl (d 15 dc)) rfl (zaf 16 u i rfl)
 · exact fun D n d c u i=>zcc rfl dc (zaa (m:=17) u rfl (d 17 dc)) rfl (zcd (r:=to1 - 1) (IntWalk.i64_in _ hg1)) (zaf 18 u i rfl)
 · exact fun D n d c u i=>zbj (hrd.vw (i:=1) rfl) hq2 Tryz.underlying94 zp1 rfl dc (zaa (m:=16) u rfl (d 16 dc)) (zaa (m:=18) u rfl (d 18 dc)) rfl (zaf 19 u i rfl)
 · exact fun D n d c u i=>zac ziR rfl dc (zaa (m:=19) u rfl (d 19 dc)) (show _=(0+(to1 - 1:Int).toNat)*3 from rfl) (zaf 20 u i rfl)
 · exact fun D n d c u i=>zac zeu rfl dc (zaa (m:=20) u rfl (d 20 dc)) (show _=(0+(to1 - 1:Int).toNat)*3+1 from rfl) (zaf 21 u i rfl)
 · exact fun D n d c u i=>zcI (n:=0+(to1 - 1:Int).toNat) (j:=1) (i:=1) (q:=q2) hrd rfl zbS zep rfl dc (zaa (m:=21) u rfl (d 21 dc)) (Vw.get (hrd.vw (i:=1) rfl) hq2) rfl dc rfl (zaf 22 u i rfl)
 refine zd8 rfl dc rfl rfl rfl (zb9 (i:=q1.Span_From) (j:=q2.Span_To) Tryz.underlying9 (.inr rfl) (.inr rfl) hg2) (zyR 1 rfl (zyN (zaA ?_)))
 cases h
 exact zaF (rs:=[.tmp 6]) () (.inl rfl) Tryz.results97 (.cons (.tmp rfl) .nil) rfl Splits.nil
def zcF (s1:ByteArray) (indent1:Int) (l1:Gapi_Layout) (x1:Gapi_Cell) (ag1:(List Gapi_Cell)→(List Int)→(List Int)→Option Gpage_turner) (t10:List Gapi_Cell) (t11:List Int) (t12:List Int):Option Gpage_turner :=
zbr (fun (j2:(List Int)→Int→Option Gpage_turner) =>
grd (t10.length+1≤2147483648) <|
grd (I64 (((t10++[x1]).length:Int) - 1)) <|
zak (zcN t11 (((t10++[x1]).length:Int) - 1)) fun (q1:Int) =>
grd (I64 (q1+x1.Columns)) <|
grd (t11.length+1≤2147483648) <|
grd (I64 ((((t10++[x1]).length:Int) - 1)+1)) <|
zak (zbV (⟨s1,t10++[x1],t11++[q1+x1.Columns],t12,max 1 (l1.Width - indent1),l1.Width - l1.Turn⟩:Gpage_turner) (((t10++[x1]).length:Int) - 1)) fun (r2:Bool) =>
zax (r2) (
zak (zcN t12 (((t10++[x1]).length:Int) - 1)) fun (q2:Int) =>
j2 (t11++[q1+x1.Columns]) q2
) (
j2 (t11++[q1+x1.Columns]) ((((t10++[x1]).length:Int) - 1)+1)
)
) (fun (t13:List Int) (end1:Int) =>
grd (t12.length+1≤2147483648) <|
ag1 (t10++[x1]) t13 (t12++[end1])
)
def zdZ (s1:ByteArray) (indent1:Int) (l1:Gapi_Layout):Option Gpage_turner :=
zbr (fun (j1:(List Gapi_Cell)→(List Int)→(List Int)→Option Gpage_turner) =>
grd (I64 (l1.Width - indent1)) <|
grd (I64 (l1.Width - l1.Turn)) <|
zak (zf7 s1) fun (r1:ByteArray) =>
zak (zd0 r1) fun (its1:(List Gapi_Cell)) =>
zbr (fun (dn1:(List Gapi_Cell)→(List Int)→(List Int)→Option Gpage_turner) =>
zdh dn1 (zcF s1 indent1 l1) its1 ([]:List Gapi_Cell) ([0]:List Int) ([0]:List Int)
) (fun (t10:List Gapi_Cell) (t11:List Int) (t12:List Int) =>
j1 t10 t11 t12
)
) (fun (t1:List Gapi_Cell) (t2:List Int) (t3:List Int) =>
some (⟨s1,t1,t2,t3,max 1 (l1.Width - indent1),l1.Width - l1.Turn⟩:Gpage_turner)
)
theorem ziM {s1:ByteArray} {indent1:Int} {l1:Gapi_Layout} {r:Gpage_turner} (h:zdZ s1 indent1 l1=some r):Fn Tryz.prog 95 [.string s1,zI indent1,.agg (zr0 l1).toArray] [] (fun b:Nat×Hd×Hd×Hd=>zP b.1) (fun b=>[cells b.1 [.string r.s,b.2.1.v,b.2.2.1.v,b.2.2.2.v,zI r.first,zI r.rest] 203,zv6 b.2.1.v r.cells,zv0 b.2.2.1.v r.wide,zv0 b.2.2.2.v r.ends]):=by
 unfold zdZ at h
 refine Fn.intro Tryz.func95 rfl Tryz.ntmps95 (by simp) ?_
 intro w0 K
 refine ziE ?_
 obtain ⟨j1,hj1,h⟩:=zbO h
 refine zaY (β:=(List Gapi_Cell)×(List Int)×(List Int)×Nat×Nat×Hd×Hd×Hd×(List Nat)) 2 rfl (fun b=>j1 b.1 b.2.1 b.2.2.1=some r) (fun b=>zfQ b.2.2.2.2.2.2.2.2) (fun b=>[(7,zP b.2.2.2.1)]) (fun b=>[cells b.2.2.2.1 [zP b.2.2.2.2.1] 179,cells b.2.2.2.2.1 [.string s1,b.2.2.2.2.2.1.v,b.2.2.2.2.2.2.1.v,b.2.2.2.2.2.2.2.1.v,zI (max 1 (l1.Width - indent1)),zI (l1.Width - l1.Turn)] 203,zv6 b.2.2.2.2.2.1.v b.1,zv0 b.2.2.2.2.2.2.1.v b.2.1,zv0 b.2.2.2.2.2.2.2.1.v b.2.2.1,zhS ((b.2.2.2.2.2.2.2.2:List Nat).map zkT)]) (fun cut => ?_) ?_
 ·
  refine zyG ?_
  refine zdQ rfl dc rfl (fun b3 => ?_)
  refine zyR 1 rfl (zyH (zyR 1 rfl ?_))
  refine zaR (cs:=[zI 0]) (te:=3) (ps:=[(0,.const (zI 0))]) rfl dc rfl (fun _=>by kernel_rfl) (fun b4 => ?_)
  refine zaR (cs:=[zI 0]) (te:=3) (ps:=[(0,.const (zI 0))]) rfl dc rfl (fun _=>by kernel_rfl) (fun b5 => ?_)
  refine zac ziV rfl dc rfl (show _=0 from rfl) (zan (k:=1) zbS rfl dc rfl rfl rfl (zyR 1 rfl ?_))
  obtain ⟨hg1,h⟩:=zbw h
  refine zaW rfl (zcd (r:=l1.Width - indent1) (IntWalk.i64_in _ hg1)) (zmw rfl dc rfl rfl (zac ziV rfl dc rfl (show _=0 from rfl) (zan (k:=1) zbS rfl dc rfl rfl rfl (zac ziU rfl dc rfl (show _=2 from rfl) (zan (k:=1) zbS rfl dc rfl rfl rfl ?_)))))
  obtain ⟨hg2,h⟩:=zbw h
  refine zaW rfl (zcd (r:=l1.Width - l1.Turn) (IntWalk.i64_in _ hg2)) ?_
  refine zbb (v:=.agg #[.string s1,.slice none 0 0,.slice (some ⟨b4,0,none⟩) 1 1,.slice (some ⟨b5,0,none⟩) 1 1,zI (max 1 (l1.Width - indent1)),zI (l1.Width - l1.Turn)]) (ps:=[(0,.tmp 11),(2,.tmp 12),(3,.tmp 13),(4,.tmp 18),(5,.tmp 23)]) rfl dc rfl (fun _=>by kernel_rfl) ?_
  refine zo5 ([0]:List Int) (k:=2) rfl zcO rfl (show 1≤maxLen by decide) ?_
  refine zo5 ([0]:List Int) (k:=3) rfl zcO rfl (show 1≤maxLen by decide) ?_
  refine zdQ rfl dc rfl (fun b6 => ?_)
  refine zbg zuo rfl dc (fun b7 => ?_)
  refine zbe (k:=5) (l':=[zP b6]) zuC rfl rfl rfl rfl rfl (fun _ _=>rfl) rfl ?_
  refine zyN (cut (zyG (zyR 1 rfl ?_)))
  obtain ⟨r1,hq1,h⟩:=zbx h
  refine zdI (vs:=[.string s1]) rfl dc rfl rfl rfl zwS (zkH hq1) Splits.nil ?_
  rintro b8
  refine zcu (L':=[zhS ((([]:List Nat):List Nat).map zkT),cells b3 (zr0 l1) 23,zv0 (.slice (some ⟨b4,0,none⟩) 1 1) ([0]:List Int),zv0 (.slice (some ⟨b5,0,none⟩) 1 1) ([0]:List Int),cells b6 [.string s1,.slice none 0 0,(.slice (some ⟨b4,0,none⟩) 1 1),(.slice (some ⟨b5,0,none⟩) 1 1),zI (max 1 (l1.Width - indent1)),zI (l1.Width - l1.Turn)] 203,cells b7 [zP b6] 179,cells b8 [.string r1] 9]) (zad [0,1,2,3,4,5,6] kr rfl) (zyN (zaG ?_))
  obtain ⟨its1,hq2,h⟩:=zbx h
  refine zdR (enc:=ze5) (e:=40) (size:=3) ?_
  obtain ⟨dn1,hdn1,h⟩:=zbO h
  refine zo6 (α:=Gapi_Cell) (β:=(List Gapi_Cell)×(List Int)×(List Int)×Hd×Hd×Hd) (γ:=Unit) (δ:=Nat) (ps:=[28]) Ro.nil rfl zwK (zix hq2) (fun pre b=>∀ post,its1=pre++post→zdh dn1 (zcF s1 indent1 l1) post b.1 b.2.1 b.2.2.1=some r) (fun pre b=>[cells b7 [zP b6] 179,cells b6 [.string s1,b.2.2.2.1.v,b.2.2.2.2.1.v,b.2.2.2.2.2.v,zI (max 1 (l1.Width - indent1)),zI (l1.Width - l1.Turn)] 203,zv6 b.2.2.2.1.v b.1,zv0 b.2.2.2.2.1.v b.2.1,zv0 b.2.2.2.2.2.v b.2.2.1]) (fun c pre g=>False) (fun c pre g=>[]) (fun pre x b j=>[(6,.pointer none),(7,zP b7),(27,.func (.func 33) #[] #[zP b8]),(8,zP j)]) (fun pre x b j=>[cells b7 [zP b6] 179,cells b6 [.string s1,b.2.2.2.1.v,b.2.2.2.2.1.v,b.2.2.2.2.2.v,zI (max 1 (l1.Width - indent1)),zI (l1.Width - l1.Turn)] 203,zv6 b.2.2.2.1.v b.1,zv0 b.2.2.2.2.1.v b.2.1,zv0 b.2.2.2.2.2.v b.2.2.1,cells j (zr2 x) 40]) (([]:List Gapi_Cell),([0]:List Int),([0]:List Int),Hd.nil,(⟨some ⟨b4,0,none⟩,1,1⟩:Hd),(⟨some ⟨b5,0,none⟩,1,1⟩:Hd)) (fun post e=>by rw [List.nil_append] at e; subst e; exact h) (zad [5,4,7,2,3] kr rfl) ⟨.inl ⟨6,rfl⟩,trivial⟩ (fun _=>rfl) dc ?_ ?_ ?_ ?_
  ·
   rintro lp rc pre x1 post ⟨t10,t11,t12,hd10,hd11,hd12⟩ w1 K1 hxs1 hext hro hinv
   refine zaB ?_
   refine zbg zun rfl dc (fun b9 => ?_)
   refine zaU (k:=5) (vs:=(zr2 x1)) (l':=(zr2 x1)) zp1 rfl rfl rfl rfl rfl (show _≤_ by simp) rfl rfl ?_
   refine zaX ?_
   exact fun a w ha hw=>⟨b9,(zba rfl) _ _ _ ha,hw.weaken (zad [0,1,2,3,4,5] kr rfl)⟩
  ·
   rintro lp rc pre x1 post1 ⟨t10,t11,t12,hd10,hd11,hd12⟩ jb1 w1 K1 hxs1 hext hro hinv
   have h:=hinv (x1::post1) hxs1
   obtain ⟨ag1,hag1⟩:∃ ag,ag=zdh dn1 (zcF s1 indent1 l1) post1:=⟨_,rfl⟩
   have h:zcF s1 indent1 l1 x1 ag1 t10 t11 t12=some r:=by rw [hag1]; exact h
   unfold zcF at h
   refine zaG ?_
   obtain ⟨j2,hj2,h⟩:=zbO h
   refine zaY (β:=(List Int)×Int×Hd×Hd) 4 rfl (fun b=>j2 b.1 b.2.1=some r) (fun b=>[]) (fun b=>[(6,.pointer none),(7,zP b7),(10,zI b.2.1),(27,.func (.func 33) #[] #[zP b8])]) (fun b=>[cells b7 [zP b6] 179,cells b6 [.string s1,b.2.2.1.v,b.2.2.2.v,hd12.v,zI (max 1 (l1.Width - indent1)),zI (l1.Width - l1.Turn)] 203,zv6 b.2.2.1.v (t10++[x1]),zv0 b.2.2.2.v b.1,zv0 hd12.v t12]) (fun cut => ?_) ?_
   ·
    refine zaH ?_
    obtain ⟨hg3,h⟩:=zbw h
    refine zfz 1 ?_
    refine let vals1:(Nat×Hd)→List (Nat×Nat×Value):=fun b=>[(0,29,zP b6),(1,30,zP b6),(2,31,zP b6),(3,32,.pointer (some ⟨b6,1,none⟩)),(4,33,hd10.v),(5,34,.agg (zr2 x1).toArray),(6,35,.slice (some ⟨b.1,0,none⟩) 1 1),(7,36,b.2.v)]; let LL1:(Nat→Prop)→(Nat×Hd)→List Asn:=fun D b=>[cells b7 [zP b6] 179,cells b6 [.string s1,hd10.v,hd11.v,hd12.v,zI (max 1 (l1.Width - indent1)),zI (l1.Width - l1.Turn)] 203,eD D (zv6 hd10.v t10) [(7,zv6 b.2.v (t10++[x1]))],zv0 hd11.v t11,zv0 hd12.v t12,cells jb1 (zr2 x1) 40,eD D emp [(6,cells b.1 (zr2 x1) 40)]]; ?_
    have zhq:zyQ [6,7] LL1:=fun i h D b=>zab rfl (zab rfl (zab (zja rfl h) (zab rfl (zab rfl (zab rfl (zab (zja rfl h) rfl))))))
    refine zdB (β:=Nat×Hd) 8 ((0:Nat),Hd.nil) vals1 LL1 mixed kr kr dc (fun _=>rfl) (zek (zab zbN (zcK (zab zbN rfl)))) (zgj zhq rfl (fun _=>rfl) (fun _=>rfl) ?_ (zgj zhq rfl (fun _=>rfl) (fun _=>rfl) ?_ (zyq zhq rfl (fun _=>rfl) (fun _=>rfl) ?_ (zyq zhq rfl (fun _=>rfl) (fun _=>rfl) ?_ (zgj zhq rfl (fun _=>rfl) (fun _=>rfl) ?_ (zgj zhq rfl (fun _=>rfl) (fun _=>rfl) ?_ (zat ?_ (zat ?_ DrawG.nil)))))))) ?_
    · exact fun D ⟨b10,hd15⟩ n d c u i=>⟨_,(zhd rfl),zan (k:=0) zgT rfl dc (za8 (by rfl) rfl) rfl rfl (zaf 0 u i rfl)⟩
    · exact fun D ⟨b10,hd15⟩ n d c u i=>⟨_,(zek (zab (zag (fun hD=>n (c 2 _ rfl (c 3 _ rfl (c 4 _ rfl (c 7 _ rfl hD 4 dc) 3 dc) 2 dc) 1 dc)) zaj) (zeH rfl))),zan (k:=0) zgT rfl dc (za8 (by rfl) rfl) rfl rfl (zaf 1 u i rfl)⟩
    · exact fun D ⟨b10,hd15⟩ n d c u i=>zar rfl dc (zaa (m:=1) u rfl (d 1 dc)) (zaf 2 u i rfl)
    · exact fun D ⟨b10,hd15⟩ n d c u i=>zac zgq rfl dc (zaa (m:=2) u rfl (d 2 dc)) (show _=1 from rfl) (zaf 3 u i rfl)
    · exact fun D ⟨b10,hd15⟩ n d c u i=>⟨_,(zek (zab (zag (fun hD=>n (c 7 _ rfl hD 4 dc)) zaj) (zeH rfl))),zan (k:=1) zpf rfl dc (zaa (m:=3) u rfl (d 3 dc)) rfl rfl (zaf 4 u i rfl)⟩
    · exact fun D ⟨b10,hd15⟩ n d c u i=>⟨_,(zek (zab (zag (fun hD=>n (c 6 _ rfl (c 7 _ rfl hD 6 dc) 5 dc)) zaj) (zcK (zab (zag (fun hD=>n (c 6 _ rfl hD 5 dc)) zaj) rfl)))),za5 (k:=5) (cs:=(zr2 x1)) zkY rfl dc (za8 (by rfl) rfl) rfl rfl rfl (zaf 5 u i rfl)⟩
    ·
     intro D b hn hd hcl
     obtain ⟨zb0,hd15⟩:=b
     refine zaK (zek (zab (zag (fun hD=>hn (hcl 7 _ rfl hD 6 dc)) zaj) (zcK (zab (zag hn zaj) rfl)))) ?_
     refine zaR (cs:=(zr2 x1)) (te:=40) (ps:=[(0,.tmp 34)]) rfl dc (evP.cons (zaa (m:=5) rfl rfl (hd 5 dc)) evP.nil) (fun _=>by kernel_rfl) (fun b10 => ?_)
     refine zcS 6 rfl rfl ?_
     exact zaQ (b:=(zb0,hd15)) (b10,hd15) 6 (by rfl) (by rfl) rfl (zta (zao (fun hD=>absurd hD hn) (zao (fun _=>rfl) rfl))) (zek (zab ((zam (by rfl)).trans (zag (fun hD=>hn (hcl 7 _ rfl hD 6 dc)) zaj)) (zcK (zab (zaE (Or.inr rfl) rfl) rfl))))
    ·
     intro D b hn hd hcl
     obtain ⟨b10,zb1⟩:=b
     refine zaK (zek (zab (zag hn zaj) (zcK (zab (zaE (hd 6 dc) rfl) rfl)))) ?_
     refine zaZ (k:=2) (k2:=6) (ys:=[x1]) Tryz.underlying94 zwV zep zi1 rfl dc (zaa (m:=4) rfl rfl (hd 4 dc)) (zaa (m:=6) rfl rfl (hd 6 dc)) rfl rfl rfl rfl hg3 (fun v1 => ?_)
     refine zbo (k:=2) rfl (fun hd15 he1 => ?_)
     subst he1
     exact zaQ (b:=(b10,zb1)) (b10,hd15) 7 (by rfl) (by rfl) rfl (zjo (zao (fun hD=>absurd hD hn) rfl)) (zek (zab (zaE (Or.inr rfl) rfl) (zcK (zab ((zam (by rfl)).trans (zaE (hd 6 dc) rfl)) rfl))))
    intro D b hall
    obtain ⟨b10,hd15⟩:=b
    refine zaK (zek (zab (zaE (hall 7 dc) rfl) (zcK (zab (zaE (hall 6 dc) rfl) rfl)))) (zar rfl dc rfl (zac zgq rfl dc rfl (show _=1 from rfl) ?_))
    refine zbe (k:=1) (l':=[.string s1,hd15.v,hd11.v,hd12.v,zI (max 1 (l1.Width - indent1)),zI (l1.Width - l1.Turn)]) zvX rfl rfl rfl rfl rfl (fun _ _=>rfl) rfl ?_
    refine zyH (zan (k:=0) zgT rfl dc rfl rfl rfl (zar rfl dc rfl (zac zgq rfl dc rfl (show _=1 from rfl) (zan (k:=1) zpf rfl dc rfl rfl rfl (zcm (k:=2) rfl dc rfl rfl Tryz.underlying94 ?_)))))
    obtain ⟨hg4,h⟩:=zbw h
    refine zaW rfl (zcd (r:=((t10++[x1]).length:Int) - 1) (IntWalk.i64_in _ hg4)) (zyR 1 rfl (zyN (zaH ?_)))
    obtain ⟨q1,hq3,h⟩:=zbx h
    obtain ⟨hg5,h⟩:=zbw h
    obtain ⟨hg6,h⟩:=zbw h
    refine zfz 1 ?_
    refine let vals2:(Nat×Hd)→List (Nat×Nat×Value):=fun b=>[(0,45,zP b6),(1,46,zP b6),(2,47,zP b6),(3,48,.pointer (some ⟨b6,2,none⟩)),(4,49,hd11.v),(5,50,zP b6),(6,51,zP b6),(7,52,.pointer (some ⟨b6,2,none⟩)),(8,53,hd11.v),(9,54,zI (((t10++[x1]).length:Int) - 1)),(10,55,.pointer (some ⟨zdK hd11.v,(((t10++[x1]).length:Int) - 1:Int).toNat*1,none⟩)),(11,56,zI q1),(12,57,.pointer (some ⟨jb1,2,none⟩)),(13,58,zI x1.Columns),(14,59,zI (q1+x1.Columns)),(15,60,.slice (some ⟨b.1,0,none⟩) 1 1),(16,61,b.2.v)]; let LL2:(Nat→Prop)→(Nat×Hd)→List Asn:=fun D b=>[cells b7 [zP b6] 179,cells b6 [.string s1,hd15.v,hd11.v,hd12.v,zI (max 1 (l1.Width - indent1)),zI (l1.Width - l1.Turn)] 203,zv6 hd15.v (t10++[x1]),eD D (zv0 hd11.v t11) [(16,zv0 b.2.v (t11++[q1+x1.Columns]))],zv0 hd12.v t12,cells jb1 (zr2 x1) 40,cells b10 (zr2 x1) 40,eD D emp [(15,cells b.1 [zI (q1+x1.Columns)] 3)]]; ?_
    refine zdB (β:=Nat×Hd) 17 ((0:Nat),Hd.nil) vals2 LL2 mixed kr kr dc (fun _=>rfl) (zcK (zab zbN (zcK (zab zbN rfl)))) (zat ?_ (zat ?_ (zat ?_ (zat ?_ (zat ?_ (zat ?_ (zat ?_ (zat ?_ (zat ?_ (zat ?_ (zat ?_ (zat ?_ (zat ?_ (zat ?_ (zat ?_ (zat ?_ (zat ?_ DrawG.nil))))))))))))))))) ?_
    ·
     intro D b hn hd hcl
     obtain ⟨b11,hd16⟩:=b
     refine zaK (zhR rfl) (zan (k:=0) zgT rfl dc (za8 (by rfl) rfl) rfl rfl ?_)
     exact zaQ (b:=(b11,hd16)) (b11,hd16) 0 (by rfl) (by rfl) rfl (zmE (zdg rfl)) (zcK (zab (zam (by rfl)) (zcK (zab (zam (by rfl)) rfl))))
    ·
     intro D b hn hd hcl
     obtain ⟨b11,hd16⟩:=b
     refine zaK (zcK (zab (zag (fun hD=>hn (hcl 2 _ rfl (hcl 3 _ rfl (hcl 4 _ rfl (hcl 16 _ rfl hD 4 dc) 3 dc) 2 dc) 1 dc)) zaj) (zeH rfl))) ?_
     refine zan (k:=0) zgT rfl dc (za8 (by rfl) rfl) rfl rfl ?_
     exact zaQ (b:=(b11,hd16)) (b11,hd16) 1 (by rfl) (by rfl) rfl (zmE (zdg rfl)) (zcK (zab ((zam (by rfl)).trans (zag (fun hD=>hn (hcl 2 _ rfl (hcl 3 _ rfl (hcl 4 _ rfl (hcl 16 _ rfl hD 4 dc) 3 dc) 2 dc) 1 dc)) zaj)) (zcK (zab (zam (by rfl)) rfl))))
    ·
     intro D b hn hd hcl
     obtain ⟨b11,hd16⟩:=b
     refine zaK (zcK (zab (zag (fun hD=>hn (hcl 3 _ rfl (hcl 4 _ rfl (hcl 16 _ rfl hD 4 dc) 3 dc) 2 dc)) zaj) (zeH rfl))) ?_
     refine zar rfl dc (zaa (m:=1) rfl rfl (hd 1 dc)) ?_
     exact zaQ (b:=(b11,hd16)) (b11,hd16) 2 (by rfl) (by rfl) rfl (zmE (zdg rfl)) (zcK (zab ((zam (by rfl)).trans (zag (fun hD=>hn (hcl 3 _ rfl (hcl 4 _ rfl (hcl 16 _ rfl hD 4 dc) 3 dc) 2 dc)) zaj)) (zcK (zab (zam (by rfl)) rfl))))
    ·
     intro D b hn hd hcl
     obtain ⟨b11,hd16⟩:=b
     refine zaK (zcK (zab (zag (fun hD=>hn (hcl 4 _ rfl (hcl 16 _ rfl hD 4 dc) 3 dc)) zaj) (zeH rfl))) ?_
     refine zac zig rfl dc (zaa (m:=2) rfl rfl (hd 2 dc)) (show _=2 from rfl) ?_
     exact zaQ (b:=(b11,hd16)) (b11,hd16) 3 (by rfl) (by rfl) rfl (zmE (zdg rfl)) (zcK (zab ((zam (by rfl)).trans (zag (fun hD=>hn (hcl 4 _ rfl (hcl 16 _ rfl hD 4 dc) 3 dc)) zaj)) (zcK (zab (zam (by rfl)) rfl))))
    ·
     intro D b hn hd hcl
     obtain ⟨b11,hd16⟩:=b
     refine zaK (zcK (zab (zag (fun hD=>hn (hcl 16 _ rfl hD 4 dc)) zaj) (zeH rfl))) ?_
     refine zan (k:=1) zgF rfl dc (zaa (m:=3) rfl rfl (hd 3 dc)) rfl rfl ?_
     exact zaQ (b:=(b11,hd16)) (b11,hd16) 4 (by rfl) (by rfl) rfl (zmE (zdg rfl)) (zcK (zab ((zam (by rfl)).trans (zag (fun hD=>hn (hcl 16 _ rfl hD 4 dc)) zaj)) (zcK (zab (zam (by rfl)) rfl))))
    ·
     intro D b hn hd hcl
     obtain ⟨b11,hd16⟩:=b
     refine zaK (zcK (zab (zag (fun hD=>hn (hcl 6 _ rfl (hcl 7 _ rfl (hcl 8 _ rfl (hcl 10 _ rfl (hcl 11 _ rfl (hcl 14 _ rfl (hcl 15 _ rfl (hcl 16 _ rfl hD 15 dc) 14 dc) 11 dc) 10 dc) 8 dc) 7 dc) 6 dc) 5 dc)) zaj) (zcK (zab (zag (fun hD=>hn (hcl 6 _ rfl (hcl 7 _ rfl (hcl 8 _ rfl (hcl 10 _ rfl (hcl 11 _ rfl (hcl 14 _ rfl (hcl 15 _ rfl hD 14 dc) 11 dc) 10 dc) 8 dc) 7 dc) 6 dc) 5 dc)) zaj) rfl)))) ?_
     refine zan (k:=0) zgT rfl dc (za8 (by rfl) rfl) rfl rfl ?_
     exact zaQ (b:=(b11,hd16)) (b11,hd16) 5 (by rfl) (by rfl) rfl (zmE (zdg rfl)) (zcK (zab ((zam (by rfl)).trans (zag (fun hD=>hn (hcl 6 _ rfl (hcl 7 _ rfl (hcl 8 _ rfl (hcl 10 _ rfl (hcl 11 _ rfl (hcl 14 _ rfl (hcl 15 _ rfl (hcl 16 _ rfl hD 15 dc) 14 dc) 11 dc) 10 dc) 8 dc) 7 dc) 6 dc) 5 dc)) zaj)) (zcK (zab ((zam (by rfl)).trans (zag (fun hD=>hn (hcl 6 _ rfl (hcl 7 _ rfl (hcl 8 _ rfl (hcl 10 _ rfl (hcl 11 _ rfl (hcl 14 _ rfl (hcl 15 _ rfl hD 14 dc) 11 dc) 10 dc) 8 dc) 7 dc) 6 dc) 5 dc)) zaj)) rfl))))
    ·
     intro D b hn hd hcl
     obtain ⟨b11,hd16⟩:=b
     refine zaK (zcK (zab (zag (fun hD=>hn (hcl 7 _ rfl (hcl 8 _ rfl (hcl 10 _ rfl (hcl 11 _ rfl (hcl 14 _ rfl (hcl 15 _ rfl (hcl 16 _ rfl hD 15 dc) 14 dc) 11 dc) 10 dc) 8 dc) 7 dc) 6 dc)) zaj) (zcK (zab (zag (fun hD=>hn (hcl 7 _ rfl (hcl 8 _ rfl (hcl 10 _ rfl (hcl 11 _ rfl (hcl 14 _ rfl (hcl 15 _ rfl hD 14 dc) 11 dc) 10 dc) 8 dc) 7 dc) 6 dc)) zaj) rfl)))) ?_
     refine zar rfl dc (zaa (m:=5) rfl rfl (hd 5 dc)) ?_
     exact zaQ (b:=(b11,hd16)) (b11,hd16) 6 (by rfl) (by rfl) rfl (zmE (zdg rfl)) (zcK (zab ((zam (by rfl)).trans (zag (fun hD=>hn (hcl 7 _ rfl (hcl 8 _ rfl (hcl 10 _ rfl (hcl 11 _ rfl (hcl 14 _ rfl (hcl 15 _ rfl (hcl 16 _ rfl hD 15 dc) 14 dc) 11 dc) 10 dc) 8 dc) 7 dc) 6 dc)) zaj)) (zcK (zab ((zam (by rfl)).trans (zag (fun hD=>hn (hcl 7 _ rfl (hcl 8 _ rfl (hcl 10 _ rfl (hcl 11 _ rfl (hcl 14 _ rfl (hcl 15 _ rfl hD 14 dc) 11 dc) 10 dc) 8 dc) 7 dc) 6 dc)) zaj)) rfl))))
    ·
     intro D b hn hd hcl
     obtain ⟨b11,hd16⟩:=b
     refine zaK (zcK (zab (zag (fun hD=>hn (hcl 8 _ rfl (hcl 10 _ rfl (hcl 11 _ rfl (hcl 14 _ rfl (hcl 15 _ rfl (hcl 16 _ rfl hD 15 dc) 14 dc) 11 dc) 10 dc) 8 dc) 7 dc)) zaj) (zcK (zab (zag (fun hD=>hn (hcl 8 _ rfl (hcl 10 _ rfl (hcl 11 _ rfl (hcl 14 _ rfl (hcl 15 _ rfl hD 14 dc) 11 dc) 10 dc) 8 dc) 7 dc)) zaj) rfl)))) ?_
     refine zac zig rfl dc (zaa (m:=6) rfl rfl (hd 6 dc)) (show _=2 from rfl) ?_
     exact zaQ (b:=(b11,hd16)) (b11,hd16) 7 (by rfl) (by rfl) rfl (zmE (zdg rfl)) (zcK (zab ((zam (by rfl)).trans (zag (fun hD=>hn (hcl 8 _ rfl (hcl 10 _ rfl (hcl 11 _ rfl (hcl 14 _ rfl (hcl 15 _ rfl (hcl 16 _ rfl hD 15 dc) 14 dc) 11 dc) 10 dc) 8 dc) 7 dc)) zaj)) (zcK (zab ((zam (by rfl)).trans (zag (fun hD=>hn (hcl 8 _ rfl (hcl 10 _ rfl (hcl 11 _ rfl (hcl 14 _ rfl (hcl 15 _ rfl hD 14 dc) 11 dc) 10 dc) 8 dc) 7 dc)) zaj)) rfl))))
    ·
     intro D b hn hd hcl
     obtain ⟨b11,hd16⟩:=b
     refine zaK (zcK (zab (zag (fun hD=>hn (hcl 10 _ rfl (hcl 11 _ rfl (hcl 14 _ rfl (hcl 15 _ rfl (hcl 16 _ rfl hD 15 dc) 14 dc) 11 dc) 10 dc) 8 dc)) zaj) (zcK (zab (zag (fun hD=>hn (hcl 10 _ rfl (hcl 11 _ rfl (hcl 14 _ rfl (hcl 15 _ rfl hD 14 dc) 11 dc) 10 dc) 8 dc)) zaj) rfl)))) ?_
     refine zan (k:=1) zgF rfl dc (zaa (m:=7) rfl rfl (hd 7 dc)) rfl rfl ?_
     exact zaQ (b:=(b11,hd16)) (b11,hd16) 8 (by rfl) (by rfl) rfl (zmE (zdg rfl)) (zcK (zab ((zam (by rfl)).trans (zag (fun hD=>hn (hcl 10 _ rfl (hcl 11 _ rfl (hcl 14 _ rfl (hcl 15 _ rfl (hcl 16 _ rfl hD 15 dc) 14 dc) 11 dc) 10 dc) 8 dc)) zaj)) (zcK (zab ((zam (by rfl)).trans (zag (fun hD=>hn (hcl 10 _ rfl (hcl 11 _ rfl (hcl 14 _ rfl (hcl 15 _ rfl hD 14 dc) 11 dc) 10 dc) 8 dc)) zaj)) rfl))))
    ·
     intro D b hn hd hcl
     obtain ⟨b11,hd16⟩:=b
     refine zaK (zcK (zab (zag (fun hD=>hn (hcl 10 _ rfl (hcl 11 _ rfl (hcl 14 _ rfl (hcl 15 _ rfl (hcl 16 _ rfl hD 15 dc) 14 dc) 11 dc) 10 dc) 9 dc)) zaj) (zcK (zab (zag (fun hD=>hn (hcl 10 _ rfl (hcl 11 _ rfl (hcl 14 _ rfl (hcl 15 _ rfl hD 14 dc) 11 dc) 10 dc) 9 dc)) zaj) rfl)))) ?_
     refine zfV rfl dc (za8 (by rfl) rfl) ?_
     exact zaQ (b:=(b11,hd16)) (b11,hd16) 9 (by rfl) (by rfl) rfl (zmE (zdg rfl)) (zcK (zab ((zam (by rfl)).trans (zag (fun hD=>hn (hcl 10 _ rfl (hcl 11 _ rfl (hcl 14 _ rfl (hcl 15 _ rfl (hcl 16 _ rfl hD 15 dc) 14 dc) 11 dc) 10 dc) 9 dc)) zaj)) (zcK (zab ((zam (by rfl)).trans (zag (fun hD=>hn (hcl 10 _ rfl (hcl 11 _ rfl (hcl 14 _ rfl (hcl 15 _ rfl hD 14 dc) 11 dc) 10 dc) 9 dc)) zaj)) rfl))))
    ·
     intro D b hn hd hcl
     obtain ⟨b11,hd16⟩:=b
     refine zaK (zcK (zab (zag (fun hD=>hn (hcl 11 _ rfl (hcl 14 _ rfl (hcl 15 _ rfl (hcl 16 _ rfl hD 15 dc) 14 dc) 11 dc) 10 dc)) zaj) (zcK (zab (zag (fun hD=>hn (hcl 11 _ rfl (hcl 14 _ rfl (hcl 15 _ rfl hD 14 dc) 11 dc) 10 dc)) zaj) rfl)))) ?_
     refine zaL (k:=3) hq3 Tryz.underlying49 zf9 rfl dc (zaa (m:=8) rfl rfl (hd 8 dc)) (zaa (m:=9) rfl rfl (hd 9 dc)) rfl rfl ?_
     exact zaQ (b:=(b11,hd16)) (b11,hd16) 10 (by rfl) (by rfl) rfl (zmE (zdg rfl)) (zcK (zab ((zam (by rfl)).trans (zag (fun hD=>hn (hcl 11 _ rfl (hcl 14 _ rfl (hcl 15 _ rfl (hcl 16 _ rfl hD 15 dc) 14 dc) 11 dc) 10 dc)) zaj)) (zcK (zab ((zam (by rfl)).trans (zag (fun hD=>hn (hcl 11 _ rfl (hcl 14 _ rfl (hcl 15 _ rfl hD 14 dc) 11 dc) 10 dc)) zaj)) rfl))))
    ·
     intro D b hn hd hcl
     obtain ⟨b11,hd16⟩:=b
     refine zaK (zcK (zab (zag (fun hD=>hn (hcl 14 _ rfl (hcl 15 _ rfl (hcl 16 _ rfl hD 15 dc) 14 dc) 11 dc)) zaj) (zcK (zab (zag (fun hD=>hn (hcl 14 _ rfl (hcl 15 _ rfl hD 14 dc) 11 dc)) zaj) rfl)))) ?_
     refine zbk (i:=(((t10++[x1]).length:Int) - 1:Int).toNat) (j:=0) (k:=3) (q:=q1) zbS zcO rfl dc (zaa (m:=10) rfl rfl (hd 10 dc)) rfl (za0 hq3) rfl dc rfl ?_
     exact zaQ (b:=(b11,hd16)) (b11,hd16) 11 (by rfl) (by rfl) rfl (zmE (zdg rfl)) (zcK (zab ((zam (by rfl)).trans (zag (fun hD=>hn (hcl 14 _ rfl (hcl 15 _ rfl (hcl 16 _ rfl hD 15 dc) 14 dc) 11 dc)) zaj)) (zcK (zab ((zam (by rfl)).trans (zag (fun hD=>hn (hcl 14 _ rfl (hcl 15 _ rfl hD 14 dc) 11 dc)) zaj)) rfl))))
    ·
     intro D b hn hd hcl
     obtain ⟨b11,hd16⟩:=b
     refine zaK (zcK (zab (zag (fun hD=>hn (hcl 13 _ rfl (hcl 14 _ rfl (hcl 15 _ rfl (hcl 16 _ rfl hD 15 dc) 14 dc) 13 dc) 12 dc)) zaj) (zcK (zab (zag (fun hD=>hn (hcl 13 _ rfl (hcl 14 _ rfl (hcl 15 _ rfl hD 14 dc) 13 dc) 12 dc)) zaj) rfl)))) ?_
     refine zac zky rfl dc (za8 (by rfl) rfl) (show _=2 from rfl) ?_
     exact zaQ (b:=(b11,hd16)) (b11,hd16) 12 (by rfl) (by rfl) rfl (zmE (zdg rfl)) (zcK (zab ((zam (by rfl)).trans (zag (fun hD=>hn (hcl 13 _ rfl (hcl 14 _ rfl (hcl 15 _ rfl (hcl 16 _ rfl hD 15 dc) 14 dc) 13 dc) 12 dc)) zaj)) (zcK (zab ((zam (by rfl)).trans (zag (fun hD=>hn (hcl 13 _ rfl (hcl 14 _ rfl (hcl 15 _ rfl hD 14 dc) 13 dc) 12 dc)) zaj)) rfl))))
    ·
     intro D b hn hd hcl
     obtain ⟨b11,hd16⟩:=b
     refine zaK (zcK (zab (zag (fun hD=>hn (hcl 14 _ rfl (hcl 15 _ rfl (hcl 16 _ rfl hD 15 dc) 14 dc) 13 dc)) zaj) (zcK (zab (zag (fun hD=>hn (hcl 14 _ rfl (hcl 15 _ rfl hD 14 dc) 13 dc)) zaj) rfl)))) ?_
     refine zan (k:=5) zbS rfl dc (zaa (m:=12) rfl rfl (hd 12 dc)) rfl rfl ?_
     exact zaQ (b:=(b11,hd16)) (b11,hd16) 13 (by rfl) (by rfl) rfl (zmE (zdg rfl)) (zcK (zab ((zam (by rfl)).trans (zag (fun hD=>hn (hcl 14 _ rfl (hcl 15 _ rfl (hcl 16 _ rfl hD 15 dc) 14 dc) 13 dc)) zaj)) (zcK (zab ((zam (by rfl)).trans (zag (fun hD=>hn (hcl 14 _ rfl (hcl 15 _ rfl hD 14 dc) 13 dc)) zaj)) rfl))))
    ·
     intro D b hn hd hcl
     obtain ⟨b11,hd16⟩:=b
     refine zaK (zcK (zab (zag (fun hD=>hn (hcl 15 _ rfl (hcl 16 _ rfl hD 15 dc) 14 dc)) zaj) (zcK (zab (zag (fun hD=>hn (hcl 15 _ rfl hD 14 dc)) zaj) rfl)))) ?_
     refine zcc rfl dc (zaa (m:=11) rfl rfl (hd 11 dc)) (zaa (m:=13) rfl rfl (hd 13 dc)) (zaV (r:=q1+x1.Columns) (IntWalk.i64_in _ hg5)) ?_
     exact zaQ (b:=(b11,hd16)) (b11,hd16) 14 (by rfl) (by rfl) rfl (zmE (zdg rfl)) (zcK (zab ((zam (by rfl)).trans (zag (fun hD=>hn (hcl 15 _ rfl (hcl 16 _ rfl hD 15 dc) 14 dc)) zaj)) (zcK (zab ((zam (by rfl)).trans (zag (fun hD=>hn (hcl 15 _ rfl hD 14 dc)) zaj)) rfl))))
    ·
     intro D b hn hd hcl
     obtain ⟨zb0,hd16⟩:=b
     refine zaK (zcK (zab (zag (fun hD=>hn (hcl 16 _ rfl hD 15 dc)) zaj) (zcK (zab (zag hn zaj) rfl)))) ?_
     refine zaR (cs:=[zI (q1+x1.Columns)]) (te:=3) (ps:=[(0,.tmp 59)]) rfl dc (evP.cons (zaa (m:=14) rfl rfl (hd 14 dc)) evP.nil) (fun _=>by kernel_rfl) (fun b11 => ?_)
     refine zcS 7 rfl rfl ?_
     exact zaQ (b:=(zb0,hd16)) (b11,hd16) 15 (by rfl) (by rfl) rfl (ztb (zdg (zao (fun hD=>absurd hD hn) (zao (fun _=>rfl) rfl)))) (zcK (zab ((zam (by rfl)).trans (zag (fun hD=>hn (hcl 16 _ rfl hD 15 dc)) zaj)) (zcK (zab (zaE (Or.inr rfl) rfl) rfl))))
    ·
     intro D b hn hd hcl
     obtain ⟨b11,zb1⟩:=b
     refine zaK (zcK (zab (zag hn zaj) (zcK (zab (zaE (hd 15 dc) rfl) rfl)))) ?_
     refine zaZ (k:=3) (k2:=7) (ys:=[q1+x1.Columns]) Tryz.underlying49 ztR zcO zgs rfl dc (zaa (m:=4) rfl rfl (hd 4 dc)) (zaa (m:=15) rfl rfl (hd 15 dc)) rfl rfl rfl rfl hg6 (fun v2 => ?_)
     refine zbo (k:=3) rfl (fun hd16 he2 => ?_)
     subst he2
     exact zaQ (b:=(b11,zb1)) (b11,hd16) 16 (by rfl) (by rfl) rfl (zvS (zdg (zao (fun hD=>absurd hD hn) rfl))) (zcK (zab (zaE (Or.inr rfl) rfl) (zcK (zab ((zam (by rfl)).trans (zaE (hd 15 dc) rfl)) rfl))))
    intro D b hall
    obtain ⟨b11,hd16⟩:=b
    refine zaK (zcK (zab (zaE (hall 16 dc) rfl) (zcK (zab (zaE (hall 15 dc) rfl) rfl)))) (zar rfl dc rfl (zac zig rfl dc rfl (show _=2 from rfl) ?_))
    refine zbe (k:=1) (l':=[.string s1,hd15.v,hd16.v,hd12.v,zI (max 1 (l1.Width - indent1)),zI (l1.Width - l1.Turn)]) zp0 rfl rfl rfl rfl rfl (fun _ _=>rfl) rfl ?_
    refine zyH (zyR 1 rfl ?_)
    obtain ⟨hg7,h⟩:=zbw h
    refine zaW rfl (zaV (r:=(((t10++[x1]).length:Int) - 1)+1) (IntWalk.i64_in _ hg7)) (zyR 1 rfl (zyN (cut (zyG (zan (k:=0) zgT rfl dc rfl rfl rfl (zyR 1 rfl ?_))))))
    obtain ⟨r2,hq4,h⟩:=zbx h
    refine zbZ (v:=.bool r2) (vs:=[zP b6,zI (((t10++[x1]).length:Int) - 1)]) (Rd.nil:Rd _ _ []) rfl dc rfl rfl rfl zq6 (zet (bt1:=b6) (t1:=(⟨s1,t10++[x1],t11++[q1+x1.Columns],t12,max 1 (l1.Width - indent1),l1.Width - l1.Turn⟩:Gpage_turner)) (t1_h0:=hd15) (t1_h1:=hd16) (t1_h2:=hd12) hq4) (.own (zad [1] (by kernel_rfl) rfl) (fun _ _ h=>sepL.one1.1 h) (.own (zad [2] (by kernel_rfl) rfl) (fun _ _ h=>sepL.one1.1 h) (.own (zad [3] (by kernel_rfl) rfl) (fun _ _ h=>sepL.one1.1 h) (.own (zad [4] (by kernel_rfl) rfl) (fun _ _ h=>sepL.one1.1 h) .nil)))) ?_
    refine zyN ?_
    refine zyB rfl h (fun h => ?_) (fun h => ?_)
    ·
     refine zaB (zan (k:=0) zgT rfl dc rfl rfl rfl (zar rfl dc rfl (zac zif rfl dc rfl (show _=3 from rfl) (zan (k:=1) zgF rfl dc rfl rfl rfl (zyR 1 rfl ?_)))))
     obtain ⟨q2,hq5,h⟩:=zbx h
     refine zaL (k:=4) hq5 Tryz.underlying49 zf9 rfl dc rfl rfl rfl rfl (zbk (i:=(((t10++[x1]).length:Int) - 1:Int).toNat) (j:=0) (k:=4) (q:=q2) zbS zcO rfl dc rfl rfl (za0 hq5) rfl dc rfl (zyR 1 rfl (zaX ?_)))
     exact zaq (t11++[q1+x1.Columns],q2,hd15,hd16) h rfl (zba rfl) (zad [0,1,2,3,4] kr rfl)
    refine zau ?_
    exact zaq (t11++[q1+x1.Columns],(((t10++[x1]).length:Int) - 1)+1,hd15,hd16) h rfl (zba rfl) (zad [0,1,2,3,4] kr rfl)
   rintro ⟨t13,end1,hd13,hd14⟩ h
   rw [hj2] at h
   obtain ⟨hg8,h⟩:=zbw h
   refine zfz 1 ?_
   refine let vals3:(Nat×Hd)→List (Nat×Nat×Value):=fun b=>[(0,76,zP b6),(1,77,zP b6),(2,78,zP b6),(3,79,.pointer (some ⟨b6,3,none⟩)),(4,80,hd12.v),(5,81,zI end1),(6,82,.slice (some ⟨b.1,0,none⟩) 1 1),(7,83,b.2.v)]; let LL3:(Nat→Prop)→(Nat×Hd)→List Asn:=fun D b=>[cells b7 [zP b6] 179,cells b6 [.string s1,hd13.v,hd14.v,hd12.v,zI (max 1 (l1.Width - indent1)),zI (l1.Width - l1.Turn)] 203,zv6 hd13.v (t10++[x1]),zv0 hd14.v t13,eD D (zv0 hd12.v t12) [(7,zv0 b.2.v (t12++[end1]))],eD D emp [(6,cells b.1 [zI end1] 3)]]; ?_
   refine zdB (β:=Nat×Hd) 8 ((0:Nat),Hd.nil) vals3 LL3 mixed kr kr dc (fun _=>rfl) (zeH (zab zbN (zab zbN rfl))) (zat ?_ (zat ?_ (zat ?_ (zat ?_ (zat ?_ (zat ?_ (zat ?_ (zat ?_ DrawG.nil)))))))) ?_
   ·
    intro D b hn hd hcl
    obtain ⟨b12,hd17⟩:=b
    refine zaK (zs8 rfl) (zan (k:=0) zgT rfl dc (za8 (by rfl) rfl) rfl rfl ?_)
    exact zaQ (b:=(b12,hd17)) (b12,hd17) 0 (by rfl) (by rfl) rfl (zhe rfl) (zeH (zab (zam (by rfl)) (zab (zam (by rfl)) rfl)))
   ·
    intro D b hn hd hcl
    obtain ⟨b12,hd17⟩:=b
    refine zaK (zeH (zab (zag (fun hD=>hn (hcl 2 _ rfl (hcl 3 _ rfl (hcl 4 _ rfl (hcl 7 _ rfl hD 4 dc) 3 dc) 2 dc) 1 dc)) zaj) rfl)) ?_
    refine zan (k:=0) zgT rfl dc (za8 (by rfl) rfl) rfl rfl ?_
    exact zaQ (b:=(b12,hd17)) (b12,hd17) 1 (by rfl) (by rfl) rfl (zhe rfl) (zeH (zab ((zam (by rfl)).trans (zag (fun hD=>hn (hcl 2 _ rfl (hcl 3 _ rfl (hcl 4 _ rfl (hcl 7 _ rfl hD 4 dc) 3 dc) 2 dc) 1 dc)) zaj)) (zab (zam (by rfl)) rfl)))
   ·
    intro D b hn hd hcl
    obtain ⟨b12,hd17⟩:=b
    refine zaK (zeH (zab (zag (fun hD=>hn (hcl 3 _ rfl (hcl 4 _ rfl (hcl 7 _ rfl hD 4 dc) 3 dc) 2 dc)) zaj) rfl)) ?_
    refine zar rfl dc (zaa (m:=1) rfl rfl (hd 1 dc)) ?_
    exact zaQ (b:=(b12,hd17)) (b12,hd17) 2 (by rfl) (by rfl) rfl (zhe rfl) (zeH (zab ((zam (by rfl)).trans (zag (fun hD=>hn (hcl 3 _ rfl (hcl 4 _ rfl (hcl 7 _ rfl hD 4 dc) 3 dc) 2 dc)) zaj)) (zab (zam (by rfl)) rfl)))
   ·
    intro D b hn hd hcl
    obtain ⟨b12,hd17⟩:=b
    refine zaK (zeH (zab (zag (fun hD=>hn (hcl 4 _ rfl (hcl 7 _ rfl hD 4 dc) 3 dc)) zaj) rfl)) ?_
    refine zac zif rfl dc (zaa (m:=2) rfl rfl (hd 2 dc)) (show _=3 from rfl) ?_
    exact zaQ (b:=(b12,hd17)) (b12,hd17) 3 (by rfl) (by rfl) rfl (zhe rfl) (zeH (zab ((zam (by rfl)).trans (zag (fun hD=>hn (hcl 4 _ rfl (hcl 7 _ rfl hD 4 dc) 3 dc)) zaj)) (zab (zam (by rfl)) rfl)))
   ·
    intro D b hn hd hcl
    obtain ⟨b12,hd17⟩:=b
    refine zaK (zeH (zab (zag (fun hD=>hn (hcl 7 _ rfl hD 4 dc)) zaj) rfl)) ?_
    refine zan (k:=1) zgF rfl dc (zaa (m:=3) rfl rfl (hd 3 dc)) rfl rfl ?_
    exact zaQ (b:=(b12,hd17)) (b12,hd17) 4 (by rfl) (by rfl) rfl (zhe rfl) (zeH (zab ((zam (by rfl)).trans (zag (fun hD=>hn (hcl 7 _ rfl hD 4 dc)) zaj)) (zab (zam (by rfl)) rfl)))
   ·
    intro D b hn hd hcl
    obtain ⟨b12,hd17⟩:=b
    refine zaK (zeH (zab (zag (fun hD=>hn (hcl 6 _ rfl (hcl 7 _ rfl hD 6 dc) 5 dc)) zaj) (zab (zag (fun hD=>hn (hcl 6 _ rfl hD 5 dc)) zaj) rfl))) ?_
    refine zfV rfl dc (za8 (by rfl) rfl) ?_
    exact zaQ (b:=(b12,hd17)) (b12,hd17) 5 (by rfl) (by rfl) rfl (zhe rfl) (zeH (zab ((zam (by rfl)).trans (zag (fun hD=>hn (hcl 6 _ rfl (hcl 7 _ rfl hD 6 dc) 5 dc)) zaj)) (zab ((zam (by rfl)).trans (zag (fun hD=>hn (hcl 6 _ rfl hD 5 dc)) zaj)) rfl)))
   ·
    intro D b hn hd hcl
    obtain ⟨zb0,hd17⟩:=b
    refine zaK (zeH (zab (zag (fun hD=>hn (hcl 7 _ rfl hD 6 dc)) zaj) (zab (zag hn zaj) rfl))) ?_
    refine zaR (cs:=[zI end1]) (te:=3) (ps:=[(0,.tmp 81)]) rfl dc (evP.cons (zaa (m:=5) rfl rfl (hd 5 dc)) evP.nil) (fun _=>by kernel_rfl) (fun b12 => ?_)
    refine zcS 5 rfl rfl ?_
    exact zaQ (b:=(zb0,hd17)) (b12,hd17) 6 (by rfl) (by rfl) rfl (zta (zao (fun hD=>absurd hD hn) (zao (fun _=>rfl) rfl))) (zeH (zab ((zam (by rfl)).trans (zag (fun hD=>hn (hcl 7 _ rfl hD 6 dc)) zaj)) (zab (zaE (Or.inr rfl) rfl) rfl)))
   ·
    intro D b hn hd hcl
    obtain ⟨b12,zb1⟩:=b
    refine zaK (zeH (zab (zag hn zaj) (zab (zaE (hd 6 dc) rfl) rfl))) ?_
    refine zaZ (k:=4) (k2:=5) (ys:=[end1]) Tryz.underlying49 ztR zcO zgs rfl dc (zaa (m:=4) rfl rfl (hd 4 dc)) (zaa (m:=6) rfl rfl (hd 6 dc)) rfl rfl rfl rfl hg8 (fun v3 => ?_)
    refine zbo (k:=4) rfl (fun hd17 he3 => ?_)
    subst he3
    exact zaQ (b:=(b12,zb1)) (b12,hd17) 7 (by rfl) (by rfl) rfl (zjo (zao (fun hD=>absurd hD hn) rfl)) (zeH (zab (zaE (Or.inr rfl) rfl) (zab ((zam (by rfl)).trans (zaE (hd 6 dc) rfl)) rfl)))
   intro D b hall
   obtain ⟨b12,hd17⟩:=b
   refine zaK (zeH (zab (zaE (hall 7 dc) rfl) (zab (zaE (hall 6 dc) rfl) rfl))) (zar rfl dc rfl (zac zif rfl dc rfl (show _=3 from rfl) ?_))
   refine zbe (k:=1) (l':=[.string s1,hd13.v,hd14.v,hd17.v,zI (max 1 (l1.Width - indent1)),zI (l1.Width - l1.Turn)]) zp0 rfl rfl rfl rfl rfl (fun _ _=>rfl) rfl ?_
   refine zaX (zah ?_)
   exact zfm (t10++[x1],t13,t12++[end1],hd13,hd14,hd17) (fun post2 e2=>by have e9:=zex hxs1 e2; subst e9; subst hag1; exact h) (zad [0,1,2,3,4] kr rfl)
  ·
   rintro dm1 ⟨t10,t11,t12,hd10,hd11,hd12⟩ hinv
   have h:dn1 t10 t11 t12=some r:=hinv [] (List.append_nil _).symm
   rw [hdn1] at h
   refine zfT (k:=13) (j:=0) rfl rfl dc ?_
   refine zah ?_
   exact zaq (t10,t11,t12,b7,b6,hd10,hd11,hd12,dm1::([]:List Nat)) h rfl (zba rfl) (zad [8,9,10,11,12,0] kr rfl)
  rintro dm1 c pre x1 post g hxs hX
  exact (show False from hX).elim
 rintro ⟨t1,t2,t3,b1,b2,hd1,hd2,hd3,ds1⟩ h
 rw [hj1] at h
 refine zyG (zan (k:=0) zgT rfl dc rfl rfl rfl (zyR 1 rfl (zyN (zaA ?_))))
 cases h
 exact zeO (rs:=[.tmp 6]) ds1 (b2,hd1,hd2,hd3) (.inl rfl) (zbI (k:=5) rfl) Tryz.results95 (.cons (.tmp rfl) .nil) rfl (zad [1,2,3,4] kr rfl)
def zde (j1:Int→(List ByteArray)→Option ((List ByteArray)×Int)) (r1:Gpage_turner) (r2:((List Int)×Int)) (ag1:(List ByteArray)→Int→Int→Option ((List ByteArray)×Int)) (out4:List ByteArray) (from3:Int) (x3:Int):Option ((List ByteArray)×Int) :=
zax (decide ((x3:Int)<(r2.1.length:Int))) (
zak (zcN r2.1 x3) fun (q1:Int) =>
zak (zds r1 from3 q1) fun (r3:ByteArray) =>
grd (out4.length+1≤2147483648) <|
grd (I64 (x3+1)) <|
ag1 (out4++[r3]) q1 (x3+1)
) (
j1 r2.2 out4
)
def zeL (s1:ByteArray) (indent1:Int) (l1:Gapi_Layout):Option ((List ByteArray)×Int) :=
zbr (fun (j1:Int→(List ByteArray)→Option ((List ByteArray)×Int)) =>
zak (zdZ s1 indent1 l1) fun (r1:Gpage_turner) =>
zak (zdt r1) fun (r2:((List Int)×Int)) =>
zaM (fun _ _ _=>none) (zde j1 r1 r2) zb4 ([]:List ByteArray) 0 0
) (fun (cost1:Int) (out1:List ByteArray) =>
some (out1,cost1)
)
theorem zjf {s1:ByteArray} {indent1:Int} {l1:Gapi_Layout} {r:((List ByteArray)×Int)} (h:zeL s1 indent1 l1=some r):Fn Tryz.prog 67 [.string s1,zI indent1,.agg (zr0 l1).toArray] [] (fun v0:Value=>.tuple #[v0,zI r.2]) (fun v0=>[zv7 v0 r.1]):=by
 unfold zeL at h
 refine Fn.intro Tryz.func67 rfl Tryz.ntmps67 (by simp) ?_
 intro w0 K
 obtain ⟨j1,hj1,h⟩:=zbO h
 refine zaY (β:=Int×(List ByteArray)×Hd) 5 rfl (fun b=>j1 b.1 b.2.1=some r) (fun b=>[]) (fun b=>[(10,zI b.1),(11,b.2.2.v)]) (fun b=>[zv7 b.2.2.v b.2.1]) (fun cut => ?_) ?_
 ·
  refine zyG ?_
  refine zdQ rfl dc rfl (fun b1 => ?_)
  refine zyR 2 rfl (zyH (zyR 2 rfl (za5 (k:=0) (cs:=(zr0 l1)) zkZ rfl dc rfl rfl rfl rfl ?_)))
  obtain ⟨r1,hq1,h⟩:=zbx h
  refine zdI (vs:=[.string s1,zI indent1,.agg (zr0 l1).toArray]) rfl dc rfl rfl rfl zwo (ziM (l1:=l1) hq1) Splits.nil ?_
  rintro ⟨b2,hd2,hd3,hd4⟩
  refine zcu (L':=[cells b1 (zr0 l1) 23,cells b2 [.string r1.s,hd2.v,hd3.v,hd4.v,zI r1.first,zI r1.rest] 203,zv6 hd2.v r1.cells,zv0 hd3.v r1.wide,zv0 hd4.v r1.ends]) (zad [0,1,2,3,4] kr rfl) (zyR 1 rfl (zyH (zyR 1 rfl ?_)))
  obtain ⟨r2,hq2,h⟩:=zbx h
  refine zfa (vs:=[zP b2]) (Rd.nil:Rd _ _ []) rfl dc rfl rfl rfl zwn (zhE (bt1:=b2) (t1:=r1) (t1_h0:=hd2) (t1_h1:=hd3) (t1_h2:=hd4) hq2) Splits.nil (.own (zad [1] (by kernel_rfl) rfl) (fun _ _ h=>sepL.one1.1 h) (.own (zad [2] (by kernel_rfl) rfl) (fun _ _ h=>sepL.one1.1 h) (.own (zad [3] (by kernel_rfl) rfl) (fun _ _ h=>sepL.one1.1 h) (.own (zad [4] (by kernel_rfl) rfl) (fun _ _ h=>sepL.one1.1 h) .nil)))) ?_
  rintro v1
  refine zbo (k:=5) rfl (fun hd5 he1 => ?_)
  subst he1
  refine zyR 1 rfl (zaJ rfl dc rfl rfl (zaJ rfl dc rfl rfl (zyR 2 rfl (zyH (zyR 1 rfl (zyH ?_))))))
  refine zyR 1 rfl (zyN (cut (zyG (zyR 1 rfl (zcm (k:=5) rfl dc rfl rfl Tryz.underlying49 (zyR 1 rfl (zyN (zaG (zdR (enc:=zjl) (e:=9) (size:=1) ?_)))))))))
  refine zbt (β:=Nat×(List ByteArray)×Int×Int×Hd) (fun b=>zaM (fun _ _ _=>none) (zde j1 r1 r2) b.1 b.2.1 b.2.2.1 b.2.2.2.1=some r) (fun b=>[]) (fun b=>[(8,zP b2),(10,zI r2.2),(11,b.2.2.2.2.v),(12,zI b.2.2.1),(24,hd5.v),(25,zI (r2.1.length:Int)),(26,zI b.2.2.2.1)]) (fun b=>[cells b2 [.string r1.s,hd2.v,hd3.v,hd4.v,zI r1.first,zI r1.rest] 203,zv6 hd2.v r1.cells,zv0 hd3.v r1.wide,zv0 hd4.v r1.ends,zv7 b.2.2.2.2.v b.2.1,zv0 hd5.v r2.1]) (fun b=>b.1) (zb4,([]:List ByteArray),0,0,Hd.nil) h rfl (zba rfl) (zad [1,2,3,4,6,5] kr rfl) ?_
  rintro ⟨n1,out4,from3,x3,hd8⟩ h
  cases n1 with
  | zero=>exact zdG h
  | succ n1 =>
   obtain ⟨ag1,hag1⟩:∃ ag,ag=zaM (fun _ _ _=>none) (zde j1 r1 r2) n1:=⟨_,rfl⟩
   have h:zde j1 r1 r2 ag1 out4 from3 x3=some r:=by rw [hag1]; exact h
   unfold zde at h
   refine zyG (zaW rfl zbA (zyN (zaH ?_)))
   refine zyB rfl h (fun h => ?_) (fun h => ?_)
   ·
    refine zau (zaI (zaH (zaG (zyG ?_))))
    obtain ⟨q1,hq3,h⟩:=zbx h
    refine zaL (k:=5) hq3 Tryz.underlying49 zf9 rfl dc rfl rfl rfl rfl (zbk (i:=(x3:Int).toNat) (j:=0) (k:=5) (q:=q1) zbS zcO rfl dc rfl rfl (za0 hq3) rfl dc rfl (zyR 1 rfl (zyH (zyR 4 rfl ?_))))
    obtain ⟨r3,hq4,h⟩:=zbx h
    refine zbZ (v:=.string r3) (vs:=[zP b2,zI from3,zI q1]) (Rd.nil:Rd _ _ []) rfl dc rfl rfl rfl zwm (zhD (bt1:=b2) (t1:=r1) (t1_h0:=hd2) (t1_h1:=hd3) (t1_h2:=hd4) hq4) (.own (zad [0] (by kernel_rfl) rfl) (fun _ _ h=>sepL.one1.1 h) (.own (zad [1] (by kernel_rfl) rfl) (fun _ _ h=>sepL.one1.1 h) (.own (zad [2] (by kernel_rfl) rfl) (fun _ _ h=>sepL.one1.1 h) (.own (zad [3] (by kernel_rfl) rfl) (fun _ _ h=>sepL.one1.1 h) .nil)))) ?_
    refine zaR (cs:=[.string r3]) (te:=9) (ps:=[(0,.tmp 34)]) rfl dc rfl (fun _=>by kernel_rfl) (fun b3 => ?_)
    obtain ⟨hg1,h⟩:=zbw h
    refine zaZ (k:=4) (k2:=6) (ys:=[r3]) Tryz.underlying70 zvM zfA zjK rfl dc rfl rfl rfl rfl rfl rfl hg1 (fun v2 => ?_)
    refine zbo (k:=4) rfl (fun hd9 he2 => ?_)
    subst he2
    refine zyR 1 rfl (zyN (zaB (zyR 2 rfl (zaX (zah (zaI (zaB ?_)))))))
    obtain ⟨hg2,h⟩:=zbw h
    refine zaW rfl (zaV (r:=x3+1) (IntWalk.i64_in _ hg2)) (zyR 1 rfl (zaX ?_))
    subst hag1
    exact za4 (n1,out4++[r3],q1,x3+1,hd9) h (Nat.lt_succ_self _) rfl (zba rfl) (zad [0,1,2,3,4,5] kr rfl)
   refine za9 (zap (zap (zaz ?_)))
   exact zaq (r2.2,out4,hd8) h rfl (zba rfl) (zad [4] kr rfl)
 rintro ⟨cost1,out1,hd1⟩ h
 rw [hj1] at h
 refine zyG (zyR 4 rfl (zyN (zaA ?_)))
 cases h
 exact zaF (rs:=[.tmp 6,.tmp 7]) hd1.v (.inl rfl) Tryz.results67 (.cons (.tmp rfl) (.cons (.tmp rfl) .nil)) rfl (zad [0] kr rfl)
def zhG (text1:ByteArray) (indent1:Int) (l1:Gapi_Layout):Option ((List ByteArray)×Int×Int) :=
zak (zfE l1) fun (r1:Bool) =>
zax (!r1) (
some (([]:List ByteArray),0,2)
) (
zax (decide ((indent1:Int)<0)) (
some (([]:List ByteArray),0,2)
) (
zax (decide ((1024:Int)<indent1)) (
some (([]:List ByteArray),0,2)
) (
zax (decide ((1024:Int)<(text1.size:Int))) (
some (([]:List ByteArray),0,2)
) (
zak (zeL text1 indent1 l1) fun (r2:((List ByteArray)×Int)) =>
some (r2.1,r2.2,0)
)
)
)
)
theorem zm3 {text1:ByteArray} {indent1:Int} {l1:Gapi_Layout} {r:((List ByteArray)×Int×Int)} (h:zhG text1 indent1 l1=some r):Fn Tryz.prog 29 [.string text1,zI indent1,.agg (zr0 l1).toArray] [] (fun v0:Value=>.tuple #[v0,zI r.2.1,zI r.2.2]) (fun v0=>[zv7 v0 r.1]):=by
 unfold zhG at h
 refine Fn.intro Tryz.func29 rfl Tryz.ntmps29 (by simp) ?_
 intro w0 K
 refine zyG ?_
 refine zdQ rfl dc rfl (fun b1 => ?_)
 refine zyR 3 rfl (zyN (zaH (zyG (za5 (k:=0) (cs:=(zr0 l1)) zkZ rfl dc rfl rfl rfl rfl ?_))))
 obtain ⟨r1,hq1,h⟩:=zbx h
 refine zbc (v:=.bool r1) (vs:=[.agg (zr0 l1).toArray]) rfl dc rfl rfl rfl zu7 (zkb (l1:=l1) hq1) (zdJ rfl dc rfl zcA (zyR 1 rfl ?_))
 refine zyS (s:=14) rfl h (fun h => ?_) (fun h => ?_)
 ·
  refine zyR 12 rfl (zyN ?_)
  refine zbd rfl (zyG (zyR 3 rfl (zyN (zaA (zai (zdx (enc:=zjl) (e:=9) (size:=1) ?_))))))
  cases h
  exact zaF (rs:=[.tmp 6,.tmp 7,.tmp 8]) (.slice none 0 0) (.inl rfl) Tryz.results29 (.cons (.tmp rfl) (.cons (.tmp rfl) (.cons (.tmp rfl) .nil))) rfl (zad [1] kr rfl)
 refine zyR 1 rfl (zaW rfl zbA (zyR 2 rfl ?_))
 refine zyS (s:=18) rfl h (fun h => ?_) (fun h => ?_)
 ·
  refine zyR 8 rfl (zyN (zbd rfl (zyG (zyR 1 rfl ?_))))
  refine zyR 2 rfl (zyN (zaA (zai (zdx (enc:=zjl) (e:=9) (size:=1) ?_))))
  cases h
  exact zaF (rs:=[.tmp 6,.tmp 7,.tmp 8]) (.slice none 0 0) (.inl rfl) Tryz.results29 (.cons (.tmp rfl) (.cons (.tmp rfl) (.cons (.tmp rfl) .nil))) rfl (zad [1] kr rfl)
 refine zyR 1 rfl (zaW rfl zcR (zyR 2 rfl ?_))
 refine zyS (s:=22) rfl h (fun h => ?_) (fun h => ?_)
 ·
  refine zyR 4 rfl (zyN (zbd rfl (zyG (zyR 3 rfl (zyN ?_)))))
  refine zaA (zai (zdx (enc:=zjl) (e:=9) (size:=1) ?_))
  cases h
  exact zaF (rs:=[.tmp 6,.tmp 7,.tmp 8]) (.slice none 0 0) (.inl rfl) Tryz.results29 (.cons (.tmp rfl) (.cons (.tmp rfl) (.cons (.tmp rfl) .nil))) rfl (zad [1] kr rfl)
 refine zyR 1 rfl (zbl rfl dc rfl Tryz.underlying9 (zaW rfl zcR (zyR 1 rfl (zyN ?_))))
 refine zyB rfl h (fun h => ?_) (fun h => ?_)
 ·
  refine zyG (zyR 3 rfl (zyN (zaA (zai (zdx (enc:=zjl) (e:=9) (size:=1) ?_)))))
  cases h
  exact zaF (rs:=[.tmp 6,.tmp 7,.tmp 8]) (.slice none 0 0) (.inl rfl) Tryz.results29 (.cons (.tmp rfl) (.cons (.tmp rfl) (.cons (.tmp rfl) .nil))) rfl (zad [1] kr rfl)
 refine zau (zaI (zyG (zyR 2 rfl (za5 (k:=0) (cs:=(zr0 l1)) zkZ rfl dc rfl rfl rfl rfl ?_))))
 obtain ⟨r2,hq2,h⟩:=zbx h
 refine zdI (vs:=[.string text1,zI indent1,.agg (zr0 l1).toArray]) rfl dc rfl rfl rfl zu6 (zjf (l1:=l1) hq2) Splits.nil ?_
 rintro v1
 refine zyR 1 rfl (zaJ rfl dc rfl rfl (zaJ rfl dc rfl rfl (zyR 2 rfl (zyH (zyR 5 rfl ?_)))))
 refine zyN (zaA ?_)
 cases h
 exact zaF (rs:=[.tmp 6,.tmp 7,.tmp 8]) v1 (.inl rfl) Tryz.results29 (.cons (.tmp rfl) (.cons (.tmp rfl) (.cons (.tmp rfl) .nil))) rfl (zad [1] kr rfl)
end Go.Proofs.YtbempdelckaccaaGreatDoor

namespace Go.Proofs.YtbempdelckaccaaGreatDoor
open Go.RowKit Go.Lib
set_option linter.unusedVariables false
set_option linter.unusedSimpArgs false
abbrev zfb:=Gapi_Cell
def spB (s:ByteArray) (c:zfb):Bool:=if c.Span_To=c.Span_From+1 then zg2 s c.Span_From==some 32 else false
def zd7 (l:List zfb):Int:=(l.map (·.Columns)).sum
theorem zlD (a b:List zfb):zd7 (a++b)=zd7 a+zd7 b:=by unfold zd7; rw [List.map_append,List.sum_append]
theorem zpE (c:zfb):zd7 [c]=c.Columns:=by simp [zd7]
def eN (sp:zfb→Bool) (l:List zfb):Nat:=(l.reverse.dropWhile sp).length
theorem zoa (sp:zfb→Bool) (l:List zfb) (x:zfb):eN sp (l++[x])=if sp x then eN sp l else l.length+1:=by
 unfold eN
 rw [List.reverse_append,List.reverse_singleton,List.singleton_append,List.dropWhile_cons]
 split
 ·rfl
 ·simp
theorem ztS (sp:zfb→Bool) (l:List zfb):eN sp l≤l.length:=by
 unfold eN
 have:=(List.dropWhile_suffix sp (l:=l.reverse)).length_le
 rwa [List.length_reverse] at this
theorem zli {α:Type} {l:List α} {k:Nat} {x:α} (h:l[k]?=some x):l.take (k+1)=l.take k++[x]:=by
 rw [List.take_add_one,h]; rfl
theorem zob (sp:zfb→Bool) (C:List zfb):∀ (d k:Nat),eN sp (C.take k)≤eN sp (C.take (k+d))
 | 0,k=>Nat.le_refl _
 | d+1,k=>by
  refine Nat.le_trans (zob sp C d k) ?_
  by_cases h:k+d<C.length
  ·rw [show k+(d+1)=k+d+1 by omega,zli (List.getElem?_eq_getElem h),zoa]
   split
   ·exact Nat.le_refl _
   ·have:=ztS sp (C.take (k+d)); omega
  ·rw [List.take_of_length_le (by omega),List.take_of_length_le (by omega)]; exact Nat.le_refl _
def wl (P:List zfb):List Int:=(List.range (P.length+1)).map fun k=>zd7 (P.take k)
def el (sp:zfb→Bool) (P:List zfb):List Int:=(List.range (P.length+1)).map fun k=>((eN sp (P.take k):Nat):Int)
theorem zpS (P:List zfb) (k:Nat) (h:k≤P.length):(wl P)[k]?=some (zd7 (P.take k)):=by
 unfold wl; rw [List.getElem?_map,List.getElem?_range (by omega)]; rfl
theorem zq8 (sp:zfb→Bool) (P:List zfb) (k:Nat) (h:k≤P.length):(el sp P)[k]?=some ((eN sp (P.take k):Nat):Int):=by
 unfold el; rw [List.getElem?_map,List.getElem?_range (by omega)]; rfl
theorem zuu (P:List zfb):(wl P).length=P.length+1:=by unfold wl; simp
theorem zvn (sp:zfb→Bool) (P:List zfb):(el sp P).length=P.length+1:=by unfold el; simp
theorem zov {β:Type} (f:List zfb→β) (P:List zfb) (x:zfb):(List.range ((P++[x]).length+1)).map (fun k=>f ((P++[x]).take k))=(List.range (P.length+1)).map (fun k=>f (P.take k))++[f (P++[x])]:=by
 rw [show (P++[x]).length+1=(P.length+1)+1 by simp,List.range_succ,List.map_append,List.map_singleton]
 congr 1
 ·refine List.map_congr_left fun k hk => ?_
  rw [List.take_append_of_le_length (by have:=List.mem_range.1 hk; omega)]
 ·rw [List.take_of_length_le (by simp)]
theorem ztf (P:List zfb) (x:zfb):wl (P++[x])=wl P++[zd7 P+x.Columns]:=by
 unfold wl; rw [zov zd7,zlD,zpE]
theorem ztP (sp:zfb→Bool) (P:List zfb) (x:zfb):el sp (P++[x])=el sp P++[(((if sp x then eN sp P else P.length+1):Nat):Int)]:=by
 unfold el; rw [zov (fun l=>((eN sp l:Nat):Int)),zoa]
theorem Cov.mem:∀ {cs:List zfb} {a b:Int},Cov a cs b→∀ c∈cs,a≤c.Span_From∧c.Span_From<c.Span_To∧c.Span_To≤b∧0≤c.Columns∧c.Columns≤2
 | [],a,b,_,c,hc=>by cases hc
 | d::cs,a,b,h,c,hc=>by
  obtain ⟨h1,h2,h3,h4⟩:=h
  have hle:∀ (cs:List zfb) (a b:Int),Cov a cs b→a≤b:=by
   intro cs
   induction cs with
   | nil=>intro a b h; have:a=b:=h; omega
   | cons e es ih=>intro a b h; have:=ih _ _ h.2.2.2; have:=h.2.1; omega
  have:=hle _ _ _ h4
  rcases List.mem_cons.1 hc with rfl | hc
  ·exact ⟨by omega,by omega,this,h3.1,h3.2⟩
  ·have:=Cov.mem h4 c hc; omega
theorem zhk:∀ {l:List zfb},(∀ c∈l,0≤c.Columns∧c.Columns≤2)→0≤zd7 l∧zd7 l≤2*l.length
 | [],_=>⟨Int.le_refl _,by simp [zd7]⟩
 | c::l,h=>by
  have h1:=h c (List.mem_cons_self ..)
  have h2:=zhk (l:=l) fun d hd=>h d (List.mem_cons_of_mem _ hd)
  have e:zd7 (c::l)=c.Columns+zd7 l:=by simp [zd7]
  rw [e,List.length_cons]; omega
theorem zp4 (t:Gpage_turner) (k:Nat) (c:zfb) (hc:t.cells[k]?=some c) (h0:0≤c.Span_From) (h1:c.Span_From<t.s.size) (hs:t.s.size≤100000):zbV t (k:Int)=some (spB t.s c):=by
 unfold zbV spB
 refine zaN (zed hc) (zbM ⟨by omega,by omega⟩ ?_)
 by_cases h:c.Span_To=c.Span_From+1
 ·rw [if_pos h]
  obtain ⟨m,hm⟩:∃ m:Nat,c.Span_From=m:=⟨c.Span_From.toNat,by omega⟩
  have hg:=zn4 hm (show m<t.s.size by omega)
  refine zay (zkI h) (zaN hg ?_)
  rw [hg]
  show some _=some _
  congr 1
 ·rw [if_neg h]; exact zaw (zlb h) rfl
def zfc (s:ByteArray) (first rest:Int):Gpage_turner:=⟨s,zav s,wl (zav s),el (spB s) (zav s),first,rest⟩
theorem zqC (s:ByteArray) (hs:s.size≤100000) (ind:Int) (l:Gapi_Layout) (C:List zfb) (hC:∀ c∈C,0≤c.Span_From∧c.Span_From<(s.size:Int)∧0≤c.Columns∧c.Columns≤2) (hl:C.length≤100000) (d:List zfb→List Int→List Int→Option Gpage_turner) :
  ∀ (xs P:List zfb),C=P++xs→zdh d (zcF s ind l) xs P (wl P) (el (spB s) P)=d C (wl C) (el (spB s) C)
 | [],P,h=>by rw [List.append_nil] at h; subst h; rfl
 | x::xs,P,h=>by
  have ih:=zqC s hs ind l C hC hl d xs (P++[x]) (by rw [h]; simp)
  obtain ⟨c1,c2,c3,c4⟩:=hC x (by rw [h]; simp)
  have hPl:P.length+1+xs.length=C.length:=by rw [h]; simp; omega
  have hPs:=zhk (l:=P) fun c hc=>by have:=hC c (by rw [h]; simp [hc]); omega
  rw [zgo]
  generalize zdh d (zcF s ind l) xs=ag at ih ⊢
  unfold zcF
  have e1:((P++[x]).length:Int) - 1=(P.length:Int):=by simp
  have hg1:zcN (wl P) (P.length:Int)=some (zd7 P):=by
   have:=zed (zpS P P.length (Nat.le_refl _)); rwa [List.take_length] at this
  have hg2:zcN (el (spB s) P) (P.length:Int)=some ((eN (spB s) P:Nat):Int):=by
   have:=zed (zq8 (spB s) P P.length (Nat.le_refl _)); rwa [List.take_length] at this
  have hwl:=zuu P
  have hel:=zvn (spB s) P
  refine zbF (zbM (by omega) ?_)
  rw [e1]
  refine zbM ⟨by omega,by omega⟩ (zaN hg1 (zbM ⟨by omega,by omega⟩ (zbM (by omega) (zbM ⟨by omega,by omega⟩ ?_))))
  refine zaN (zp4 ⟨s,P++[x],wl P++[zd7 P+x.Columns],el (spB s) P,max 1 (l.Width - ind),l.Width - l.Turn⟩ P.length x (by simp) c1 c2 hs) ?_
  rw [← ih,ztf,ztP]
  show zax (spB s x) _ _=_
  cases hsp:spB s x with
  | true=>exact zay rfl (zaN hg2 (zbM (by omega) rfl))
  | false=>exact zaw rfl (zbM (by omega) rfl)
theorem znZ (s:ByteArray) (hs:s.size≤100000) (ind:Int) (l:Gapi_Layout) (h1:I64 (l.Width - ind)) (h2:I64 (l.Width - l.Turn)):zdZ s ind l=some (zfc s (max 1 (l.Width - ind)) (l.Width - l.Turn)):=by
 unfold zdZ
 refine zbF (zbM h1 (zbM h2 (zaN rfl (zaN (zvp s (by omega)) (zbF ?_)))))
 have hl:=zhl s
 have hm:=(zeT s).mem
 have:=zqC s hs ind l (zav s) (fun c hc=>by have:=hm c hc; omega) (by omega) (fun t10 t11 t12=>some (⟨s,t10,t11,t12,max 1 (l.Width - ind),l.Width - l.Turn⟩:Gpage_turner)) (zav s) [] rfl
 exact this
def zlE (sp:zfb→Bool) (C:List zfb) (f t:Nat):Int:=zd7 (C.take (max f (eN sp (C.take t)))) - zd7 (C.take f)
def zgH (a b:Int) (f:Nat):Int:=if f=0 then a else b
def zlZ (sp:zfb→Bool) (C:List zfb) (k:Nat):Bool:=match C[k]? with | some c=>sp c | none=>false
def zpi (sp:zfb→Bool) (C:List zfb) (a b:Int) (f t:Nat):Bool:=!(decide (0<f)&&zlZ sp C f)&&(decide (zlE sp C f t≤zgH a b f)||decide (eN sp (C.take t)≤f+1))
def zpC (sp:zfb→Bool) (C:List zfb) (a b:Int) (f t:Nat):Int:=(if 0<zgH a b f - zlE sp C f t then (zgH a b f - zlE sp C f t)*(zgH a b f - zlE sp C f t) else 0)+(if zlZ sp C (t - 1) then 0 else 1000)
theorem znR {s:ByteArray} {a b:Int} (f:Nat):zcr (zfc s a b) (f:Int)=some (zgH a b f):=by
 unfold zcr zgH
 by_cases h:f=0
 ·rw [if_pos h]; exact zay (zkI (by omega)) rfl
 ·rw [if_neg h]; exact zaw (zlb (by omega)) rfl
theorem zoD {a b:Int} (ha:0≤a∧a≤1000000) (hb:0≤b∧b≤1000000) (f:Nat):0≤zgH a b f∧zgH a b f≤1000000:=by unfold zgH; split <;> omega
section
variable {s:ByteArray} {a b:Int} (hs:s.size≤100000) (ha:0≤a∧a≤1000000) (hb:0≤b∧b≤1000000)
include hs
theorem zmt:(zav s).length≤100000:=Nat.le_trans (zhl s) hs
theorem zoX (k:Nat):0≤zd7 ((zav s).take k)∧zd7 ((zav s).take k)≤200000:=by
 have hm:=(zeT s).mem
 have hl:=zmt hs
 have:=zhk (l:=(zav s).take k) fun c hc=>by have:=hm c (List.mem_of_mem_take hc); omega
 have hk:((zav s).take k).length≤(zav s).length:=by rw [List.length_take]; omega
 omega
theorem zi5 (f t:Nat) (hf:f≤t) (ht:t≤(zav s).length):zbT (zfc s a b) (f:Int) (t:Int)=some (zlE (spB s) (zav s) f t):=by
 unfold zbT
 have he:=ztS (spB s) ((zav s).take t)
 rw [List.length_take] at he
 have h1:=zoX hs (max f (eN (spB s) ((zav s).take t)))
 have h2:=zoX hs f
 refine zaN (zed (zq8 (spB s) (zav s) t ht)) (zaN (zfi (n:=max f (eN (spB s) ((zav s).take t))) (by omega) (zpS _ _ (by omega))) (zaN (zed (zpS _ f (by omega))) (zbM ⟨by omega,by omega⟩ rfl)))
theorem zoy (k:Nat) (hk:k<(zav s).length):zbV (zfc s a b) (k:Int)=some (zlZ (spB s) (zav s) k):=by
 have hx:(zav s)[k]?=some (zav s)[k]:=List.getElem?_eq_getElem hk
 have:=(zeT s).mem _ (List.mem_of_getElem? hx)
 unfold zlZ
 rw [hx]
 exact zp4 (zfc s a b) k _ hx (by omega) (by show _<(s.size:Int); omega) hs
theorem zuO (f t:Nat) (hf:f<t) (ht:t≤(zav s).length):zdN (zfc s a b) (f:Int) (t:Int)=some (zpi (spB s) (zav s) a b f t):=by
 unfold zdN zpi
 have hle:=zmt hs
 have tail:(zak (zbT (zfc s a b) (f:Int) (t:Int)) fun (r2:Int)=>zak (zcr (zfc s a b) (f:Int)) fun (r3:Int)=>zax (decide ((r2:Int)≤r3)) (some true) (zak (zcN (zfc s a b).ends (t:Int)) fun (q1:Int)=>grd (I64 ((f:Int)+1))<|some (decide ((q1:Int)≤((f:Int)+1))))) =
   some (decide (zlE (spB s) (zav s) f t≤zgH a b f)||decide (eN (spB s) ((zav s).take t)≤f+1)):=by
  refine zaN (zi5 hs f t (by omega) ht) (zaN (znR f) ?_)
  by_cases h:zlE (spB s) (zav s) f t≤zgH a b f
  ·rw [decide_eq_true h]; exact zay rfl rfl
  ·rw [decide_eq_false h]
   refine zaw rfl (zaN (zed (zq8 (spB s) (zav s) t ht)) (zbM ⟨by omega,by omega⟩ ?_))
   rw [Bool.false_or]
   congr 1
   by_cases h2:eN (spB s) ((zav s).take t)≤f+1
   ·rw [decide_eq_true h2,decide_eq_true (by omega)]
   ·rw [decide_eq_false h2,decide_eq_false (by omega)]
 refine zbF ?_
 by_cases h0:0<f
 ·rw [decide_eq_true h0]
  refine zay (decide_eq_true (by omega)) (zaN (zoy hs f (by omega)) ?_)
  cases zlZ (spB s) (zav s) f with
  | true=>exact zay rfl rfl
  | false=>exact zaw rfl tail
 ·rw [decide_eq_false h0]
  exact zaw (decide_eq_false (by omega)) tail
theorem zo0 (f t:Nat) : -200000≤zlE (spB s) (zav s) f t∧zlE (spB s) (zav s) f t≤200000:=by
 have h1:=zoX hs (max f (eN (spB s) ((zav s).take t)))
 have h2:=zoX hs f
 unfold zlE; omega
include ha hb
theorem zg8 (f t:Nat):0≤zpC (spB s) (zav s) a b f t∧zpC (spB s) (zav s) a b f t≤2000000000000:=by
 have h1:=zoD ha hb f
 have h2:=zo0 hs f t
 have hz:zgH a b f - zlE (spB s) (zav s) f t≤1200000:=by omega
 have hq:(if zlZ (spB s) (zav s) (t - 1) then (0:Int) else 1000)≤1000∧0≤(if zlZ (spB s) (zav s) (t - 1) then (0:Int) else 1000):=by split <;> omega
 unfold zpC
 generalize zgH a b f - zlE (spB s) (zav s) f t=z at *
 by_cases h:0<z
 ·rw [if_pos h]
  have g1:0≤z*z:=Int.mul_nonneg (by omega) (by omega)
  have g2:z*z≤1200000*1200000:=Int.mul_le_mul hz hz (by omega) (by omega)
  omega
 ·rw [if_neg h]; omega
theorem ztU (f t:Nat) (hf:f<t) (ht:t≤(zav s).length):zdu (zfc s a b) (f:Int) (t:Int)=some (zpC (spB s) (zav s) a b f t):=by
 have h1:=zoD ha hb f
 have h2:=zo0 hs f t
 have h3:=zg8 hs ha hb f t
 have hle:=zmt hs
 unfold zdu
 refine zbF (zaN (znR f) (zaN (zi5 hs f t (by omega) ht) (zbM ⟨by omega,by omega⟩ ?_)))
 have tail:∀ n:Int,0≤n→n≤2000000000000→zbr (fun (j2:Int→Option Int)=>grd (I64 ((t:Int) - 1))<|zak (zbV (zfc s a b) ((t:Int) - 1)) fun (r3:Bool)=>zax (!r3) (grd (I64 (n+1000))<|j2 (n+1000)) (j2 n)) (fun (n2:Int)=>some n2)=some (n+(if zlZ (spB s) (zav s) (t - 1) then 0 else 1000)):=by
  intro n hn1 hn2
  have hsp:=zoy (a:=a) (b:=b) hs (t - 1) (by omega)
  rw [show (((t - 1:Nat)):Int)=(t:Int) - 1 by omega] at hsp
  refine zbF (zbM ⟨by omega,by omega⟩ (zaN hsp ?_))
  cases zlZ (spB s) (zav s) (t - 1) with
  | true=>exact zaw rfl (congrArg some (Int.add_zero n).symm)
  | false=>exact zay rfl (zbM ⟨by omega,by omega⟩ rfl)
 unfold zpC at h3 ⊢
 have hq:(if zlZ (spB s) (zav s) (t - 1) then (0:Int) else 1000)≤1000∧0≤(if zlZ (spB s) (zav s) (t - 1) then (0:Int) else 1000):=by split <;> omega
 by_cases h:0<zgH a b f - zlE (spB s) (zav s) f t
 ·rw [if_pos h] at h3 ⊢
  have hm:0≤(zgH a b f - zlE (spB s) (zav s) f t)*(zgH a b f - zlE (spB s) (zav s) f t):=Int.mul_nonneg (by omega) (by omega)
  refine zay (decide_eq_true h) (zbM ⟨by omega,by omega⟩ (tail _ hm (by omega)))
 ·rw [if_neg h]
  exact zaw (decide_eq_false h) (tail 0 (by omega) (by omega))
end
end Go.Proofs.YtbempdelckaccaaGreatDoor

namespace Go.Proofs.YtbempdelckaccaaGreatDoor
open Go.RowKit Go.Lib
set_option linter.unusedVariables false
set_option linter.unusedSimpArgs false
abbrev Bst:=Gpage_best
def b0:Bst:=⟨0,0,0⟩
def bm:Bst:=⟨0,-1,0⟩
section
variable (R:Nat→Nat→Bool) (K:Nat→Nat→Int) (n:Nat)
def zgi (T:Nat→Bst) (f t:Nat):Option Bst :=
 if R f t then (if t<n then (if (T t).rows<0 then none else some ⟨K f t+(T t).cost,(T t).rows+1,(t:Int)⟩) else some ⟨0,1,(t:Int)⟩) else none
def zpc (x:Bst):Option Bst→Bst
 | none=>x
 | some y=>if x.rows<0∨y.cost<x.cost∨(y.cost=x.cost∧y.rows≤x.rows) then y else x
def zeZ (T:Nat→Bst) (f:Nat):Nat→Nat→Bst→Bst
 | 0,_,x=>x
 | d+1,t,x=>zeZ T f d (t+1) (zpc x (zgi R K n T f t))
def Bf:Nat→Nat→Bst
 | 0,_=>b0
 | k+1,f=>if f+(k+1)=n then zeZ R K n (Bf k) f (n - f) (f+1) bm else Bf k f
end
section
variable {R:Nat→Nat→Bool} {K:Nat→Nat→Int} {n:Nat}
theorem ziQ {T:Nat→Bst} {f:Nat}:∀ (d t:Nat) (x:Bst),(∀ t',t≤t'→t'<t+d→zgi R K n T f t'=none)→zeZ R K n T f d t x=x
 | 0,t,x,_=>rfl
 | d+1,t,x,h=>by
  unfold zeZ
  rw [h t (Nat.le_refl _) (by omega)]
  exact ziQ d (t+1) x fun t' h1 h2=>h t' (by omega) (by omega)
theorem zgO (x y:Bst):zpc x (some y)=if x.rows<0∨y.cost<x.cost∨(y.cost=x.cost∧y.rows≤x.rows) then y else x:=rfl
theorem ztg (x:Bst) (c:Option Bst):zpc x c=x∨c=some (zpc x c):=by
 cases c with
 | none=>exact .inl rfl
 | some y =>
  rw [zgO]
  split
  ·exact .inr rfl
  ·exact .inl rfl
theorem zkp {T:Nat→Bst} {f:Nat}:∀ (d t:Nat) (x:Bst),zeZ R K n T f d t x=x∨∃ t',t≤t'∧t'<t+d∧zgi R K n T f t'=some (zeZ R K n T f d t x)
 | 0,t,x=>.inl rfl
 | d+1,t,x=>by
  unfold zeZ
  rcases zkp (T:=T) (f:=f) d (t+1) (zpc x (zgi R K n T f t)) with h | ⟨t',h1,h2,h3⟩
  ·rw [h]
   rcases ztg x (zgi R K n T f t) with h' | h'
   ·exact .inl h'
   ·exact .inr ⟨t,Nat.le_refl _,by omega,h'⟩
  ·exact .inr ⟨t',by omega,by omega,h3⟩
def le1 (x y:Bst):Prop:=0≤x.rows∧x.cost≤y.cost
theorem zth {x y:Bst} (h:0≤x.rows) {c:Option Bst} (hc:∀ y,c=some y→0≤y.rows):le1 (zpc x c) x:=by
 cases c with
 | none=>exact ⟨h,Int.le_refl _⟩
 | some y =>
  have hy:=hc y rfl
  rw [zgO]
  split
  ·exact ⟨hy,by omega⟩
  ·exact ⟨h,Int.le_refl _⟩
theorem zrI {x y:Bst} (hy:0≤y.rows):le1 (zpc x (some y)) y:=by
 rw [zgO]
 split
 ·exact ⟨hy,Int.le_refl _⟩
 ·exact ⟨by omega,by omega⟩
theorem zmg {T:Nat→Bst} {f:Nat} (hT:∀ t y,zgi R K n T f t=some y→0≤y.rows):∀ (d t:Nat) (x:Bst),(0≤x.rows→le1 (zeZ R K n T f d t x) x)∧∀ t' y,t≤t'→t'<t+d→zgi R K n T f t'=some y→le1 (zeZ R K n T f d t x) y
 | 0,t,x=>⟨fun h=>⟨h,Int.le_refl _⟩,fun t' y h1 h2=>by omega⟩
 | d+1,t,x=>by
  have ih:=zmg hT d (t+1) (zpc x (zgi R K n T f t))
  unfold zeZ
  refine ⟨fun h => ?_,fun t' y h1 h2 hc => ?_⟩
  ·have h1:=zth (y:=x) h (hT t)
   have h2:=ih.1 h1.1
   exact ⟨h2.1,Int.le_trans h2.2 h1.2⟩
  ·by_cases e:t'=t
   ·subst e
    have hy:=hT t' y hc
    have h1:le1 (zpc x (zgi R K n T f t')) y:=by rw [hc]; exact zrI hy
    have h2:=ih.1 h1.1
    exact ⟨h2.1,Int.le_trans h2.2 h1.2⟩
   ·exact ih.2 t' y (by omega) (by omega) hc
theorem zgB (k f:Nat):Bf R K n (k+1) f=if f+(k+1)=n then zeZ R K n (Bf R K n k) f (n - f) (f+1) bm else Bf R K n k f:=rfl
theorem zt9:∀ (k f:Nat),f+k<n→Bf R K n k f=b0
 | 0,f,_=>rfl
 | k+1,f,h=>by rw [zgB,if_neg (by omega)]; exact zt9 k f (by omega)
theorem zon:∀ (k j f:Nat),n≤f+k→Bf R K n (k+j) f=Bf R K n k f
 | k,0,f,_=>rfl
 | k,j+1,f,h=>by
  rw [show k+(j+1)=(k+j)+1 by omega,zgB,if_neg (by omega)]
  exact zon k j f h
def BB (R:Nat→Nat→Bool) (K:Nat→Nat→Int) (n:Nat):Nat→Bst:=Bf R K n n
theorem zpF {T T':Nat→Bst} {f t:Nat} (h:T t=T' t):zgi R K n T f t=zgi R K n T' f t:=by unfold zgi; rw [h]
theorem zkq {T T':Nat→Bst} {f:Nat}:∀ (d t:Nat) (x:Bst),(∀ t',t≤t'→t'<t+d→T t'=T' t')→zeZ R K n T f d t x=zeZ R K n T' f d t x
 | 0,t,x,_=>rfl
 | d+1,t,x,h=>by
  unfold zeZ
  rw [zpF (h t (Nat.le_refl _) (by omega))]
  exact zkq d (t+1) _ fun t' h1 h2=>h t' (by omega) (by omega)
theorem zvE {f:Nat} (h:f<n):BB R K n f=zeZ R K n (BB R K n) f (n - f) (f+1) bm:=by
 have h1:Bf R K n n f=Bf R K n (n - f) f:=by
  have:=zon (R:=R) (K:=K) (n:=n) (n - f) f f (by omega)
  rwa [show n - f+f=n by omega] at this
 unfold BB
 rw [h1]
 obtain ⟨k,hk⟩:∃ k,n - f=k+1:=⟨n - f - 1,by omega⟩
 rw [hk]
 rw [zgB,if_pos (by omega),hk]
 refine zkq _ _ _ fun t' h1 h2 => ?_
 have:=zon (R:=R) (K:=K) (n:=n) k (n - k) t' (by omega)
 rw [show k+(n - k)=n by omega] at this
 exact this.symm
def okB (k:Nat) (x:Bst):Prop:=0≤x.cost∧x.cost≤2000000000000*k∧-1≤x.rows∧x.rows≤k
theorem zhO {T:Nat→Bst} {f t k:Nat} {y:Bst} (hK:∀ f t,0≤K f t∧K f t≤2000000000000) (hT:∀ t,okB k (T t)) (h:zgi R K n T f t=some y):okB (k+1) y∧0≤y.rows:=by
 unfold zgi at h
 have h1:=hK f t
 obtain ⟨t1,t2,t3,t4⟩:=hT t
 split at h
 ·split at h
  ·split at h
   ·cases h
   ·cases h
    refine ⟨⟨?_,?_,?_,?_⟩,?_⟩ <;> (try simp only) <;> (try push_cast) <;> (try omega)
  ·cases h
   refine ⟨⟨?_,?_,?_,?_⟩,?_⟩ <;> (try simp only) <;> (try push_cast) <;> (try omega)
 ·cases h
theorem zqz (k:Nat):okB k bm:=⟨Int.le_refl _,by show (0:Int)≤_; omega,Int.le_refl _,by show (-1:Int)≤_; omega⟩
theorem zrV {k j:Nat} {x:Bst} (h:okB k x) (hj:k≤j):okB j x:=by obtain ⟨h1,h2,h3,h4⟩:=h; exact ⟨h1,by omega,h3,by omega⟩
theorem zsk {T:Nat→Bst} {f k:Nat} (hK:∀ f t,0≤K f t∧K f t≤2000000000000) (hT:∀ t,okB k (T t)) (d t:Nat) {x:Bst} (hx:okB (k+1) x):okB (k+1) (zeZ R K n T f d t x):=by
 rcases zkp (R:=R) (K:=K) (n:=n) (T:=T) (f:=f) d t x with h | ⟨t',_,_,h⟩
 ·rw [h]; exact hx
 ·exact (zhO hK hT h).1
theorem znF (hK:∀ f t,0≤K f t∧K f t≤2000000000000):∀ (k f:Nat),okB k (Bf R K n k f)
 | 0,f=>by show okB 0 b0; unfold okB b0; simp
 | k+1,f=>by
  rw [zgB]
  split
  ·exact zsk hK (znF hK k) _ _ (zqz _)
  ·exact zrV (znF hK k f) (by omega)
theorem zub (hK:∀ f t,0≤K f t∧K f t≤2000000000000) {f t:Nat} {y:Bst} (h:zgi R K n (BB R K n) f t=some y):0≤y.rows:=(zhO hK (znF hK n) h).2
theorem zvC (hK:∀ f t,0≤K f t∧K f t≤2000000000000) {f:Nat} (hf:f<n) (hr:0≤(BB R K n f).rows):∃ t:Nat,(BB R K n f).to_=(t:Int)∧f<t∧t≤n∧R f t=true∧(t<n→0≤(BB R K n t).rows∧(BB R K n f).cost=K f t+(BB R K n t).cost)∧(t=n→(BB R K n f).cost=0):=by
 have he:=zvE (R:=R) (K:=K) hf
 rcases zkp (R:=R) (K:=K) (n:=n) (T:=BB R K n) (f:=f) (n - f) (f+1) bm with h | ⟨t,h1,h2,h3⟩
 ·rw [← he] at h; rw [h] at hr; exact absurd hr (by decide)
 ·rw [← he] at h3
  generalize BB R K n f=x at h3 hr ⊢
  refine ⟨t,?_⟩
  unfold zgi at h3
  by_cases hR:R f t=true
  ·rw [if_pos hR] at h3
   by_cases ht:t<n
   ·rw [if_pos ht] at h3
    by_cases hn:(BB R K n t).rows<0
    ·rw [if_pos hn] at h3; cases h3
    ·rw [if_neg hn] at h3
     cases h3
     exact ⟨rfl,by omega,by omega,hR,fun _=>⟨by omega,rfl⟩,fun h=>by omega⟩
   ·rw [if_neg ht] at h3
    cases h3
    exact ⟨rfl,by omega,by omega,hR,fun h=>absurd h ht,fun _=>rfl⟩
  ·rw [if_neg hR] at h3; cases h3
theorem zvD (hK:∀ f t,0≤K f t∧K f t≤2000000000000) {f t:Nat} (hf:f<t) (ht:t≤n) (hR:R f t=true):(t=n→0≤(BB R K n f).rows∧(BB R K n f).cost≤0)∧(t<n→0≤(BB R K n t).rows→0≤(BB R K n f).rows∧(BB R K n f).cost≤K f t+(BB R K n t).cost):=by
 have he:=zvE (R:=R) (K:=K) (show f<n by omega)
 have hl:=(zmg (R:=R) (K:=K) (n:=n) (T:=BB R K n) (f:=f) (fun t y h=>zub hK h) (n - f) (f+1) bm).2
 rw [← he] at hl
 refine ⟨fun e => ?_,fun h hr => ?_⟩
 ·have hc:zgi R K n (BB R K n) f t=some ⟨0,1,(t:Int)⟩:=by unfold zgi; rw [if_pos hR,if_neg (by omega)]
  exact hl t _ (by omega) (by omega) hc
 ·have hc:zgi R K n (BB R K n) f t=some ⟨K f t+(BB R K n t).cost,(BB R K n t).rows+1,(t:Int)⟩:=by unfold zgi; rw [if_pos hR,if_pos h,if_neg (by omega)]
  exact hl t _ (by omega) (by omega) hc
end
theorem zuY {R T:Type} {t:T→Option R} {k:T} {x:Option R} (Q:T→Prop) (hk:Q k) (h:∀ j,Q j→t j=x):zbr t k=x:=h k hk
section
variable {s:ByteArray} {a b:Int} (hs:s.size≤100000) (ha:0≤a∧a≤1000000) (hb:0≤b∧b≤1000000)
abbrev Rs (s:ByteArray) (a b:Int):Nat→Nat→Bool:=zpi (spB s) (zav s) a b
abbrev Ks (s:ByteArray) (a b:Int):Nat→Nat→Int:=zpC (spB s) (zav s) a b
def zfL (T:Nat→Bst) (n:Nat):List Bst:=(List.range (n+1)).map T
theorem zeB (T:Nat→Bst) (n k:Nat) (h:k≤n):(zfL T n)[k]?=some (T k):=by unfold zfL; rw [List.getElem?_map,List.getElem?_range (by omega)]; rfl
theorem zgl (T:Nat→Bst) (n:Nat):(zfL T n).length=n+1:=by unfold zfL; simp
theorem zri (sp:zfb→Bool) (C:List zfb) (hC:∀ c∈C,0≤c.Columns∧c.Columns≤2) (f t d:Nat):zlE sp C f t≤zlE sp C f (t+d):=by
 have he:=zob sp C d t
 unfold zlE
 have key:∀ i j:Nat,i≤j→zd7 (C.take i)≤zd7 (C.take j):=by
  intro i j h
  have:C.take j=C.take i++(C.take j).drop i:=by
   have:=(List.take_append_drop i (C.take j)).symm
   rwa [List.take_take,show min i j=i by omega] at this
  rw [this,zlD]
  have:=zhk (l:=(C.take j).drop i) fun c hc=>hC c (List.mem_of_mem_take (List.mem_of_mem_drop hc))
  omega
 have:=key (max f (eN sp (C.take t))) (max f (eN sp (C.take (t+d)))) (by omega)
 omega
theorem ztq (sp:zfb→Bool) (C:List zfb) (hC:∀ c∈C,0≤c.Columns∧c.Columns≤2) {f t:Nat} (h:zpi sp C a b f t=false) (h2:zgH a b f<zlE sp C f t) (d:Nat):zpi sp C a b f (t+d)=false:=by
 have hm:=zri sp C hC f t d
 have he:=zob sp C d t
 unfold zpi at h ⊢
 cases h0:(decide (0<f)&&zlZ sp C f) with
 | true=>rfl
 | false =>
  rw [h0] at h
  simp only [Bool.not_false,Bool.true_and,Bool.or_eq_false_iff,decide_eq_false_iff_not] at h ⊢
  omega
include hs ha hb
theorem zto (k f:Nat) (hf:f<(zav s).length) (hk:k≤100000) (j2:List Bst→Option ((List Int)×Int)) :
  ∀ (d t m:Nat) (x:Bst),f<t→t+d=(zav s).length+1→d<m→okB (k+1) x→zaM (fun _ _=>none) (zbK (zfc s a b) (f:Int) j2) m ((zfL (Bf (Rs s a b) (Ks s a b) (zav s).length k) (zav s).length).set f x) (t:Int) =
   j2 ((zfL (Bf (Rs s a b) (Ks s a b) (zav s).length k) (zav s).length).set f (zeZ (Rs s a b) (Ks s a b) (zav s).length (Bf (Rs s a b) (Ks s a b) (zav s).length k) f d t x)):=by
 have hle:=zmt hs
 have hK:=zg8 hs ha hb
 have hcol:∀ c∈zav s,0≤c.Columns∧c.Columns≤2:=fun c hc=>by have:=(zeT s).mem c hc; omega
 have hok:=znF (R:=Rs s a b) (K:=Ks s a b) (n:=(zav s).length) hK k
 intro d
 induction d with
 | zero =>
  intro t m x hft htd hm hx
  obtain ⟨m,rfl⟩:∃ q,m=q+1:=⟨m - 1,by omega⟩
  rw [zeo]
  generalize zaM (fun _ _=>none) (zbK (zfc s a b) (f:Int) j2) m=ag
  unfold zbK
  exact zaw (decide_eq_false (by show ¬ ((t:Int)≤((zav s).length:Int)); omega)) rfl
 | succ d ih =>
  intro t m x hft htd hm hx
  obtain ⟨m,rfl⟩:∃ q,m=q+1:=⟨m - 1,by omega⟩
  have ih':=fun y hy=>ih (t+1) m y (by omega) (by omega) (by omega) hy
  rw [zeo]
  generalize zaM (fun _ _=>none) (zbK (zfc s a b) (f:Int) j2) m=ag at ih' ⊢
  have hn1:((t+1:Nat):Int)=(t:Int)+1:=by omega
  rw [hn1] at ih'
  unfold zbK
  have htl:=zgl (Bf (Rs s a b) (Ks s a b) (zav s).length k) (zav s).length
  have hgt:∀ y:Bst,zcN ((zfL (Bf (Rs s a b) (Ks s a b) (zav s).length k) (zav s).length).set f y) (t:Int)=some (Bf (Rs s a b) (Ks s a b) (zav s).length k t):=fun y=>zed (by rw [List.getElem?_set_ne (by omega)]; exact zeB _ _ _ (by omega))
  have hgf:∀ y:Bst,zcN ((zfL (Bf (Rs s a b) (Ks s a b) (zav s).length k) (zav s).length).set f y) (f:Int)=some y:=fun y=>zed (by rw [List.getElem?_set_self (by omega)])
  have hnext:∀ y,okB (k+1) y→(grd (I64 ((t:Int)+1))<|ag ((zfL (Bf (Rs s a b) (Ks s a b) (zav s).length k) (zav s).length).set f y) ((t:Int)+1))=j2 ((zfL (Bf (Rs s a b) (Ks s a b) (zav s).length k) (zav s).length).set f (zeZ (Rs s a b) (Ks s a b) (zav s).length (Bf (Rs s a b) (Ks s a b) (zav s).length k) f d (t+1) y)):=fun y hy=>zbM ⟨by omega,by omega⟩ (ih' y hy)
  refine zay (decide_eq_true (by show (t:Int)≤((zav s).length:Int); omega)) (zbF (zaN (zuO hs f t hft (by omega)) ?_))
  unfold zeZ
  cases hR:zpi (spB s) (zav s) a b f t with
  | false =>
   have hc:zgi (Rs s a b) (Ks s a b) (zav s).length (Bf (Rs s a b) (Ks s a b) (zav s).length k) f t=none:=by unfold zgi; rw [if_neg (by show ¬ (zpi (spB s) (zav s) a b f t=true); rw [hR]; decide)]
   rw [hc]
   refine zay rfl (zaN (zi5 hs f t (by omega) (by omega)) (zaN (znR f) ?_))
   by_cases hw:zgH a b f<zlE (spB s) (zav s) f t
   ·refine zay (decide_eq_true hw) ?_
    rw [ziQ d (t+1) (zpc x none) (fun t' h1 h2=>by
     have:=ztq (a:=a) (b:=b) (spB s) (zav s) hcol hR hw (t' - t)
     rw [show t+(t' - t)=t' by omega] at this
     unfold zgi; rw [if_neg (by show ¬ (zpi (spB s) (zav s) a b f t'=true); rw [this]; decide)])]
    rfl
   ·exact zaw (decide_eq_false hw) (hnext x hx)
  | true =>
   refine zaw rfl (zuY (fun j4=>∀ y:Bst,okB (k+1) y→y.to_=(t:Int)→j4 y.cost y.rows=j2 ((zfL (Bf (Rs s a b) (Ks s a b) (zav s).length k) (zav s).length).set f (zeZ (Rs s a b) (Ks s a b) (zav s).length (Bf (Rs s a b) (Ks s a b) (zav s).length k) f d (t+1) (zpc x (some y))))) ?_ ?_)
   ·intro y hy hto
    have ey:(⟨y.cost,y.rows,(t:Int)⟩:Gpage_best)=y:=by rw [← hto]
    have hput:(grd (I64 ((t:Int)+1))<|ag (((zfL (Bf (Rs s a b) (Ks s a b) (zav s).length k) (zav s).length).set f x).set (f:Int).toNat (⟨y.cost,y.rows,(t:Int)⟩:Gpage_best)) ((t:Int)+1))=j2 ((zfL (Bf (Rs s a b) (Ks s a b) (zav s).length k) (zav s).length).set f (zeZ (Rs s a b) (Ks s a b) (zav s).length (Bf (Rs s a b) (Ks s a b) (zav s).length k) f d (t+1) y)):=by
     rw [ey,Int.toNat_natCast,List.set_set]; exact hnext y hy
    have hkeep:=hnext x hx
    refine zaN (hgf x) ?_
    rw [zgO]
    by_cases h1:x.rows<0
    ·rw [if_pos (.inl h1)]; exact zay (decide_eq_true h1) (zaN (hgf x) hput)
    refine zaw (decide_eq_false h1) ?_
    by_cases h2:y.cost<x.cost
    ·rw [if_pos (.inr (.inl h2))]; exact zay (decide_eq_true h2) (zaN (hgf x) hput)
    refine zaw (decide_eq_false h2) ?_
    by_cases h3:y.cost=x.cost
    ·refine zay (zkI h3) ?_
     by_cases h4:y.rows≤x.rows
     ·rw [if_pos (.inr (.inr ⟨h3,h4⟩))]; exact zay (decide_eq_true h4) (zaN (hgf x) hput)
     ·rw [if_neg (by omega)]; exact zaw (decide_eq_false h4) hkeep
    ·rw [if_neg (by omega)]; exact zaw (zlb h3) hkeep
   intro j4 held
   by_cases ht:t<(zav s).length
   ·refine zay (decide_eq_true (by show (t:Int)<((zav s).length:Int); omega)) (zaN (hgt x) ?_)
    obtain ⟨o1,o2,o3,o4⟩:=hok t
    have hk2:=hK f t
    by_cases hn:(Bf (Rs s a b) (Ks s a b) (zav s).length k t).rows<0
    ·have hc:zgi (Rs s a b) (Ks s a b) (zav s).length (Bf (Rs s a b) (Ks s a b) (zav s).length k) f t=none:=by unfold zgi; rw [if_pos hR,if_pos ht,if_pos hn]
     rw [hc]
     exact zay (decide_eq_true hn) (hnext x hx)
    ·have hc:zgi (Rs s a b) (Ks s a b) (zav s).length (Bf (Rs s a b) (Ks s a b) (zav s).length k) f t=some ⟨Ks s a b f t+(Bf (Rs s a b) (Ks s a b) (zav s).length k t).cost,(Bf (Rs s a b) (Ks s a b) (zav s).length k t).rows+1,(t:Int)⟩:=by unfold zgi; rw [if_pos hR,if_pos ht,if_neg hn]
     have hyok:=(zhO hK hok hc).1
     rw [hc]
     refine zaw (decide_eq_false hn) (zaN (ztU hs ha hb f t hft (by omega)) (zaN (hgt x) (zbM ⟨by omega,by omega⟩ (zbM ⟨by omega,by omega⟩ ?_))))
     exact held _ hyok rfl
   ·have hc:zgi (Rs s a b) (Ks s a b) (zav s).length (Bf (Rs s a b) (Ks s a b) (zav s).length k) f t=some ⟨0,1,(t:Int)⟩:=by unfold zgi; rw [if_pos hR,if_neg ht]
    have hyok:=(zhO hK hok hc).1
    rw [hc]
    refine zaw (decide_eq_false (by show ¬ ((t:Int)<((zav s).length:Int)); omega)) ?_
    exact held _ hyok rfl
end
end Go.Proofs.YtbempdelckaccaaGreatDoor

namespace Go.Proofs.YtbempdelckaccaaGreatDoor
open Go.RowKit Go.Lib
set_option linter.unusedVariables false
set_option linter.unusedSimpArgs false
theorem zqB (sp:zfb→Bool) (C:List zfb):∀ (d f:Nat),f+d=C.length→f<C.length→∃ t,f<t∧t≤C.length∧(t=C.length∨zlZ sp C t=false)∧∀ j,f<j→j<t→zlZ sp C j=true
 | 0,f,h,hf=>by omega
 | d+1,f,h,hf=>by
  by_cases h1:f+1=C.length
  ·exact ⟨f+1,by omega,by omega,.inl h1,fun j a b=>by omega⟩
  ·cases h2:zlZ sp C (f+1) with
   | false=>exact ⟨f+1,by omega,by omega,.inr h2,fun j a b=>by omega⟩
   | true =>
    obtain ⟨t,g1,g2,g3,g4⟩:=zqB sp C d (f+1) (by omega) (by omega)
    refine ⟨t,by omega,g2,g3,fun j a b => ?_⟩
    by_cases e:j=f+1
    ·rw [e]; exact h2
    ·exact g4 j (by omega) b
theorem zno (sp:zfb→Bool) (C:List zfb) (f:Nat):∀ (i:Nat),f+1+i≤C.length→(∀ j,f<j→j<f+1+i→zlZ sp C j=true)→eN sp (C.take (f+1+i))≤f+1
 | 0,h,_=>by have:=ztS sp (C.take (f+1)); rw [List.length_take] at this; show eN sp (C.take (f+1))≤_; omega
 | i+1,h,hsp=>by
  have hx:C[f+1+i]?=some C[f+1+i]:=List.getElem?_eq_getElem (by omega)
  have h1:=hsp (f+1+i) (by omega) (by omega)
  unfold zlZ at h1
  rw [hx] at h1
  rw [show f+1+(i+1)=f+1+i+1 by omega,zli hx,zoa,if_pos h1]
  exact zno sp C f i (by omega) fun j a b=>hsp j a (by omega)
theorem zxc {sp:zfb→Bool} {C:List zfb} {a b:Int} {K:Nat→Nat→Int} (hK:∀ f t,0≤K f t∧K f t≤2000000000000):∀ (d f:Nat),C.length≤f+d→f<C.length→(f=0∨zlZ sp C f=false)→0≤(BB (zpi sp C a b) K C.length f).rows
 | 0,f,h,hf,_=>by omega
 | d+1,f,h,hf,h0=>by
  obtain ⟨t,g1,g2,g3,g4⟩:=zqB sp C (C.length - f) f (by omega) hf
  have he:=zno sp C f (t - (f+1)) (by omega) (fun j x y=>g4 j x (by omega))
  rw [show f+1+(t - (f+1))=t by omega] at he
  have hR:zpi sp C a b f t=true:=by
   unfold zpi
   have:(decide (0<f)&&zlZ sp C f)=false:=by
    rcases h0 with h0 | h0
    ·subst h0; rfl
    ·rw [h0,Bool.and_false]
   rw [this,decide_eq_true he,Bool.or_true]; rfl
  have hm:=zvD (R:=zpi sp C a b) (K:=K) (n:=C.length) hK g1 g2 hR
  by_cases e:t=C.length
  ·exact (hm.1 e).1
  ·have:=zxc (a:=a) (b:=b) hK d t (by omega) (by omega) (.inr (g3.resolve_left e))
   exact (hm.2 (by omega) this).1
section
variable {s:ByteArray} {a b:Int} (hs:s.size≤100000) (ha:0≤a∧a≤1000000) (hb:0≤b∧b≤1000000)
abbrev TT (s:ByteArray) (a b:Int):Nat→Bst:=BB (Rs s a b) (Ks s a b) (zav s).length
def zpz (s:ByteArray) (a b:Int) (f:Nat):Prop:=f=(zav s).length∨f<(zav s).length∧0≤(TT s a b f).rows
def znn (s:ByteArray) (a b:Int):Nat→Nat→List Nat
 | 0,_=>[]
 | m+1,f=>if f<(zav s).length then (TT s a b f).to_.toNat::znn s a b m (TT s a b f).to_.toNat else []
theorem zou {T T':Nat→Bst} {n f:Nat} (hf:f≤n) (h1:∀ j,j≠f→T' j=T j):(zfL T n).set f (T' f)=zfL T' n:=by
 apply List.ext_getElem?
 intro j
 by_cases hj:j≤n
 ·rw [zeB T' n j hj]
  by_cases e:f=j
  ·subst e; rw [List.getElem?_set_self (by rw [zgl]; omega)]
  ·rw [List.getElem?_set_ne e,zeB T n j hj,h1 j (fun h=>e h.symm)]
 ·rw [List.getElem?_eq_none (by rw [List.length_set,zgl]; omega),List.getElem?_eq_none (by rw [zgl]; omega)]
include hs ha hb
theorem zrR (j1:List Bst→Option ((List Int)×Int)):∀ (d k m:Nat),k+d=(zav s).length→d<m→zaM (fun _ _=>none) (zbL (zfc s a b) j1) m (zfL (Bf (Rs s a b) (Ks s a b) (zav s).length k) (zav s).length) (((zav s).length:Int) - 1 - (k:Int)) =
  j1 (zfL (TT s a b) (zav s).length):=by
 have hle:=zmt hs
 intro d
 induction d with
 | zero =>
  intro k m hk hm
  obtain ⟨m,rfl⟩:∃ q,m=q+1:=⟨m - 1,by omega⟩
  rw [zeo]
  generalize zaM (fun _ _=>none) (zbL (zfc s a b) j1) m=ag
  unfold zbL
  refine zaw (decide_eq_false (by omega)) ?_
  rw [show k=(zav s).length by omega]; rfl
 | succ d ih =>
  intro k m hk hm
  obtain ⟨m,rfl⟩:∃ q,m=q+1:=⟨m - 1,by omega⟩
  have ih':=ih (k+1) m (by omega) (by omega)
  rw [zeo]
  generalize zaM (fun _ _=>none) (zbL (zfc s a b) j1) m=ag at ih' ⊢
  obtain ⟨f,hf⟩:∃ f:Nat,f+(k+1)=(zav s).length:=⟨d,by omega⟩
  rw [show ((zav s).length:Int) - 1 - (k:Int)=(f:Int) by omega]
  rw [show ((zav s).length:Int) - 1 - ((k+1:Nat):Int)=(f:Int) - 1 by omega] at ih'
  unfold zbL
  have hg:zcN (zfL (Bf (Rs s a b) (Ks s a b) (zav s).length k) (zav s).length) (f:Int)=some b0:=by
   rw [zed (zeB _ _ f (by omega)),zt9 k f (by omega)]
  refine zay (decide_eq_true (by omega)) (zbF (zaN hg (zbM ⟨by omega,by omega⟩ ?_)))
  have hin:=zto hs ha hb k f (by omega) (by omega) (fun (all5:List Gpage_best)=>grd (I64 ((f:Int) - 1))<|ag all5 ((f:Int) - 1)) ((zav s).length - f) (f+1) zb4 bm (by omega) (by omega) (by have:=zdL (n:=(zav s).length) (by omega); omega) (zqz _)
  rw [show ((f+1:Nat):Int)=(f:Int)+1 by omega] at hin
  have et:(zfL (Bf (Rs s a b) (Ks s a b) (zav s).length k) (zav s).length).set f (zeZ (Rs s a b) (Ks s a b) (zav s).length (Bf (Rs s a b) (Ks s a b) (zav s).length k) f ((zav s).length - f) (f+1) bm)=zfL (Bf (Rs s a b) (Ks s a b) (zav s).length (k+1)) (zav s).length:=by
   have e1:Bf (Rs s a b) (Ks s a b) (zav s).length (k+1) f=zeZ (Rs s a b) (Ks s a b) (zav s).length (Bf (Rs s a b) (Ks s a b) (zav s).length k) f ((zav s).length - f) (f+1) bm:=by rw [zgB,if_pos hf]
   rw [← e1]
   exact zou (by omega) fun j hj=>by rw [zgB,if_neg (by omega)]
  rw [et] at hin
  refine hin.trans (zbM ⟨by omega,by omega⟩ ih')
theorem zn9 {f:Nat} (h:zpz s a b f) (hf:f<(zav s).length):∃ t:Nat,(TT s a b f).to_=(t:Int)∧f<t∧t≤(zav s).length∧Rs s a b f t=true∧zpz s a b t∧(t<(zav s).length→(TT s a b f).cost=Ks s a b f t+(TT s a b t).cost)∧(t=(zav s).length→(TT s a b f).cost=0):=by
 have hr:0≤(TT s a b f).rows:=by
  rcases h with h | h
  ·omega
  ·exact h.2
 obtain ⟨t,h1,h2,h3,h4,h5,h6⟩:=zvC (zg8 hs ha hb) hf hr
 refine ⟨t,h1,h2,h3,h4,?_,fun h=>(h5 h).2,h6⟩
 by_cases e:t=(zav s).length
 ·exact .inl e
 ·exact .inr ⟨by omega,(h5 (by omega)).1⟩
theorem zrS (j5:List Int→Option ((List Int)×Int)):∀ (m f N:Nat) (out:List Int),zpz s a b f→(zav s).length≤f+m→m<N→out.length≤f→f≤(zav s).length→zaM (fun _ _=>none) (zby (zfc s a b) (zfL (TT s a b) (zav s).length) j5) N out (f:Int)=j5 (out++(znn s a b m f).map (fun t=>((t:Nat):Int))):=by
 have hle:=zmt hs
 intro m
 induction m with
 | zero =>
  intro f N out hfe hm hN ho hf
  obtain ⟨N,rfl⟩:∃ q,N=q+1:=⟨N - 1,by omega⟩
  rw [zeo]
  generalize zaM (fun _ _=>none) (zby (zfc s a b) (zfL (TT s a b) (zav s).length) j5) N=ag
  unfold zby
  refine zaw (decide_eq_false (by show ¬ ((f:Int)<((zav s).length:Int)); omega)) ?_
  show j5 out=j5 (out++[])
  rw [List.append_nil]
 | succ m ih =>
  intro f N out hfe hm hN ho hf
  obtain ⟨N,rfl⟩:∃ q,N=q+1:=⟨N - 1,by omega⟩
  rw [zeo]
  have ih':=fun t out=>ih t N out
  generalize zaM (fun _ _=>none) (zby (zfc s a b) (zfL (TT s a b) (zav s).length) j5) N=ag at ih' ⊢
  unfold zby znn
  by_cases h:f<(zav s).length
  ·obtain ⟨t,h1,h2,h3,h4,h5,_⟩:=zn9 hs ha hb hfe h
   have hg:zcN (zfL (TT s a b) (zav s).length) (f:Int)=some (TT s a b f):=zed (zeB _ _ f (by omega))
   rw [if_pos h,h1,Int.toNat_natCast]
   refine zay (decide_eq_true (by show (f:Int)<((zav s).length:Int); omega)) (zaN hg (zbM (by omega) (zaN hg ?_)))
   rw [h1]
   rw [ih' t (out++[(t:Int)]) h5 (by omega) (by omega) (by rw [List.length_append]; simp; omega) h3,List.append_assoc]; rfl
  ·rw [if_neg h]
   refine zaw (decide_eq_false (by show ¬ ((f:Int)<((zav s).length:Int)); omega)) ?_
   show j5 out=j5 (out++[])
   rw [List.append_nil]
theorem zqY:zpz s a b 0:=by
 by_cases h:0<(zav s).length
 ·exact .inr ⟨h,zxc (zg8 hs ha hb) (zav s).length 0 (by omega) h (.inl rfl)⟩
 ·exact .inl (by omega)
abbrev zk9 (s:ByteArray) (a b:Int):List Nat:=znn s a b (zav s).length 0
theorem ztp:zdt (zfc s a b)=some ((zk9 s a b).map (fun t=>((t:Nat):Int)),(TT s a b 0).cost):=by
 have hle:=zmt hs
 unfold zdt
 refine zbF (zbM ⟨by show _≤((zav s).length:Int)+1; omega,by show ((zav s).length:Int)+1≤_; omega⟩ (zbM ⟨by show _≤((zav s).length:Int)+1; omega,by show ((zav s).length:Int)+1≤_; omega⟩ (zbM ⟨by show _≤((zav s).length:Int) - 1; omega,by show ((zav s).length:Int) - 1≤_; omega⟩ ?_)))
 have e0:List.replicate (((zfc s a b).cells.length:Int)+1:Int).toNat (⟨0,0,0⟩:Gpage_best)=zfL (Bf (Rs s a b) (Ks s a b) (zav s).length 0) (zav s).length:=by
  show List.replicate (((zav s).length:Int)+1:Int).toNat b0=_
  rw [show (((zav s).length:Int)+1:Int).toNat=(zav s).length+1 by omega]
  apply List.ext_getElem?
  intro j
  by_cases hj:j≤(zav s).length
  ·rw [zeB _ _ j hj,List.getElem?_replicate,if_pos (by omega)]; rfl
  ·rw [List.getElem?_eq_none (by rw [List.length_replicate]; omega),List.getElem?_eq_none (by rw [zgl]; omega)]
 rw [e0]
 have ho:=zrR hs ha hb (fun (all1:List Gpage_best)=>zbr (fun (j5:(List Int)→Option ((List Int)×Int))=>zaM (fun _ _=>none) (zby (zfc s a b) all1 j5) zb4 ([]:List Int) 0) (fun (out1:List Int)=>zak (zcN all1 0) fun (q10:Gpage_best)=>some (out1,q10.cost))) (zav s).length 0 zb4 (by omega) (by have:=zdL (n:=(zav s).length) (by omega); omega)
 rw [show ((zav s).length:Int) - 1 - ((0:Nat):Int)=((zav s).length:Int) - 1 by omega] at ho
 refine ho.trans (zbF ?_)
 have he:=zrS hs ha hb (fun (out1:List Int)=>zak (zcN (zfL (TT s a b) (zav s).length) 0) fun (q10:Gpage_best)=>some (out1,q10.cost)) (zav s).length 0 zb4 [] (zqY hs ha hb) (by omega) (by have:=zdL (n:=(zav s).length) (by omega); omega) (Nat.zero_le _) (Nat.zero_le _)
 rw [show ((0:Nat):Int)=0 from rfl,List.nil_append] at he
 refine he.trans (zaN (zfi (n:=0) rfl (zeB _ _ 0 (Nat.zero_le _))) rfl)
end
def stN (s:ByteArray) (k:Nat):Int:=match (zav s)[k]? with | some c=>c.Span_From | none=>(s.size:Int)
theorem zoY:∀ (cs:List zfb) (a b:Int),Cov a cs b→∀ (k:Nat) (c:zfb),cs[k]?=some c→c.Span_To=(match cs[k+1]? with | some d=>d.Span_From | none=>b)
 | [],_,_,_,k,c,h=>by simp at h
 | d::cs,a,b,hc,k,c,h=>by
  obtain ⟨h1,h2,h3,h4⟩:=hc
  cases k with
  | zero =>
   have e:d=c:=by simpa using h
   subst e
   cases cs with
   | nil=>exact h4
   | cons e es=>exact h4.1.symm
  | succ k =>
   have:=zoY cs _ b h4 k c (by simpa using h)
   simpa using this
theorem zp2 (s:ByteArray) {k:Nat} {c:zfb} (h:(zav s)[k]?=some c):stN s k=c.Span_From∧stN s (k+1)=c.Span_To∧0≤c.Span_From∧c.Span_From<c.Span_To∧c.Span_To≤(s.size:Int):=by
 have hm:=(zeT s).mem c (List.mem_of_getElem? h)
 refine ⟨by unfold stN; rw [h],?_,hm.1,hm.2.1,hm.2.2.1⟩
 have:=zoY _ _ _ (zeT s) k c h
 unfold stN; exact this.symm
theorem zln (s:ByteArray):∀ (d f:Nat),f+d≤(zav s).length→stN s f+d≤stN s (f+d)
 | 0,f,h=>by show stN s f+(0:Int)≤stN s f; omega
 | d+1,f,h=>by
  have ih:=zln s d f (by omega)
  have hx:(zav s)[f+d]?=some (zav s)[f+d]:=List.getElem?_eq_getElem (by omega)
  obtain ⟨h1,h2,h3,h4,h5⟩:=zp2 s hx
  rw [show f+(d+1)=f+d+1 by omega,h2]
  rw [h1] at ih
  push_cast; omega
theorem zuI (s:ByteArray):stN s 0=0:=by
 have h:=zeT s
 unfold stN
 cases hc:zav s with
 | nil=>rw [hc] at h; exact (show (0:Int)=_ from h).symm
 | cons c cs=>rw [hc] at h; exact h.1
theorem zuH (s:ByteArray):stN s (zav s).length=(s.size:Int):=by
 unfold stN; rw [List.getElem?_eq_none (Nat.le_refl _)]
theorem zp3 (s:ByteArray) {k:Nat} (h:k≤(zav s).length):0≤stN s k∧stN s k≤(s.size:Int):=by
 have h1:=zln s k 0 (by omega)
 have h2:=zln s ((zav s).length - k) k (by omega)
 rw [Nat.zero_add,zuI] at h1
 rw [show k+((zav s).length - k)=(zav s).length by omega,zuH] at h2
 omega
def zrJ (s:ByteArray) (f t:Nat):ByteArray:=zbE s (stN s f) (stN s t)
theorem ztk {s:ByteArray} {a b:Int} (hs:s.size≤100000) (f t:Nat) (hf:f<t) (ht:t≤(zav s).length):zds (zfc s a b) (f:Int) (t:Int)=some (zrJ s f t):=by
 have hle:=zmt hs
 unfold zds zrJ
 have hx:(zav s)[f]?=some (zav s)[f]:=List.getElem?_eq_getElem (by omega)
 have hy:(zav s)[t - 1]?=some (zav s)[t - 1]:=List.getElem?_eq_getElem (by omega)
 obtain ⟨h1,h2,h3,h4,h5⟩:=zp2 s hx
 obtain ⟨g1,g2,g3,g4,g5⟩:=zp2 s hy
 rw [show t - 1+1=t by omega] at g2
 have hl:=zln s (t - f) f (by omega)
 rw [show f+(t - f)=t by omega] at hl
 refine zaN (zed hx) (zbM ⟨by omega,by omega⟩ (zaN (zfi (n:=t - 1) (by omega) hy) (zbM ?_ ?_)))
 ·show 0≤(zav s)[f].Span_From∧(zav s)[f].Span_From≤(zav s)[t - 1].Span_To∧(zav s)[t - 1].Span_To≤(s.size:Int)
  rw [← h1,← g2]; omega
 ·show some (zbE s (zav s)[f].Span_From (zav s)[t - 1].Span_To)=_
  rw [h1,g2]
def zgP (s:ByteArray):Nat→List Nat→List ByteArray
 | _,[]=>[]
 | f,t::ts=>zrJ s f t::zgP s t ts
def zui (n:Nat):Nat→List Nat→Prop
 | _,[]=>True
 | f,t::ts=>f<t∧t≤n∧zui n t ts
section
variable {s:ByteArray} {a b:Int} (hs:s.size≤100000) (ha:0≤a∧a≤1000000) (hb:0≤b∧b≤1000000)
include hs ha hb
theorem zir:∀ (m f:Nat),zpz s a b f→f≤(zav s).length→zui (zav s).length f (znn s a b m f)
 | 0,f,_,_=>trivial
 | m+1,f,hfe,hf=>by
  unfold znn
  split
  ·rename_i h
   obtain ⟨t,h1,h2,h3,h4,h5,_⟩:=zn9 hs ha hb hfe h
   rw [h1,Int.toNat_natCast]
   exact ⟨h2,h3,zir m t h5 h3⟩
  ·trivial
end
theorem zpY (s:ByteArray) (hs:s.size≤100000) (a b:Int) (c:Int) (j1:Int→List ByteArray→Option ((List ByteArray)×Int)) (E:List Nat):∀ (ts pre:List Nat) (f m:Nat) (out:List ByteArray),E=pre++ts→zui (zav s).length f ts→ts.length<m→out.length≤pre.length→E.length≤100000 →
  zaM (fun _ _ _=>none) (zde j1 (zfc s a b) (E.map (fun t=>((t:Nat):Int)),c)) m out (f:Int) (pre.length:Int)=j1 c (out++zgP s f ts)
 | [],pre,f,m,out,hE,_,hm,_,_=>by
  obtain ⟨m,rfl⟩:∃ q,m=q+1:=⟨m - 1,by simp at hm; omega⟩
  rw [zeo]
  generalize zaM (fun _ _ _=>none) (zde j1 (zfc s a b) (E.map (fun t=>((t:Nat):Int)),c)) m=ag
  unfold zde
  refine zaw (decide_eq_false (by rw [List.length_map,hE]; simp)) ?_
  show j1 c out=j1 c (out++[])
  rw [List.append_nil]
 | t::ts,pre,f,m,out,hE,hr,hm,ho,hl=>by
  obtain ⟨m,rfl⟩:∃ q,m=q+1:=⟨m - 1,by simp at hm; omega⟩
  obtain ⟨r1,r2,r3⟩:=hr
  have ih:=zpY s hs a b c j1 E ts (pre++[t]) t m (out++[zrJ s f t]) (by rw [hE]; simp) r3 (by simp at hm; omega) (by simp; omega) hl
  have hpl:pre.length<E.length:=by rw [hE]; simp
  rw [zeo]
  generalize zaM (fun _ _ _=>none) (zde j1 (zfc s a b) (E.map (fun t=>((t:Nat):Int)),c)) m=ag at ih ⊢
  have hg:(E.map (fun t=>((t:Nat):Int)))[pre.length]?=some (t:Int):=by rw [List.getElem?_map,hE]; simp
  rw [show (((pre++[t]).length:Nat):Int)=(pre.length:Int)+1 by simp] at ih
  unfold zde
  refine zay (zuU hg) (zaN (zed hg) (zaN (ztk hs f t r1 r2) (zbM (by omega) (zbM ⟨by omega,by omega⟩ ?_))))
  rw [ih,List.append_assoc]; rfl
theorem zl9 {n:Nat}:∀ {ts:List Nat} {f:Nat},zui n f ts→f+ts.length≤max n f
 | [],f,_=>by simp; omega
 | t::ts,f,h=>by
  obtain ⟨h1,h2,h3⟩:=h
  have:=zl9 h3
  rw [List.length_cons]; omega
theorem zux (s:ByteArray) (hs:s.size≤100000) (ind:Int) (l:Gapi_Layout) (h1:I64 (l.Width - ind)) (ha:0≤max 1 (l.Width - ind)∧max 1 (l.Width - ind)≤1000000) (hb:0≤l.Width - l.Turn∧l.Width - l.Turn≤1000000) :
  zeL s ind l=some (zgP s 0 (zk9 s (max 1 (l.Width - ind)) (l.Width - l.Turn)),(TT s (max 1 (l.Width - ind)) (l.Width - l.Turn) 0).cost):=by
 unfold zeL
 refine zbF (zaN (znZ s hs ind l h1 ⟨by omega,by omega⟩) (zaN (ztp hs ha hb) ?_))
 have hr:=zir hs ha hb (zav s).length 0 (zqY hs ha hb) (Nat.zero_le _)
 have hl:0+(zk9 s (max 1 (l.Width - ind)) (l.Width - l.Turn)).length≤max (zav s).length 0:=zl9 hr
 have hle:=zmt hs
 have:=zpY s hs (max 1 (l.Width - ind)) (l.Width - l.Turn) (TT s (max 1 (l.Width - ind)) (l.Width - l.Turn) 0).cost (fun (cost1:Int) (out1:List ByteArray)=>some (out1,cost1)) (zk9 s (max 1 (l.Width - ind)) (l.Width - l.Turn)) (zk9 s (max 1 (l.Width - ind)) (l.Width - l.Turn)) [] 0 zb4 [] rfl hr (by have:=zdL (n:=(zav s).length) (by omega); omega) (Nat.le_refl _) (by omega)
 exact this
end Go.Proofs.YtbempdelckaccaaGreatDoor

namespace Go.Proofs.YtbempdelckaccaaGreatDoor
open Go.RowKit Go.Lib
set_option linter.unusedVariables false
set_option linter.unusedSimpArgs false
def zof:List ByteArray→ByteArray
 | []=>⟨#[]⟩
 | x::xs=>x++zof xs
def zud:List ByteArray→Nat
 | []=>0
 | x::xs=>x.size+zud xs
section
variable {s:ByteArray} {a b:Int} (hs:s.size≤100000) (ha:0≤a∧a≤1000000) (hb:0≤b∧b≤1000000)
include hs ha hb
end
end Go.Proofs.YtbempdelckaccaaGreatDoor

namespace Go.Proofs.YtbempdelckaccaaGreatDoor
open Go.RowKit Go.Lib
set_option linter.unusedVariables false
set_option linter.unusedSimpArgs false
end Go.Proofs.YtbempdelckaccaaGreatDoor

namespace Go.Proofs.YtbempdelckaccaaGreatDoor
open Go.RowKit Go.Lib
set_option linter.unusedVariables false
set_option linter.unusedSimpArgs false
def zff (l1:Gapi_Layout):Option Bool :=
zax (decide ((8:Int)≤l1.Width)) (
zax (decide ((l1.Width:Int)≤256)) (
zax (decide ((4:Int)≤l1.Height)) (
zax (decide ((l1.Height:Int)≤200)) (
zax (decide ((0:Int)≤l1.Turn)) (
zax (decide ((l1.Turn:Int)≤7)) (
zax (decide ((0:Int)≤l1.Every)) (
some (decide ((l1.Every:Int)≤512))
) (
some false
)
) (
some false
)
) (
some false
)
) (
some false
)
) (
some false
)
) (
some false
)
) (
some false
)
theorem zmV {l1:Gapi_Layout} {r:Bool} (h:zff l1=some r):FnP Tryz.prog 31 [.agg (zr0 l1).toArray] (.bool r):=by
 unfold zff at h
 refine FnP.intro Tryz.func31 rfl Tryz.ntmps31 (by simp) ?_
 intro w0 K
 refine zyG ?_
 refine zdQ rfl dc rfl (fun b1 => ?_)
 refine zyR 1 rfl (zyH (zac ziV rfl dc rfl (show _=0 from rfl) (zan (k:=0) zbS rfl dc rfl rfl rfl (zaW rfl zeg (zyR 1 rfl ?_)))))
 refine zyS (s:=6) rfl h (fun h => ?_) (fun h => ?_)
 ·
  refine zac ziV rfl dc rfl (show _=0 from rfl) (zan (k:=0) zbS rfl dc rfl rfl rfl (zaW rfl zdP (zyR 2 rfl ?_)))
  refine zyS (s:=11) rfl h (fun h => ?_) (fun h => ?_)
  ·
   refine zac zkz rfl dc rfl (show _=1 from rfl) (zan (k:=0) zbS rfl dc rfl rfl rfl (zaW rfl zeg (zyR 2 rfl ?_)))
   refine zyS (s:=16) rfl h (fun h => ?_) (fun h => ?_)
   ·
    refine zac zkz rfl dc rfl (show _=1 from rfl) (zan (k:=0) zbS rfl dc rfl rfl rfl (zaW rfl zdP (zyR 2 rfl ?_)))
    refine zyS (s:=21) rfl h (fun h => ?_) (fun h => ?_)
    ·
     refine zac ziU rfl dc rfl (show _=2 from rfl) (zan (k:=0) zbS rfl dc rfl rfl rfl (zaW rfl zeg (zyR 2 rfl ?_)))
     refine zyS (s:=26) rfl h (fun h => ?_) (fun h => ?_)
     ·
      refine zac ziU rfl dc rfl (show _=2 from rfl) (zan (k:=0) zbS rfl dc rfl rfl rfl (zaW rfl zdP (zyR 2 rfl ?_)))
      refine zyS (s:=31) rfl h (fun h => ?_) (fun h => ?_)
      ·
       refine zac ziT rfl dc rfl (show _=3 from rfl) (zan (k:=0) zbS rfl dc rfl rfl rfl (zaW rfl zeg (zyR 2 rfl ?_)))
       refine zyS (s:=36) rfl h (fun h => ?_) (fun h => ?_)
       ·
        refine zac ziT rfl dc rfl (show _=3 from rfl) (zan (k:=0) zbS rfl dc rfl rfl rfl (zaW rfl zdP (zyR 2 rfl (zyN (zaA ?_)))))
        cases h
        exact zaF (rs:=[.tmp 2]) () (.inl rfl) Tryz.results31 (.cons (.tmp rfl) .nil) rfl Splits.nil
       refine zyR 5 rfl (zyN (zaA ?_))
       cases h
       exact zaF (rs:=[.tmp 2]) () (.inl rfl) Tryz.results31 (.cons (.tmp rfl) .nil) rfl Splits.nil
      refine zyR 10 rfl (zyN (zaA ?_))
      cases h
      exact zaF (rs:=[.tmp 2]) () (.inl rfl) Tryz.results31 (.cons (.tmp rfl) .nil) rfl Splits.nil
     refine zyR 14 rfl ?_
     refine zyR 1 rfl (zyN (zaA ?_))
     cases h
     exact zaF (rs:=[.tmp 2]) () (.inl rfl) Tryz.results31 (.cons (.tmp rfl) .nil) rfl Splits.nil
    refine zyR 14 rfl ?_
    refine zyR 6 rfl (zyN (zaA ?_))
    cases h
    exact zaF (rs:=[.tmp 2]) () (.inl rfl) Tryz.results31 (.cons (.tmp rfl) .nil) rfl Splits.nil
   refine zyR 14 rfl ?_
   refine zyR 11 rfl (zyN (zaA ?_))
   cases h
   exact zaF (rs:=[.tmp 2]) () (.inl rfl) Tryz.results31 (.cons (.tmp rfl) .nil) rfl Splits.nil
  refine zyR 14 rfl ?_
  refine zyR 14 rfl ?_
  refine zyR 2 rfl (zyN (zaA ?_))
  cases h
  exact zaF (rs:=[.tmp 2]) () (.inl rfl) Tryz.results31 (.cons (.tmp rfl) .nil) rfl Splits.nil
 refine zyR 14 rfl ?_
 refine zyR 14 rfl ?_
 refine zyR 7 rfl (zyN (zaA ?_))
 cases h
 exact zaF (rs:=[.tmp 2]) () (.inl rfl) Tryz.results31 (.cons (.tmp rfl) .nil) rfl Splits.nil
end Go.Proofs.YtbempdelckaccaaGreatDoor

namespace Go.Proofs.YtbempdelckaccaaGreatDoor
open Go.RowKit Go.Lib
set_option linter.unusedVariables false
set_option linter.unusedSimpArgs false
def zfW  : Option Bool :=
zak (zhG (⟨#[111,110,101,32,116,119,111,32,116,104,114,101,101]⟩:ByteArray) 0 (⟨8,4,2,0⟩:Gapi_Layout)) fun (r1:((List ByteArray)×Int×Int)) =>
zax (((r1.1.length:Int):Int)==2) (
zak (zcN r1.1 0) fun (q1:ByteArray) =>
zax (decide (q1=(⟨#[111,110,101,32,116,119,111,32]⟩:ByteArray))) (
zax ((r1.2.1:Int)==1) (
some ((r1.2.2:Int)==0)
) (
some false
)
) (
some false
)
) (
some false
)
theorem zmd  {r:Bool} (h:zfW=some r):FnP Tryz.prog 8 [] (.bool r):=by
 unfold zfW at h
 refine FnP.intro Tryz.func8 rfl Tryz.ntmps8 (by simp) ?_
 intro w0 K
 refine zyG (zyR 1 rfl (zyH ?_))
 refine zbb (v:=.agg #[zI 8,zI 4,zI 2,zI 0]) (ps:=[(0,.const (zI 8)),(1,.const (zI 4)),(2,.const (zI 2))]) rfl dc rfl (fun _=>by kernel_rfl) ?_
 obtain ⟨r1,hq1,h⟩:=zbx h
 refine zdI (vs:=[.string (⟨#[111,110,101,32,116,119,111,32,116,104,114,101,101]⟩:ByteArray),zI 0,.agg #[zI 8,zI 4,zI 2,zI 0]]) rfl dc rfl rfl rfl zwO (zm3 (l1:=(⟨8,4,2,0⟩:Gapi_Layout)) hq1) Splits.nil ?_
 rintro v1
 refine zyR 1 rfl (zaJ rfl dc rfl rfl (zaJ rfl dc rfl rfl (zaJ rfl dc rfl rfl (zyR 3 rfl (zyH (zyR 1 rfl (zcm (k:=0) rfl dc rfl rfl Tryz.underlying70 (zaW rfl za1 ?_))))))))
 refine zyR 1 rfl ?_
 refine zyS (s:=13) rfl h (fun h => ?_) (fun h => ?_)
 ·
  refine zyR 1 rfl ?_
  obtain ⟨q1,hq2,h⟩:=zbx h
  refine zaL (k:=0) hq2 Tryz.underlying70 zrz rfl dc rfl rfl rfl rfl (zbk (i:=(0:Int).toNat) (j:=0) (k:=0) (q:=q1) zjc zfA rfl dc rfl rfl (za0 hq2) rfl dc rfl (zaW rfl zgu (zyR 2 rfl ?_)))
  refine zyS (s:=19) rfl h (fun h => ?_) (fun h => ?_)
  ·
   refine zyR 1 rfl (zaW rfl za1 (zyR 2 rfl ?_))
   refine zyS (s:=23) rfl h (fun h => ?_) (fun h => ?_)
   ·
    refine zyR 1 rfl (zaW rfl za1 (zyR 2 rfl (zyN (zaA ?_))))
    cases h
    exact zaF (rs:=[.tmp 0]) () (.inl rfl) Tryz.results8 (.cons (.tmp rfl) .nil) rfl Splits.nil
   refine zyR 4 rfl (zyN (zaA ?_))
   cases h
   exact zaF (rs:=[.tmp 0]) () (.inl rfl) Tryz.results8 (.cons (.tmp rfl) .nil) rfl Splits.nil
  refine zyR 8 rfl (zyN (zaA ?_))
  cases h
  exact zaF (rs:=[.tmp 0]) () (.inl rfl) Tryz.results8 (.cons (.tmp rfl) .nil) rfl Splits.nil
 refine zyR 14 rfl ?_
 refine zyN (zaA ?_)
 cases h
 exact zaF (rs:=[.tmp 0]) () (.inl rfl) Tryz.results8 (.cons (.tmp rfl) .nil) rfl Splits.nil
end Go.Proofs.YtbempdelckaccaaGreatDoor

namespace Go.Proofs.YtbempdelckaccaaGreatDoor
open Go.RowKit Go.Lib
set_option linter.unusedVariables false
set_option linter.unusedSimpArgs false
def zjE (l:Gapi_Layout):Bool:=decide ((8:Int)≤l.Width)&&(decide ((l.Width:Int)≤256)&&(decide ((4:Int)≤l.Height)&&(decide ((l.Height:Int)≤200)&&(decide ((0:Int)≤l.Turn)&&(decide ((l.Turn:Int)≤7)&&(decide ((0:Int)≤l.Every)&&decide ((l.Every:Int)≤512)))))))
theorem ziA (c d:Bool) (r:Option Bool) (h:r=some d):zax c r (some false)=some (c&&d):=by
 cases c
 ·rfl
 ·exact h
theorem zwi (l:Gapi_Layout):zfE l=some (zjE l):=by
 unfold zfE zjE
 exact ziA _ _ _ (ziA _ _ _ (ziA _ _ _ (ziA _ _ _ (ziA _ _ _ (ziA _ _ _ (ziA _ _ _ rfl))))))
theorem zsO (l:Gapi_Layout):zff l=some (zjE l):=by
 unfold zff zjE
 exact ziA _ _ _ (ziA _ _ _ (ziA _ _ _ (ziA _ _ _ (ziA _ _ _ (ziA _ _ _ (ziA _ _ _ rfl))))))
theorem zrZ {l:Gapi_Layout} (h:zjE l=true):(8≤l.Width∧l.Width≤256)∧0≤l.Turn∧l.Turn≤7:=by
 unfold zjE at h
 simp only [Bool.and_eq_true,decide_eq_true_eq] at h
 omega
abbrev zqR (i:Int) (l:Gapi_Layout):Int:=max 1 (l.Width - i)
abbrev zqA (l:Gapi_Layout):Int:=l.Width - l.Turn
theorem zpV {i:Int} {l:Gapi_Layout} (hm:zjE l=true) (hi:0≤i∧i≤1024):I64 (l.Width - i)∧(0≤zqR i l∧zqR i l≤1000000)∧(0≤zqA l∧zqA l≤1000000):=by
 have:=zrZ hm
 refine ⟨⟨by omega,by omega⟩,?_,?_⟩
 ·show 0≤max 1 (l.Width - i)∧max 1 (l.Width - i)≤1000000
  omega
 ·show 0≤l.Width - l.Turn∧l.Width - l.Turn≤1000000
  omega
abbrev zxi (s:ByteArray) (i:Int) (l:Gapi_Layout):List ByteArray:=zgP s 0 (zk9 s (zqR i l) (zqA l))
theorem zuW:zfW=some true:=by decide +kernel
end Go.Proofs.YtbempdelckaccaaGreatDoor

namespace Go.Proofs.YtbempdelckaccaaGreatDoor
open Go.RowKit Go.Lib
set_option linter.unusedVariables false
set_option linter.unusedSimpArgs false
def p2 (p:Pc):Gref02_Piece:=⟨p.i,p.w,p.r⟩
end Go.Proofs.YtbempdelckaccaaGreatDoor

namespace Go.Proofs.YtbempdelckaccaaGreatDoor
open Go.RowKit Go.Lib
set_option linter.unusedVariables false
set_option linter.unusedSimpArgs false
abbrev jnP (p:Pc):Bool:=!p.broken&&decide ((p.r:Int)=8205)
def p5 (p:Pc):Gref05_Piece:=⟨p.i,(p.i:Int)+(p.w:Int),kdP (pcG p),jnP p,zmD (pcG p)⟩
end Go.Proofs.YtbempdelckaccaaGreatDoor

namespace Go.Proofs.YtbempdelckaccaaGreatDoor
open Go.RowKit Go.Lib
set_option linter.unusedVariables false
set_option linter.unusedSimpArgs false
def zuG (h:Int):Prop:=h=11∨h=4∨h=9
instance (h:Int):Decidable (zuG h):=by unfold zuG; infer_instance
end Go.Proofs.YtbempdelckaccaaGreatDoor

namespace Go.Proofs.YtbempdelckaccaaGreatDoor
open Go.RowKit Go.Lib
set_option linter.unusedVariables false
set_option linter.unusedSimpArgs false
section
variable {s:ByteArray} (hs:s.size≤100000)
include hs
end
end Go.Proofs.YtbempdelckaccaaGreatDoor

namespace Go.Proofs.YtbempdelckaccaaGreatDoor
open Go.RowKit Go.Lib
set_option linter.unusedVariables false
set_option linter.unusedSimpArgs false
section
variable {R:Nat→Nat→Bool} {K:Nat→Nat→Int} {n:Nat}
end
section
variable {s:ByteArray} {a b:Int} (hs:s.size≤100000) (ha:0≤a∧a≤1000000) (hb:0≤b∧b≤1000000)
include hs ha hb
end
end Go.Proofs.YtbempdelckaccaaGreatDoor

namespace Go.Proofs.YtbempdelckaccaaGreatDoor
open Go.RowKit Go.Lib
set_option linter.unusedVariables false
set_option linter.unusedSimpArgs false
section
variable {R:Nat→Nat→Bool} {K:Nat→Nat→Int} {n:Nat} (hK:∀ f t,0≤K f t∧K f t≤2000000000000) (h1:∀ f,f<n→R f (f+1)=true)
include hK h1
theorem zmB:∀ (k t:Nat),n≤t+k→t≤n→0≤(Bf R K n k t).rows
 | 0,t,_,_=>Int.le_refl _
 | k+1,t,h,ht=>by
  rw [zgB]
  split
  ·rename_i he
   have hl:=(zmg (R:=R) (K:=K) (n:=n) (T:=Bf R K n k) (f:=t) (fun t y h=>(zhO hK (znF hK k) h).2) (n - t) (t+1) bm).2
   have hf:=zmB k (t+1) (by omega)
   by_cases hn:t+1<n
   ·have hc:zgi R K n (Bf R K n k) t (t+1)=some ⟨K t (t+1)+(Bf R K n k (t+1)).cost,(Bf R K n k (t+1)).rows+1,((t+1:Nat):Int)⟩:=by
     unfold zgi
     have:=hf (by omega)
     rw [if_pos (h1 t (by omega)),if_pos hn,if_neg (by omega)]
    exact (hl (t+1) _ (Nat.le_refl _) (by omega) hc).1
   ·have hc:zgi R K n (Bf R K n k) t (t+1)=some ⟨0,1,((t+1:Nat):Int)⟩:=by
     unfold zgi
     rw [if_pos (h1 t (by omega)),if_neg hn]
    exact (hl (t+1) _ (Nat.le_refl _) (by omega) hc).1
  ·exact zmB k t (by omega) ht
theorem zua (t:Nat) (ht:t≤n):0≤(BB R K n t).rows:=zmB hK h1 n t (by omega) ht
theorem zry {f:Nat} (hf:f<n):∃ t:Nat,(BB R K n f).to_=(t:Int)∧f<t∧t≤n∧R f t=true:=by
 obtain ⟨t,h2,h3,h4,h5,_⟩:=zvC (R:=R) (K:=K) hK hf (zua hK h1 f (by omega))
 exact ⟨t,h2,h3,h4,h5⟩
end
def zpA (T:Nat→Bst) (n:Nat):Nat→Nat→List Nat
 | 0,_=>[]
 | m+1,f=>if f<n then (T f).to_.toNat::zpA T n m (T f).to_.toNat else []
def zpJ (R:Nat→Nat→Bool) (n:Nat):Nat→List Nat→Prop
 | f,[]=>f=n
 | f,t::ts=>f<t∧t≤n∧R f t=true∧zpJ R n t ts
theorem zhi {R:Nat→Nat→Bool} {K:Nat→Nat→Int} {n:Nat} (hK:∀ f t,0≤K f t∧K f t≤2000000000000) (h1:∀ f,f<n→R f (f+1)=true):∀ (m f:Nat),f≤n→n≤f+m→zpJ R n f (zpA (BB R K n) n m f)
 | 0,f,hf,hm=>show f=n by omega
 | m+1,f,hf,hm=>by
  unfold zpA
  split
  ·rename_i h
   obtain ⟨t,h2,h3,h4,h5⟩:=zry hK h1 h
   rw [h2,Int.toNat_natCast]
   exact ⟨h3,h4,h5,zhi hK h1 m t h4 (by omega)⟩
  ·show f=n; omega
end Go.Proofs.YtbempdelckaccaaGreatDoor

namespace Go.Proofs.YtbempdelckaccaaGreatDoor
open Go.RowKit Go.Lib
set_option linter.unusedVariables false
set_option linter.unusedSimpArgs false
theorem zuB (R:Nat→Nat→Bool) (K:Nat→Nat→Int) (n:Nat):zfL (Bf R K n 0) n=List.replicate (n+1) b0:=by
 apply List.ext_getElem?
 intro j
 by_cases hj:j≤n
 ·rw [zeB _ _ j hj,List.getElem?_replicate,if_pos (by omega)]; rfl
 ·rw [List.getElem?_eq_none (by rw [zgl]; omega),List.getElem?_eq_none (by rw [List.length_replicate]; omega)]
section
variable {s:ByteArray} {a b:Int} (hs:s.size≤100000) (ha:0≤a∧a≤1000000) (hb:0≤b∧b≤1000000)
include hs ha hb
end
theorem zrd (s:ByteArray):zbE s 0 (s.size:Int)=s:=by
 apply ByteArray.ext; apply Array.toList_inj.1
 have:=zgg s 0 s.size
 rw [show ((0:Nat):Int)=0 from rfl,Int.zero_add,List.drop_zero] at this
 rw [this,List.take_of_length_le (by simp)]
theorem zrc (s:ByteArray) (a b c:Int) (h:0≤a∧a≤b∧b≤c):zbE s a b++zbE s b c=zbE s a c:=by
 obtain ⟨p,rfl⟩:∃ p:Nat,a=p:=⟨a.toNat,by omega⟩
 obtain ⟨m,rfl⟩:∃ m:Nat,b=(p:Int)+m:=⟨(b - p).toNat,by omega⟩
 obtain ⟨n,rfl⟩:∃ n:Nat,c=((p+m:Nat):Int)+n:=⟨(c - p - m).toNat,by omega⟩
 apply ByteArray.ext; apply Array.toList_inj.1
 have h1:=zgg s p m
 have h2:=zgg s (p+m) n
 have h3:=zgg s p (m+n)
 rw [show (p:Int)+((m+n:Nat):Int)=((p+m:Nat):Int)+(n:Int) by omega] at h3
 rw [show ((p+m:Nat):Int)=(p:Int)+(m:Int) by omega] at h2 h3 ⊢
 rw [ByteArray.data_append,Array.toList_append,h1,h2,h3,List.take_add,List.drop_drop]
theorem zss (s:ByteArray) (a:Int) (h:0≤a):zbE s a a=⟨#[]⟩:=by
 obtain ⟨p,rfl⟩:∃ p:Nat,a=p:=⟨a.toNat,by omega⟩
 apply ByteArray.ext; apply Array.toList_inj.1
 have:=zgg s p 0
 rw [show (p:Int)+((0:Nat):Int)=(p:Int) by omega] at this
 rw [this]; rfl
theorem znt (s:ByteArray):∀ (ts:List Nat) (f:Nat),zui (zav s).length f ts→f≤(zav s).length→zof (zgP s f ts)=zbE s (stN s f) (stN s (ts.getLastD f))
 | [],f,_,hf=>by
  have:=zp3 s hf
  show (⟨#[]⟩:ByteArray)=zbE s (stN s f) (stN s f)
  rw [zss s _ this.1]
 | t::ts,f,⟨h1,h2,h3⟩,hf=>by
  have ih:=znt s ts t h3 h2
  have hl:=zln s (t - f) f (by omega)
  rw [show f+(t - f)=t by omega] at hl
  have hr:=zp3 s hf
  have hmono:∀ (ts:List Nat) (t:Nat),zui (zav s).length t ts→t≤(zav s).length→stN s t≤stN s (ts.getLastD t):=by
   intro ts
   induction ts with
   | nil=>intro t _ _; exact Int.le_refl _
   | cons u us ih =>
    intro t ⟨g1,g2,g3⟩ _
    have:=ih u g3 g2
    have hl:=zln s (u - t) t (by omega)
    rw [show t+(u - t)=u by omega] at hl
    rw [List.getLastD_cons]; omega
  have:=hmono ts t h3 h2
  show zbE s (stN s f) (stN s t)++zof (zgP s t ts)=_
  rw [ih,List.getLastD_cons,zrc s _ _ _ ⟨hr.1,by omega,this⟩]
section
variable {s:ByteArray} {a b:Int} (hs:s.size≤100000) (ha:0≤a∧a≤1000000) (hb:0≤b∧b≤1000000)
include hs ha hb
theorem znm:∀ (m f:Nat),zpz s a b f→f≤(zav s).length→(zav s).length≤f+m→(znn s a b m f).getLastD f=(zav s).length
 | 0,f,_,hf,hm=>by show f=_; omega
 | m+1,f,hfe,hf,hm=>by
  unfold znn
  split
  ·rename_i h
   obtain ⟨t,h1,h2,h3,h4,h5,_⟩:=zn9 hs ha hb hfe h
   rw [h1,Int.toNat_natCast,List.getLastD_cons]
   exact znm m t h5 h3 (by omega)
  ·show f=_; omega
theorem zo1:zof (zgP s 0 (zk9 s a b))=s:=by
 rw [znt s _ 0 (zir hs ha hb _ 0 (zqY hs ha hb) (Nat.zero_le _)) (Nat.zero_le _),znm hs ha hb _ 0 (zqY hs ha hb) (Nat.zero_le _) (by omega),zuI,zuH,zrd]
end
end Go.Proofs.YtbempdelckaccaaGreatDoor

namespace Go.Proofs.YtbempdelckaccaaGreatDoor
open Go.RowKit Go.Lib
set_option linter.unusedVariables false
set_option linter.unusedSimpArgs false
def zbJ (j1:Option Int) (ag1:Nat→Option Int) (m3:Nat):Option Int :=
zax (decide (m3<(pcs (⟨#[13,10]⟩:ByteArray).data.toList).length)) (
zak ((pcs (⟨#[13,10]⟩:ByteArray).data.toList)[m3]?) fun (p1:Pc) =>
zax (((p1.r:Int):Int)==65533) (
some (p1.i:Int)
) (
ag1 (m3+1)
)
) (
j1
)
def zcy (r1:Int) (i1:Int) (j4:Option Int) (ag3:Int→Option Int) (j7:Int):Option Int :=
zax (decide ((j7:Int)<((Utf8.encode r1).size:Int))) (
grd (I64 (i1 - j7)) <|
zak (zg2 (⟨#[13,10]⟩:ByteArray) (i1 - j7)) fun (c4:Int) =>
grd (I64 ((((Utf8.encode r1).size:Int) - 1) - j7)) <|
zak (zg2 (Utf8.encode r1) ((((Utf8.encode r1).size:Int) - 1) - j7)) fun (c5:Int) =>
zax ((c4:Int) != c5) (
none
) (
grd (I64 (j7+1)) <|
ag3 (j7+1)
)
) (
j4
)
def zb5 (r1:Int) (j2:Option Int) (ag2:Option Int):Option Int :=
zax (decide (((((Utf8.encode r1).size:Int) - 1):Int)<((⟨#[13,10]⟩:ByteArray).size:Int))) (
zbr (fun (j3:Int→Option Int) =>
zak (zg2 (⟨#[13,10]⟩:ByteArray) (((Utf8.encode r1).size:Int) - 1)) fun (c1:Int) =>
zak (zg2 (Utf8.encode r1) (((Utf8.encode r1).size:Int) - 1)) fun (c2:Int) =>
zax ((c1:Int) != c2) (
grd (I64 ((((Utf8.encode r1).size:Int) - 1)+1)) <|
grd (0≤((((Utf8.encode r1).size:Int) - 1)+1:Int)∧((((Utf8.encode r1).size:Int) - 1)+1:Int)≤((⟨#[13,10]⟩:ByteArray).size:Int)∧(((⟨#[13,10]⟩:ByteArray).size:Int):Int)≤((⟨#[13,10]⟩:ByteArray).size:Int)) <|
zak (zg2 (Utf8.encode r1) (((Utf8.encode r1).size:Int) - 1)) fun (c3:Int) =>
zax (decide (((Lib.indexByte (zbE (⟨#[13,10]⟩:ByteArray) ((((Utf8.encode r1).size:Int) - 1)+1) ((⟨#[13,10]⟩:ByteArray).size:Int)).data.toList (c3:Int).toNat.toUInt8):Int)<0)) (
some (-1)
) (
grd (I64 ((Lib.indexByte (zbE (⟨#[13,10]⟩:ByteArray) ((((Utf8.encode r1).size:Int) - 1)+1) ((⟨#[13,10]⟩:ByteArray).size:Int)).data.toList (c3:Int).toNat.toUInt8)+1)) <|
grd (I64 ((((Utf8.encode r1).size:Int) - 1)+((Lib.indexByte (zbE (⟨#[13,10]⟩:ByteArray) ((((Utf8.encode r1).size:Int) - 1)+1) ((⟨#[13,10]⟩:ByteArray).size:Int)).data.toList (c3:Int).toNat.toUInt8)+1))) <|
j3 ((((Utf8.encode r1).size:Int) - 1)+((Lib.indexByte (zbE (⟨#[13,10]⟩:ByteArray) ((((Utf8.encode r1).size:Int) - 1)+1) ((⟨#[13,10]⟩:ByteArray).size:Int)).data.toList (c3:Int).toNat.toUInt8)+1))
)
) (
j3 (((Utf8.encode r1).size:Int) - 1)
)
) (fun (i1:Int) =>
zbr (fun (j4:Option Int) =>
zaM (fun _=>none) (zcy r1 i1 j4) zb4 1
) (
grd (I64 (i1 - (((Utf8.encode r1).size:Int) - 1))) <|
some (i1 - (((Utf8.encode r1).size:Int) - 1))
)
)
) (
j2
)
def zcx (j8:Option Int) (ag4:Nat→Option Int) (m6:Nat):Option Int :=
zax (decide (m6<(pcs (⟨#[13,10]⟩:ByteArray).data.toList).length)) (
zak ((pcs (⟨#[13,10]⟩:ByteArray).data.toList)[m6]?) fun (p2:Pc) =>
zax (((p2.r:Int):Int)==65533) (
some (p2.i:Int)
) (
ag4 (m6+1)
)
) (
j8
)
def zcv (r1:Int) (i2:Int) (j11:Option Int) (ag6:Int→Option Int) (j14:Int):Option Int :=
zax (decide ((j14:Int)<((Utf8.encode r1).size:Int))) (
grd (I64 (i2 - j14)) <|
zak (zg2 (⟨#[13,10]⟩:ByteArray) (i2 - j14)) fun (c9:Int) =>
grd (I64 ((((Utf8.encode r1).size:Int) - 1) - j14)) <|
zak (zg2 (Utf8.encode r1) ((((Utf8.encode r1).size:Int) - 1) - j14)) fun (c10:Int) =>
zax ((c9:Int) != c10) (
none
) (
grd (I64 (j14+1)) <|
ag6 (j14+1)
)
) (
j11
)
def zcw (r1:Int) (j9:Option Int) (ag5:Option Int):Option Int :=
zax (decide (((((Utf8.encode r1).size:Int) - 1):Int)<((⟨#[13,10]⟩:ByteArray).size:Int))) (
zbr (fun (j10:Int→Option Int) =>
zak (zg2 (⟨#[13,10]⟩:ByteArray) (((Utf8.encode r1).size:Int) - 1)) fun (c6:Int) =>
zak (zg2 (Utf8.encode r1) (((Utf8.encode r1).size:Int) - 1)) fun (c7:Int) =>
zax ((c6:Int) != c7) (
grd (I64 ((((Utf8.encode r1).size:Int) - 1)+1)) <|
grd (0≤((((Utf8.encode r1).size:Int) - 1)+1:Int)∧((((Utf8.encode r1).size:Int) - 1)+1:Int)≤((⟨#[13,10]⟩:ByteArray).size:Int)∧(((⟨#[13,10]⟩:ByteArray).size:Int):Int)≤((⟨#[13,10]⟩:ByteArray).size:Int)) <|
zak (zg2 (Utf8.encode r1) (((Utf8.encode r1).size:Int) - 1)) fun (c8:Int) =>
zax (decide (((Lib.indexByte (zbE (⟨#[13,10]⟩:ByteArray) ((((Utf8.encode r1).size:Int) - 1)+1) ((⟨#[13,10]⟩:ByteArray).size:Int)).data.toList (c8:Int).toNat.toUInt8):Int)<0)) (
some (-1)
) (
grd (I64 ((Lib.indexByte (zbE (⟨#[13,10]⟩:ByteArray) ((((Utf8.encode r1).size:Int) - 1)+1) ((⟨#[13,10]⟩:ByteArray).size:Int)).data.toList (c8:Int).toNat.toUInt8)+1)) <|
grd (I64 ((((Utf8.encode r1).size:Int) - 1)+((Lib.indexByte (zbE (⟨#[13,10]⟩:ByteArray) ((((Utf8.encode r1).size:Int) - 1)+1) ((⟨#[13,10]⟩:ByteArray).size:Int)).data.toList (c8:Int).toNat.toUInt8)+1))) <|
j10 ((((Utf8.encode r1).size:Int) - 1)+((Lib.indexByte (zbE (⟨#[13,10]⟩:ByteArray) ((((Utf8.encode r1).size:Int) - 1)+1) ((⟨#[13,10]⟩:ByteArray).size:Int)).data.toList (c8:Int).toNat.toUInt8)+1))
)
) (
j10 (((Utf8.encode r1).size:Int) - 1)
)
) (fun (i2:Int) =>
zbr (fun (j11:Option Int) =>
zaM (fun _=>none) (zcv r1 i2 j11) zb4 1
) (
grd (I64 (i2 - (((Utf8.encode r1).size:Int) - 1))) <|
some (i2 - (((Utf8.encode r1).size:Int) - 1))
)
)
) (
j9
)
def zce (r1:Int):Option Int :=
zax (decide ((0:Int)≤r1)) (
zax (decide ((r1:Int)<128)) (
some (Lib.indexByte (⟨#[13,10]⟩:ByteArray).data.toList (IntKind.u8.wrap r1:Int).toNat.toUInt8)
) (
zax ((r1:Int)==65533) (
zbr (fun (j1:Option Int) =>
zaM (fun _=>none) (zbJ j1) zb4 0
) (
some (-1)
)
) (
zax (!(Lib.validRune r1)) (
some (-1)
) (
zbr (fun (j2:Option Int) =>
grd (I64 (((Utf8.encode r1).size:Int) - 1)) <|
zaM none (zb5 r1 j2) zb4
) (
some (-1)
)
)
)
)
) (
zax ((r1:Int)==65533) (
zbr (fun (j8:Option Int) =>
zaM (fun _=>none) (zcx j8) zb4 0
) (
some (-1)
)
) (
zax (!(Lib.validRune r1)) (
some (-1)
) (
zbr (fun (j9:Option Int) =>
grd (I64 (((Utf8.encode r1).size:Int) - 1)) <|
zaM none (zcw r1 j9) zb4
) (
some (-1)
)
)
)
)
theorem zf5 {r1:Int} {r:Int} (h:zce r1=some r):FnP Tryz.prog 136 [.string (⟨#[13,10]⟩:ByteArray),.int .i32 r1] (zI r):=by
 unfold zce at h
 refine FnP.intro Tryz.func136 rfl Tryz.ntmps136 (by simp) ?_
 intro w0 K
 refine zyG (zyR 1 rfl (zyN (zaG (zyG (zyR 1 rfl (zaW rfl zdP (zyR 1 rfl ?_)))))))
 refine zyS (s:=163) rfl h (fun h => ?_) (fun h => ?_)
 ·
  refine zyR 1 rfl (zaW rfl zbA (zyR 2 rfl (zyN ?_)))
  refine zyB rfl h (fun h => ?_) (fun h => ?_)
  ·
   refine zyG (zyR 2 rfl (zi8 rfl dc rfl (zrg Tryz.underlying21 Tryz.underlying5) (zbc (v:=zI (Lib.indexByte (⟨#[13,10]⟩:ByteArray).data.toList (IntKind.u8.wrap r1:Int).toNat.toUInt8)) (vs:=[.string (⟨#[13,10]⟩:ByteArray),.int .u8 (IntKind.u8.wrap r1)]) rfl dc rfl rfl rfl zq3 (zn2 (⟨#[13,10]⟩:ByteArray) (IntKind.u8.wrap r1)) (zyR 1 rfl (zyN (zaA (zal ?_)))))))
   cases h
   exact zaF (rs:=[.tmp 4]) () (.inl rfl) Tryz.results136 (.cons (.tmp rfl) .nil) rfl Splits.nil
  refine zyG (zyR 1 rfl (zaW rfl za1 (zyR 1 rfl (zyN ?_))))
  refine zyB rfl h (fun h => ?_) (fun h => ?_)
  ·
   obtain ⟨j1,hj1,h⟩:=zbO h
   refine zaY (β:=Unit) 0 rfl (fun b=>j1=some r) (fun b=>[]) (fun b=>[]) (fun b=>[]) (fun cut => ?_) ?_
   ·
    refine cut (zyG (zyR 1 rfl ?_))
    refine zej Tryz.underlying9 rfl dc rfl (fun b1 => ?_)
    refine zyN (zaG ?_)
    refine zbt (β:=Nat×Nat) (fun b=>zaM (fun _=>none) (zbJ j1) b.1 b.2=some r) (fun b=>[]) (fun b=>[(175,zP b1)]) (fun b=>[obj b1 (.stringIter (⟨#[13,10]⟩:ByteArray) (zfr (⟨#[13,10]⟩:ByteArray) b.2))]) (fun b=>b.1) (zb4,0) (by exact h) rfl (zba rfl) (zad [0] kr rfl) ?_
    rintro ⟨n1,m3⟩ h
    cases n1 with
    | zero=>exact zdG h
    | succ n1 =>
     obtain ⟨ag1,hag1⟩:∃ ag,ag=zaM (fun _=>none) (zbJ j1) n1:=⟨_,rfl⟩
     have h:zbJ j1 ag1 m3=some r:=by rw [hag1]; exact h
     unfold zbJ at h
     refine zyG ?_
     refine zeq (b:=decide (m3<(pcs (⟨#[13,10]⟩:ByteArray).data.toList).length)) (fun hb4 => ?_) (fun hb4 => ?_)
     ·
      have h:=zg9 hb4 h
      obtain ⟨p1,hq1,h⟩:=zbx h
      refine zeV (k:=0) (m:=m3) (p:=p1) rfl dc rfl rfl hq1 (zaJ rfl dc rfl rfl (zyN (zaH (zbd rfl (zau (zaI (zaG (zyG (zaJ rfl dc rfl rfl (zaJ rfl dc rfl rfl (zyR 1 rfl ?_)))))))))))
      refine zyR 1 rfl (zyH (zyR 1 rfl (zaW rfl za1 (zyN ?_))))
      refine zyB rfl h (fun h => ?_) (fun h => ?_)
      ·
       refine zyG (zyR 2 rfl (zyN (zaA (zal (zai (zal (zai (zal ?_))))))))
       cases h
       exact zaF (rs:=[.tmp 4]) () (.inl rfl) Tryz.results136 (.cons (.tmp rfl) .nil) rfl Splits.nil
      refine zau (zah ?_)
      subst hag1
      exact za4 (n1,m3+1) h (Nat.lt_succ_self _) rfl (zba rfl) (zad [0] kr rfl)
     have h:=zha hb4 h
     refine zeW (k:=0) (m:=m3) rfl dc rfl rfl (Nat.le_of_not_lt (of_decide_eq_false hb4)) (zaJ rfl dc rfl rfl (zyN (zaH (zaT rfl (za9 (zap (zap (zaz ?_))))))))
     exact zaq () h rfl (zgA) Splits.nil
   rintro _ h
   rw [hj1] at h
   refine zyG (zyR 1 rfl (zyN (zaA (zal ?_))))
   cases h
   exact zaF (rs:=[.tmp 4]) () (.inl rfl) Tryz.results136 (.cons (.tmp rfl) .nil) rfl Splits.nil
  refine zyG (zyR 1 rfl (zbc (v:=.bool (Lib.validRune r1)) (vs:=[.int .i32 r1]) rfl dc rfl rfl rfl zsW (zpW r1) (zdJ rfl dc rfl zcA (zyR 1 rfl (zyN ?_)))))
  refine zyB rfl h (fun h => ?_) (fun h => ?_)
  ·
   refine zyG (zyR 1 rfl (zyN (zaA (zal ?_))))
   cases h
   exact zaF (rs:=[.tmp 4]) () (.inl rfl) Tryz.results136 (.cons (.tmp rfl) .nil) rfl Splits.nil
  refine zf4 (β:=Unit) (l:=1) (fun _=>False) (fun _=>[]) (fun _=>[]) rfl ?_ ?_
  ·
   obtain ⟨j2,hj2,h⟩:=zbO h
   refine zaY (β:=Unit) 4 rfl (fun b=>j2=some r) (fun b=>[]) (fun b=>[]) (fun b=>[]) (fun cut => ?_) ?_
   ·
    refine zyG (zyR 1 rfl (zi8 rfl dc rfl (ziw Tryz.underlying21 Tryz.underlying9) (zyR 1 rfl (zyH (zyR 1 rfl (zbl rfl dc rfl Tryz.underlying9 ?_))))))
    obtain ⟨hg1,h⟩:=zbw h
    refine zaW rfl (zcd (r:=((Utf8.encode r1).size:Int) - 1) (IntWalk.i64_in _ hg1)) (zyR 1 rfl (zyH (zyR 2 rfl (zyH (zyR 1 rfl (zaX ?_))))))
    refine zaI (cut (zaG ?_))
    refine zbt (β:=Nat) (fun b=>zaM none (zb5 r1 j2) b=some r) (fun b=>[]) (fun b=>[(0,.string (⟨#[13,10]⟩:ByteArray)),(7,.string (Utf8.encode r1)),(8,zI (((Utf8.encode r1).size:Int) - 1)),(9,zI (((Utf8.encode r1).size:Int) - 1))]) (fun b=>[]) (fun b=>b) zb4 h rfl (zba rfl) Splits.nil ?_
    rintro n2 h
    cases n2 with
    | zero=>exact zdG h
    | succ n2 =>
     obtain ⟨ag2,hag2⟩:∃ ag,ag=zaM none (zb5 r1 j2) n2:=⟨_,rfl⟩
     have h:zb5 r1 j2 ag2=some r:=by rw [hag2]; exact h
     unfold zb5 at h
     refine zaH (zyG (zyR 2 rfl (zbl rfl dc rfl Tryz.underlying9 (zaW rfl zbA (zyN ?_)))))
     refine zyB rfl h (fun h => ?_) (fun h => ?_)
     ·
      refine zau (zaI (zaG ?_))
      refine zf4 (β:=Unit) (l:=0) (fun _=>False) (fun _=>[]) (fun _=>[]) rfl ?_ ?_
      ·
       obtain ⟨j3,hj3,h⟩:=zbO h
       refine zaY (β:=Int) 0 rfl (fun b=>j3 b=some r) (fun b=>[]) (fun b=>[(0,.string (⟨#[13,10]⟩:ByteArray)),(7,.string (Utf8.encode r1)),(8,zI (((Utf8.encode r1).size:Int) - 1)),(9,zI b)]) (fun b=>[]) (fun cut => ?_) ?_
       ·
        refine cut (zaH ?_)
        obtain ⟨c1,hq2,h⟩:=zbx h
        obtain ⟨c2,hq3,h⟩:=zbx h
        refine zbz 6 [(0,27,.string (⟨#[13,10]⟩:ByteArray)),(1,28,zI (((Utf8.encode r1).size:Int) - 1)),(2,29,.int .u8 c1),(3,30,.string (Utf8.encode r1)),(4,31,zI (((Utf8.encode r1).size:Int) - 1)),(5,32,.int .u8 c2)] mixed kr kr dc (by rfl) kr kr (zyP 2 0 rfl (zae ?_ (zyP 2 3 rfl (zae ?_ DrawPre.nil)))) ?_
        · exact fun D n d c u i=>zcb rfl dc (zaa (m:=0) u rfl (d 0 dc)) (zaa (m:=1) u rfl (d 1 dc)) (za2 Tryz.underlying9 hq2) (zaf 2 u i rfl)
        · exact fun D n d c u i=>zcb rfl dc (zaa (m:=3) u rfl (d 3 dc)) (zaa (m:=4) u rfl (d 4 dc)) (za2 Tryz.underlying9 hq3) (zaf 5 u i rfl)
        refine zaW rfl zbP (zyN ?_)
        refine zyB rfl h (fun h => ?_) (fun h => ?_)
        ·
         refine zaH ?_
         obtain ⟨hg2,h⟩:=zbw h
         obtain ⟨hg3,h⟩:=zbw h
         obtain ⟨c3,hq4,h⟩:=zbx h
         refine zbz 7 [(0,34,.string (⟨#[13,10]⟩:ByteArray)),(1,35,zI (((Utf8.encode r1).size:Int) - 1)),(2,36,zI ((((Utf8.encode r1).size:Int) - 1)+1)),(3,37,.string (zbE (⟨#[13,10]⟩:ByteArray) ((((Utf8.encode r1).size:Int) - 1)+1) ((⟨#[13,10]⟩:ByteArray).size:Int))),(4,38,.string (Utf8.encode r1)),(5,39,zI (((Utf8.encode r1).size:Int) - 1)),(6,40,.int .u8 c3)] mixed kr kr dc (by rfl) kr kr (zyP 2 0 rfl (zae ?_ (zae ?_ (zyP 2 4 rfl (zae ?_ DrawPre.nil))))) ?_
         · exact fun D n d c u i=>zcc rfl dc (zaa (m:=1) u rfl (d 1 dc)) rfl (zaV (r:=(((Utf8.encode r1).size:Int) - 1)+1) (IntWalk.i64_in _ hg2)) (zaf 2 u i rfl)
         · exact fun D n d c u i=>zd8 rfl dc (zaa (m:=0) u rfl (d 0 dc)) (evO.some (zaa (m:=2) u rfl (d 2 dc))) zik (zb9 (i:=(((Utf8.encode r1).size:Int) - 1)+1) (j:=((⟨#[13,10]⟩:ByteArray).size:Int)) Tryz.underlying9 (.inr rfl) (.inl ⟨rfl,rfl⟩) hg3) (zaf 3 u i rfl)
         · exact fun D n d c u i=>zcb rfl dc (zaa (m:=4) u rfl (d 4 dc)) (zaa (m:=5) u rfl (d 5 dc)) (za2 Tryz.underlying9 hq4) (zaf 6 u i rfl)
         refine zbc (v:=zI (Lib.indexByte (zbE (⟨#[13,10]⟩:ByteArray) ((((Utf8.encode r1).size:Int) - 1)+1) ((⟨#[13,10]⟩:ByteArray).size:Int)).data.toList (c3:Int).toNat.toUInt8)) (vs:=[.string (zbE (⟨#[13,10]⟩:ByteArray) ((((Utf8.encode r1).size:Int) - 1)+1) ((⟨#[13,10]⟩:ByteArray).size:Int)),.int .u8 c3]) rfl dc rfl rfl rfl zq3 (zn2 (zbE (⟨#[13,10]⟩:ByteArray) ((((Utf8.encode r1).size:Int) - 1)+1) ((⟨#[13,10]⟩:ByteArray).size:Int)) c3) (zyR 1 rfl (zyN (zaH (zyG (zyR 1 rfl (zaW rfl zbA (zyN ?_)))))))
         refine zyB rfl h (fun h => ?_) (fun h => ?_)
         ·
          refine zyG (zyR 1 rfl (zyN (zaA (zai (zai (zcl (by simp) (zal (zai (zal (zai (zcl (by simp) ?_)))))))))))
          refine zal ?_
          cases h
          exact zaF (rs:=[.tmp 4]) () (.inl rfl) Tryz.results136 (.cons (.tmp rfl) .nil) rfl Splits.nil
         refine zau (zaI (zaB (zyR 2 rfl ?_)))
         obtain ⟨hg4,h⟩:=zbw h
         refine zaW rfl (zaV (r:=(Lib.indexByte (zbE (⟨#[13,10]⟩:ByteArray) ((((Utf8.encode r1).size:Int) - 1)+1) ((⟨#[13,10]⟩:ByteArray).size:Int)).data.toList (c3:Int).toNat.toUInt8)+1) (IntWalk.i64_in _ hg4)) ?_
         obtain ⟨hg5,h⟩:=zbw h
         refine zaW rfl (zaV (r:=(((Utf8.encode r1).size:Int) - 1)+((Lib.indexByte (zbE (⟨#[13,10]⟩:ByteArray) ((((Utf8.encode r1).size:Int) - 1)+1) ((⟨#[13,10]⟩:ByteArray).size:Int)).data.toList (c3:Int).toNat.toUInt8)+1)) (IntWalk.i64_in _ hg5)) (zyR 1 rfl (zaX ?_))
         exact zaq ((((Utf8.encode r1).size:Int) - 1)+((Lib.indexByte (zbE (⟨#[13,10]⟩:ByteArray) ((((Utf8.encode r1).size:Int) - 1)+1) ((⟨#[13,10]⟩:ByteArray).size:Int)).data.toList (c3:Int).toNat.toUInt8)+1)) h rfl (zba rfl) Splits.nil
        refine zau ?_
        exact zaq (((Utf8.encode r1).size:Int) - 1) h rfl (zba rfl) Splits.nil
       rintro i1 h
       rw [hj3] at h
       obtain ⟨j4,hj4,h⟩:=zbO h
       refine zaY (β:=Unit) 0 rfl (fun b=>j4=some r) (fun b=>[]) (fun b=>[(8,zI (((Utf8.encode r1).size:Int) - 1)),(9,zI i1)]) (fun b=>[]) (fun cut => ?_) ?_
       ·
        refine cut (zyG (zyR 1 rfl (zyN (zaG ?_))))
        refine zbt (β:=Nat×Int) (fun b=>zaM (fun _=>none) (zcy r1 i1 j4) b.1 b.2=some r) (fun b=>[]) (fun b=>[(0,.string (⟨#[13,10]⟩:ByteArray)),(7,.string (Utf8.encode r1)),(8,zI (((Utf8.encode r1).size:Int) - 1)),(9,zI i1),(12,zI b.2)]) (fun b=>[]) (fun b=>b.1) (zb4,1) h rfl (zba rfl) Splits.nil ?_
        rintro ⟨n3,j7⟩ h
        cases n3 with
        | zero=>exact zdG h
        | succ n3 =>
         obtain ⟨ag3,hag3⟩:∃ ag,ag=zaM (fun _=>none) (zcy r1 i1 j4) n3:=⟨_,rfl⟩
         have h:zcy r1 i1 j4 ag3 j7=some r:=by rw [hag3]; exact h
         unfold zcy at h
         refine zaH (zyG (zyR 2 rfl (zbl rfl dc rfl Tryz.underlying9 (zaW rfl zbA (zyN ?_)))))
         refine zyB rfl h (fun h => ?_) (fun h => ?_)
         ·
          refine zau (zaI (zaH (zaG (zaH ?_))))
          obtain ⟨hg6,h⟩:=zbw h
          obtain ⟨c4,hq5,h⟩:=zbx h
          obtain ⟨hg7,h⟩:=zbw h
          obtain ⟨c5,hq6,h⟩:=zbx h
          refine zbz 10 [(0,54,.string (⟨#[13,10]⟩:ByteArray)),(1,55,zI i1),(2,56,zI j7),(3,57,zI (i1 - j7)),(4,58,.int .u8 c4),(5,59,.string (Utf8.encode r1)),(6,60,zI (((Utf8.encode r1).size:Int) - 1)),(7,61,zI j7),(8,62,zI ((((Utf8.encode r1).size:Int) - 1) - j7)),(9,63,.int .u8 c5)] mixed kr kr dc (by rfl) kr kr (zyP 3 0 rfl (zae ?_ (zae ?_ (zyP 3 5 rfl (zae ?_ (zae ?_ DrawPre.nil)))))) ?_
          · exact fun D n d c u i=>zcc rfl dc (zaa (m:=1) u rfl (d 1 dc)) (zaa (m:=2) u rfl (d 2 dc)) (zcd (r:=i1 - j7) (IntWalk.i64_in _ hg6)) (zaf 3 u i rfl)
          · exact fun D n d c u i=>zcb rfl dc (zaa (m:=0) u rfl (d 0 dc)) (zaa (m:=3) u rfl (d 3 dc)) (za2 Tryz.underlying9 hq5) (zaf 4 u i rfl)
          · exact fun D n d c u i=>zcc rfl dc (zaa (m:=6) u rfl (d 6 dc)) (zaa (m:=7) u rfl (d 7 dc)) (zcd (r:=(((Utf8.encode r1).size:Int) - 1) - j7) (IntWalk.i64_in _ hg7)) (zaf 8 u i rfl)
          · exact fun D n d c u i=>zcb rfl dc (zaa (m:=5) u rfl (d 5 dc)) (zaa (m:=8) u rfl (d 8 dc)) (za2 Tryz.underlying9 hq6) (zaf 9 u i rfl)
          refine zaW rfl zbP (zyN ?_)
          refine zyB rfl h (fun h => ?_) (fun h => ?_)
          ·
           exact zdG h
          refine zau (zah (zaI (zaB (zyR 1 rfl ?_))))
          obtain ⟨hg8,h⟩:=zbw h
          refine zaW rfl (zaV (r:=j7+1) (IntWalk.i64_in _ hg8)) (zyR 1 rfl (zaX ?_))
          subst hag3
          exact za4 (n3,j7+1) h (Nat.lt_succ_self _) rfl (zba rfl) Splits.nil
         refine za9 (zap (zap (zaz ?_)))
         exact zaq () h rfl (zba rfl) Splits.nil
       rintro _ h
       rw [hj4] at h
       refine zaH (zyG (zyR 2 rfl ?_))
       obtain ⟨hg9,h⟩:=zbw h
       refine zaW rfl (zcd (r:=i1 - (((Utf8.encode r1).size:Int) - 1)) (IntWalk.i64_in _ hg9)) (zyR 1 rfl (zyN (zaA (zai (zcl (by simp) (zal (zai (zal (zai (zcl (by simp) (zal ?_)))))))))))
       cases h
       exact zaF (rs:=[.tmp 4]) () (.inl rfl) Tryz.results136 (.cons (.tmp rfl) .nil) rfl Splits.nil
      exact fun b hb=>hb.elim
     refine za9 (zap (zap (zaz ?_)))
     exact zaq () h rfl (zgA) Splits.nil
   rintro _ h
   rw [hj2] at h
   refine zaH (zyG (zyR 1 rfl (zyN (zaA (zai (zcl (by simp) (zal ?_)))))))
   cases h
   exact zaF (rs:=[.tmp 4]) () (.inl rfl) Tryz.results136 (.cons (.tmp rfl) .nil) rfl Splits.nil
  exact fun b hb=>hb.elim
 refine zyR 4 rfl (zyN (zaT rfl (zyG (zyR 1 rfl (zaW rfl za1 (zyR 1 rfl (zyN ?_)))))))
 refine zyB rfl h (fun h => ?_) (fun h => ?_)
 ·
  obtain ⟨j8,hj8,h⟩:=zbO h
  refine zaY (β:=Unit) 0 rfl (fun b=>j8=some r) (fun b=>[]) (fun b=>[]) (fun b=>[]) (fun cut => ?_) ?_
  ·
   refine cut (zyG (zyR 1 rfl ?_))
   refine zej Tryz.underlying9 rfl dc rfl (fun b2 => ?_)
   refine zyN (zaG ?_)
   refine zbt (β:=Nat×Nat) (fun b=>zaM (fun _=>none) (zcx j8) b.1 b.2=some r) (fun b=>[]) (fun b=>[(175,zP b2)]) (fun b=>[obj b2 (.stringIter (⟨#[13,10]⟩:ByteArray) (zfr (⟨#[13,10]⟩:ByteArray) b.2))]) (fun b=>b.1) (zb4,0) (by exact h) rfl (zba rfl) (zad [0] kr rfl) ?_
   rintro ⟨n4,m6⟩ h
   cases n4 with
   | zero=>exact zdG h
   | succ n4 =>
    obtain ⟨ag4,hag4⟩:∃ ag,ag=zaM (fun _=>none) (zcx j8) n4:=⟨_,rfl⟩
    have h:zcx j8 ag4 m6=some r:=by rw [hag4]; exact h
    unfold zcx at h
    refine zyG ?_
    refine zeq (b:=decide (m6<(pcs (⟨#[13,10]⟩:ByteArray).data.toList).length)) (fun hb13 => ?_) (fun hb13 => ?_)
    ·
     have h:=zg9 hb13 h
     obtain ⟨p2,hq7,h⟩:=zbx h
     refine zeV (k:=0) (m:=m6) (p:=p2) rfl dc rfl rfl hq7 (zaJ rfl dc rfl rfl (zyN (zaH (zbd rfl (zau (zaI (zaG (zyG (zaJ rfl dc rfl rfl (zaJ rfl dc rfl rfl (zyR 1 rfl ?_)))))))))))
     refine zyR 1 rfl (zyH (zyR 1 rfl (zaW rfl za1 (zyN ?_))))
     refine zyB rfl h (fun h => ?_) (fun h => ?_)
     ·
      refine zyG (zyR 2 rfl (zyN (zaA (zal (zai (zal (zai (zal ?_))))))))
      cases h
      exact zaF (rs:=[.tmp 4]) () (.inl rfl) Tryz.results136 (.cons (.tmp rfl) .nil) rfl Splits.nil
     refine zau (zah ?_)
     subst hag4
     exact za4 (n4,m6+1) h (Nat.lt_succ_self _) rfl (zba rfl) (zad [0] kr rfl)
    have h:=zha hb13 h
    refine zeW (k:=0) (m:=m6) rfl dc rfl rfl (Nat.le_of_not_lt (of_decide_eq_false hb13)) (zaJ rfl dc rfl rfl (zyN (zaH (zaT rfl (za9 (zap (zap (zaz ?_))))))))
    exact zaq () h rfl (zgA) Splits.nil
  rintro _ h
  rw [hj8] at h
  refine zyG (zyR 1 rfl (zyN (zaA (zal ?_))))
  cases h
  exact zaF (rs:=[.tmp 4]) () (.inl rfl) Tryz.results136 (.cons (.tmp rfl) .nil) rfl Splits.nil
 refine zyG (zyR 1 rfl (zbc (v:=.bool (Lib.validRune r1)) (vs:=[.int .i32 r1]) rfl dc rfl rfl rfl zsW (zpW r1) (zdJ rfl dc rfl zcA (zyR 1 rfl (zyN ?_)))))
 refine zyB rfl h (fun h => ?_) (fun h => ?_)
 ·
  refine zyG (zyR 1 rfl (zyN (zaA (zal ?_))))
  cases h
  exact zaF (rs:=[.tmp 4]) () (.inl rfl) Tryz.results136 (.cons (.tmp rfl) .nil) rfl Splits.nil
 refine zf4 (β:=Unit) (l:=1) (fun _=>False) (fun _=>[]) (fun _=>[]) rfl ?_ ?_
 ·
  obtain ⟨j9,hj9,h⟩:=zbO h
  refine zaY (β:=Unit) 4 rfl (fun b=>j9=some r) (fun b=>[]) (fun b=>[]) (fun b=>[]) (fun cut => ?_) ?_
  ·
   refine zyG (zyR 1 rfl (zi8 rfl dc rfl (ziw Tryz.underlying21 Tryz.underlying9) (zyR 1 rfl (zyH (zyR 1 rfl (zbl rfl dc rfl Tryz.underlying9 ?_))))))
   obtain ⟨hg10,h⟩:=zbw h
   refine zaW rfl (zcd (r:=((Utf8.encode r1).size:Int) - 1) (IntWalk.i64_in _ hg10)) (zyR 1 rfl (zyH (zyR 2 rfl (zyH (zyR 1 rfl (zaX ?_))))))
   refine zaI (cut (zaG ?_))
   refine zbt (β:=Nat) (fun b=>zaM none (zcw r1 j9) b=some r) (fun b=>[]) (fun b=>[(0,.string (⟨#[13,10]⟩:ByteArray)),(7,.string (Utf8.encode r1)),(8,zI (((Utf8.encode r1).size:Int) - 1)),(9,zI (((Utf8.encode r1).size:Int) - 1))]) (fun b=>[]) (fun b=>b) zb4 h rfl (zba rfl) Splits.nil ?_
   rintro n5 h
   cases n5 with
   | zero=>exact zdG h
   | succ n5 =>
    obtain ⟨ag5,hag5⟩:∃ ag,ag=zaM none (zcw r1 j9) n5:=⟨_,rfl⟩
    have h:zcw r1 j9 ag5=some r:=by rw [hag5]; exact h
    unfold zcw at h
    refine zaH (zyG (zyR 2 rfl (zbl rfl dc rfl Tryz.underlying9 (zaW rfl zbA (zyN ?_)))))
    refine zyB rfl h (fun h => ?_) (fun h => ?_)
    ·
     refine zau (zaI (zaG ?_))
     refine zf4 (β:=Unit) (l:=0) (fun _=>False) (fun _=>[]) (fun _=>[]) rfl ?_ ?_
     ·
      obtain ⟨j10,hj10,h⟩:=zbO h
      refine zaY (β:=Int) 0 rfl (fun b=>j10 b=some r) (fun b=>[]) (fun b=>[(0,.string (⟨#[13,10]⟩:ByteArray)),(7,.string (Utf8.encode r1)),(8,zI (((Utf8.encode r1).size:Int) - 1)),(9,zI b)]) (fun b=>[]) (fun cut => ?_) ?_
      ·
       refine cut (zaH ?_)
       obtain ⟨c6,hq8,h⟩:=zbx h
       obtain ⟨c7,hq9,h⟩:=zbx h
       refine zbz 6 [(0,27,.string (⟨#[13,10]⟩:ByteArray)),(1,28,zI (((Utf8.encode r1).size:Int) - 1)),(2,29,.int .u8 c6),(3,30,.string (Utf8.encode r1)),(4,31,zI (((Utf8.encode r1).size:Int) - 1)),(5,32,.int .u8 c7)] mixed kr kr dc (by rfl) kr kr (zyP 2 0 rfl (zae ?_ (zyP 2 3 rfl (zae ?_ DrawPre.nil)))) ?_
       · exact fun D n d c u i=>zcb rfl dc (zaa (m:=0) u rfl (d 0 dc)) (zaa (m:=1) u rfl (d 1 dc)) (za2 Tryz.underlying9 hq8) (zaf 2 u i rfl)
       · exact fun D n d c u i=>zcb rfl dc (zaa (m:=3) u rfl (d 3 dc)) (zaa (m:=4) u rfl (d 4 dc)) (za2 Tryz.underlying9 hq9) (zaf 5 u i rfl)
       refine zaW rfl zbP (zyN ?_)
       refine zyB rfl h (fun h => ?_) (fun h => ?_)
       ·
        refine zaH ?_
        obtain ⟨hg11,h⟩:=zbw h
        obtain ⟨hg12,h⟩:=zbw h
        obtain ⟨c8,hq10,h⟩:=zbx h
        refine zbz 7 [(0,34,.string (⟨#[13,10]⟩:ByteArray)),(1,35,zI (((Utf8.encode r1).size:Int) - 1)),(2,36,zI ((((Utf8.encode r1).size:Int) - 1)+1)),(3,37,.string (zbE (⟨#[13,10]⟩:ByteArray) ((((Utf8.encode r1).size:Int) - 1)+1) ((⟨#[13,10]⟩:ByteArray).size:Int))),(4,38,.string (Utf8.encode r1)),(5,39,zI (((Utf8.encode r1).size:Int) - 1)),(6,40,.int .u8 c8)] mixed kr kr dc (by rfl) kr kr (zyP 2 0 rfl (zae ?_ (zae ?_ (zyP 2 4 rfl (zae ?_ DrawPre.nil))))) ?_
        · exact fun D n d c u i=>zcc rfl dc (zaa (m:=1) u rfl (d 1 dc)) rfl (zaV (r:=(((Utf8.encode r1).size:Int) - 1)+1) (IntWalk.i64_in _ hg11)) (zaf 2 u i rfl)
        · exact fun D n d c u i=>zd8 rfl dc (zaa (m:=0) u rfl (d 0 dc)) (evO.some (zaa (m:=2) u rfl (d 2 dc))) zik (zb9 (i:=(((Utf8.encode r1).size:Int) - 1)+1) (j:=((⟨#[13,10]⟩:ByteArray).size:Int)) Tryz.underlying9 (.inr rfl) (.inl ⟨rfl,rfl⟩) hg12) (zaf 3 u i rfl)
        · exact fun D n d c u i=>zcb rfl dc (zaa (m:=4) u rfl (d 4 dc)) (zaa (m:=5) u rfl (d 5 dc)) (za2 Tryz.underlying9 hq10) (zaf 6 u i rfl)
        refine zbc (v:=zI (Lib.indexByte (zbE (⟨#[13,10]⟩:ByteArray) ((((Utf8.encode r1).size:Int) - 1)+1) ((⟨#[13,10]⟩:ByteArray).size:Int)).data.toList (c8:Int).toNat.toUInt8)) (vs:=[.string (zbE (⟨#[13,10]⟩:ByteArray) ((((Utf8.encode r1).size:Int) - 1)+1) ((⟨#[13,10]⟩:ByteArray).size:Int)),.int .u8 c8]) rfl dc rfl rfl rfl zq3 (zn2 (zbE (⟨#[13,10]⟩:ByteArray) ((((Utf8.encode r1).size:Int) - 1)+1) ((⟨#[13,10]⟩:ByteArray).size:Int)) c8) (zyR 1 rfl (zyN (zaH (zyG (zyR 1 rfl (zaW rfl zbA (zyN ?_)))))))
        refine zyB rfl h (fun h => ?_) (fun h => ?_)
        ·
         refine zyG (zyR 1 rfl (zyN (zaA (zai (zai (zcl (by simp) (zal (zai (zal (zai (zcl (by simp) ?_)))))))))))
         refine zal ?_
         cases h
         exact zaF (rs:=[.tmp 4]) () (.inl rfl) Tryz.results136 (.cons (.tmp rfl) .nil) rfl Splits.nil
        refine zau (zaI (zaB (zyR 2 rfl ?_)))
        obtain ⟨hg13,h⟩:=zbw h
        refine zaW rfl (zaV (r:=(Lib.indexByte (zbE (⟨#[13,10]⟩:ByteArray) ((((Utf8.encode r1).size:Int) - 1)+1) ((⟨#[13,10]⟩:ByteArray).size:Int)).data.toList (c8:Int).toNat.toUInt8)+1) (IntWalk.i64_in _ hg13)) ?_
        obtain ⟨hg14,h⟩:=zbw h
        refine zaW rfl (zaV (r:=(((Utf8.encode r1).size:Int) - 1)+((Lib.indexByte (zbE (⟨#[13,10]⟩:ByteArray) ((((Utf8.encode r1).size:Int) - 1)+1) ((⟨#[13,10]⟩:ByteArray).size:Int)).data.toList (c8:Int).toNat.toUInt8)+1)) (IntWalk.i64_in _ hg14)) (zyR 1 rfl (zaX ?_))
        exact zaq ((((Utf8.encode r1).size:Int) - 1)+((Lib.indexByte (zbE (⟨#[13,10]⟩:ByteArray) ((((Utf8.encode r1).size:Int) - 1)+1) ((⟨#[13,10]⟩:ByteArray).size:Int)).data.toList (c8:Int).toNat.toUInt8)+1)) h rfl (zba rfl) Splits.nil
       refine zau ?_
       exact zaq (((Utf8.encode r1).size:Int) - 1) h rfl (zba rfl) Splits.nil
      rintro i2 h
      rw [hj10] at h
      obtain ⟨j11,hj11,h⟩:=zbO h
      refine zaY (β:=Unit) 0 rfl (fun b=>j11=some r) (fun b=>[]) (fun b=>[(8,zI (((Utf8.encode r1).size:Int) - 1)),(9,zI i2)]) (fun b=>[]) (fun cut => ?_) ?_
      ·
       refine cut (zyG (zyR 1 rfl (zyN (zaG ?_))))
       refine zbt (β:=Nat×Int) (fun b=>zaM (fun _=>none) (zcv r1 i2 j11) b.1 b.2=some r) (fun b=>[]) (fun b=>[(0,.string (⟨#[13,10]⟩:ByteArray)),(7,.string (Utf8.encode r1)),(8,zI (((Utf8.encode r1).size:Int) - 1)),(9,zI i2),(12,zI b.2)]) (fun b=>[]) (fun b=>b.1) (zb4,1) h rfl (zba rfl) Splits.nil ?_
       rintro ⟨n6,j14⟩ h
       cases n6 with
       | zero=>exact zdG h
       | succ n6 =>
        obtain ⟨ag6,hag6⟩:∃ ag,ag=zaM (fun _=>none) (zcv r1 i2 j11) n6:=⟨_,rfl⟩
        have h:zcv r1 i2 j11 ag6 j14=some r:=by rw [hag6]; exact h
        unfold zcv at h
        refine zaH (zyG (zyR 2 rfl (zbl rfl dc rfl Tryz.underlying9 (zaW rfl zbA (zyN ?_)))))
        refine zyB rfl h (fun h => ?_) (fun h => ?_)
        ·
         refine zau (zaI (zaH (zaG (zaH ?_))))
         obtain ⟨hg15,h⟩:=zbw h
         obtain ⟨c9,hq11,h⟩:=zbx h
         obtain ⟨hg16,h⟩:=zbw h
         obtain ⟨c10,hq12,h⟩:=zbx h
         refine zbz 10 [(0,54,.string (⟨#[13,10]⟩:ByteArray)),(1,55,zI i2),(2,56,zI j14),(3,57,zI (i2 - j14)),(4,58,.int .u8 c9),(5,59,.string (Utf8.encode r1)),(6,60,zI (((Utf8.encode r1).size:Int) - 1)),(7,61,zI j14),(8,62,zI ((((Utf8.encode r1).size:Int) - 1) - j14)),(9,63,.int .u8 c10)] mixed kr kr dc (by rfl) kr kr (zyP 3 0 rfl (zae ?_ (zae ?_ (zyP 3 5 rfl (zae ?_ (zae ?_ DrawPre.nil)))))) ?_
         · exact fun D n d c u i=>zcc rfl dc (zaa (m:=1) u rfl (d 1 dc)) (zaa (m:=2) u rfl (d 2 dc)) (zcd (r:=i2 - j14) (IntWalk.i64_in _ hg15)) (zaf 3 u i rfl)
         · exact fun D n d c u i=>zcb rfl dc (zaa (m:=0) u rfl (d 0 dc)) (zaa (m:=3) u rfl (d 3 dc)) (za2 Tryz.underlying9 hq11) (zaf 4 u i rfl)
         · exact fun D n d c u i=>zcc rfl dc (zaa (m:=6) u rfl (d 6 dc)) (zaa (m:=7) u rfl (d 7 dc)) (zcd (r:=(((Utf8.encode r1).size:Int) - 1) - j14) (IntWalk.i64_in _ hg16)) (zaf 8 u i rfl)
         · exact fun D n d c u i=>zcb rfl dc (zaa (m:=5) u rfl (d 5 dc)) (zaa (m:=8) u rfl (d 8 dc)) (za2 Tryz.underlying9 hq12) (zaf 9 u i rfl)
         refine zaW rfl zbP (zyN ?_)
         refine zyB rfl h (fun h => ?_) (fun h => ?_)
         ·
          exact zdG h
         refine zau (zah (zaI (zaB (zyR 1 rfl ?_))))
         obtain ⟨hg17,h⟩:=zbw h
         refine zaW rfl (zaV (r:=j14+1) (IntWalk.i64_in _ hg17)) (zyR 1 rfl (zaX ?_))
         subst hag6
         exact za4 (n6,j14+1) h (Nat.lt_succ_self _) rfl (zba rfl) Splits.nil
        refine za9 (zap (zap (zaz ?_)))
        exact zaq () h rfl (zba rfl) Splits.nil
      rintro _ h
      rw [hj11] at h
      refine zaH (zyG (zyR 2 rfl ?_))
      obtain ⟨hg18,h⟩:=zbw h
      refine zaW rfl (zcd (r:=i2 - (((Utf8.encode r1).size:Int) - 1)) (IntWalk.i64_in _ hg18)) (zyR 1 rfl (zyN (zaA (zai (zcl (by simp) (zal (zai (zal (zai (zcl (by simp) (zal ?_)))))))))))
      cases h
      exact zaF (rs:=[.tmp 4]) () (.inl rfl) Tryz.results136 (.cons (.tmp rfl) .nil) rfl Splits.nil
     exact fun b hb=>hb.elim
    refine za9 (zap (zap (zaz ?_)))
    exact zaq () h rfl (zgA) Splits.nil
  rintro _ h
  rw [hj9] at h
  refine zaH (zyG (zyR 1 rfl (zyN (zaA (zai (zcl (by simp) (zal ?_)))))))
  cases h
  exact zaF (rs:=[.tmp 4]) () (.inl rfl) Tryz.results136 (.cons (.tmp rfl) .nil) rfl Splits.nil
 exact fun b hb=>hb.elim
def zbh (s1:ByteArray) (j3:Option Int) (ag1:Nat→Option Int) (m3:Nat):Option Int :=
zax (decide (m3<(pcs s1.data.toList).length)) (
zak ((pcs s1.data.toList)[m3]?) fun (p1:Pc) =>
zak (zce (p1.r:Int)) fun (r2:Int) =>
zax (decide ((0:Int)≤r2)) (
some (p1.i:Int)
) (
ag1 (m3+1)
)
) (
j3
)
def zcL (s1:ByteArray):Option Int :=
zax (decide ((⟨#[13,10]⟩:ByteArray)=(⟨#[]⟩:ByteArray))) (
some (-1)
) (
zax ((((⟨#[13,10]⟩:ByteArray).size:Int):Int)==1) (
zbr (fun (j1:Int→Option Int) =>
zak (zg2 (⟨#[13,10]⟩:ByteArray) 0) fun (c1:Int) =>
grd (I32 c1) <|
zax (decide ((128:Int)≤c1)) (
j1 65533
) (
j1 c1
)
) (fun (r1:Int) =>
none
)
) (
zbr (fun (j2:Option Int) =>
zax (decide (8<((s1.size:Int):Int))) (
none
) (
j2
)
) (
zbr (fun (j3:Option Int) =>
zaM (fun _=>none) (zbh s1 j3) zb4 0
) (
some (-1)
)
)
)
)
theorem zga {s1:ByteArray} {r:Int} (h:zcL s1=some r):FnP Tryz.prog 134 [.string s1,.string (⟨#[13,10]⟩:ByteArray)] (zI r):=by
 unfold zcL at h
 refine FnP.intro Tryz.func134 rfl Tryz.ntmps134 (by simp) ?_
 intro w0 K
 refine zyG (zyR 1 rfl (zyN (zaH (zyG (zyR 1 rfl (zaW rfl zgu (zyN ?_)))))))
 refine zyB rfl h (fun h => ?_) (fun h => ?_)
 ·
  refine zyG (zyR 1 rfl (zyN (zaA (zai ?_))))
  cases h
  exact zaF (rs:=[.tmp 4]) () (.inl rfl) Tryz.results134 (.cons (.tmp rfl) .nil) rfl Splits.nil
 refine zau (zaI (zaH (zyG (zyR 1 rfl (zbl rfl dc rfl Tryz.underlying9 (zaW rfl za1 (zyN ?_)))))))
 refine zyB rfl h (fun h => ?_) (fun h => ?_)
 ·
  obtain ⟨j1,hj1,h⟩:=zbO h
  refine zaY (β:=Int) 1 rfl (fun b=>j1 b=some r) (fun b=>[]) (fun b=>[(0,.string s1),(5,.int .i32 b)]) (fun b=>[]) (fun cut => ?_) ?_
  ·
   refine zyG (zyR 1 rfl ?_)
   obtain ⟨c1,hq1,h⟩:=zbx h
   refine zcb rfl dc rfl rfl (za2 Tryz.underlying9 hq1) ?_
   obtain ⟨hg1,h⟩:=zbw h
   refine zi8 rfl dc rfl (zoZ (r:=c1) Tryz.underlying5 Tryz.underlying21 (IntWalk.i32_in _ hg1)) (zyR 1 rfl (zyN (cut (zyG (zyR 1 rfl (zaW rfl zeg (zyN ?_)))))))
   refine zyB rfl h (fun h => ?_) (fun h => ?_)
   ·
    refine zaB (zyR 1 rfl (zaX ?_))
    exact zaq 65533 h rfl (zba rfl) Splits.nil
   refine zau ?_
   exact zaq c1 h rfl (zba rfl) Splits.nil
  rintro r1 h
  rw [hj1] at h
  refine zaH ?_
  exact zdG h
 refine zau (zaI ?_)
 obtain ⟨j2,hj2,h⟩:=zbO h
 refine zaY (β:=Unit) 0 rfl (fun b=>j2=some r) (fun b=>[]) (fun b=>[(0,.string s1),(1,.string (⟨#[13,10]⟩:ByteArray))]) (fun b=>[]) (fun cut => ?_) ?_
 ·
  refine cut (zyG (zyR 1 rfl (zbl rfl dc rfl Tryz.underlying9 (zbc (v:=.bool (decide (8<((s1.size:Int):Int)))) (vs:=[zI (s1.size:Int)]) rfl dc rfl rfl rfl zvf (zuF (s1.size:Int)) (zyN ?_)))))
  refine zyB rfl h (fun h => ?_) (fun h => ?_)
  ·
   refine zaH ?_
   exact zdG h
  refine zau ?_
  exact zaq () h rfl (zba rfl) Splits.nil
 rintro _ h
 rw [hj2] at h
 obtain ⟨j3,hj3,h⟩:=zbO h
 refine zaY (β:=Unit) 0 rfl (fun b=>j3=some r) (fun b=>[]) (fun b=>[]) (fun b=>[]) (fun cut => ?_) ?_
 ·
  refine cut (zyG (zyR 1 rfl ?_))
  refine zej Tryz.underlying9 rfl dc rfl (fun b1 => ?_)
  refine zyN (zaG ?_)
  refine zbt (β:=Nat×Nat) (fun b=>zaM (fun _=>none) (zbh s1 j3) b.1 b.2=some r) (fun b=>[]) (fun b=>[(1,.string (⟨#[13,10]⟩:ByteArray)),(45,zP b1)]) (fun b=>[obj b1 (.stringIter s1 (zfr s1 b.2))]) (fun b=>b.1) (zb4,0) (by exact h) rfl (zba rfl) (zad [0] kr rfl) ?_
  rintro ⟨n1,m3⟩ h
  cases n1 with
  | zero=>exact zdG h
  | succ n1 =>
   obtain ⟨ag1,hag1⟩:∃ ag,ag=zaM (fun _=>none) (zbh s1 j3) n1:=⟨_,rfl⟩
   have h:zbh s1 j3 ag1 m3=some r:=by rw [hag1]; exact h
   unfold zbh at h
   refine zyG ?_
   refine zeq (b:=decide (m3<(pcs s1.data.toList).length)) (fun hb5 => ?_) (fun hb5 => ?_)
   ·
    have h:=zg9 hb5 h
    obtain ⟨p1,hq2,h⟩:=zbx h
    refine zeV (k:=0) (m:=m3) (p:=p1) rfl dc rfl rfl hq2 (zaJ rfl dc rfl rfl (zyN (zaH (zbd rfl (zau (zaI (zaG (zyG (zaJ rfl dc rfl rfl (zaJ rfl dc rfl rfl (zyR 1 rfl ?_)))))))))))
    refine zyR 1 rfl (zyH (zyR 2 rfl ?_))
    obtain ⟨r2,hq3,h⟩:=zbx h
    refine zbc (v:=zI r2) (vs:=[.string (⟨#[13,10]⟩:ByteArray),.int .i32 (p1.r:Int)]) rfl dc rfl rfl rfl zvg (zf5 hq3) (zaW rfl zeg (zyN ?_))
    refine zyB rfl h (fun h => ?_) (fun h => ?_)
    ·
     refine zyG (zyR 2 rfl (zyN (zaA (zal (zai (zal (zai ?_)))))))
     cases h
     exact zaF (rs:=[.tmp 4]) () (.inl rfl) Tryz.results134 (.cons (.tmp rfl) .nil) rfl Splits.nil
    refine zau (zah ?_)
    subst hag1
    exact za4 (n1,m3+1) h (Nat.lt_succ_self _) rfl (zba rfl) (zad [0] kr rfl)
   have h:=zha hb5 h
   refine zeW (k:=0) (m:=m3) rfl dc rfl rfl (Nat.le_of_not_lt (of_decide_eq_false hb5)) (zaJ rfl dc rfl rfl (zyN (zaH (zaT rfl (za9 (zap (zap (zaz ?_))))))))
   exact zaq () h rfl (zgA) Splits.nil
 rintro _ h
 rw [hj3] at h
 refine zyG (zyR 1 rfl (zyN (zaA ?_)))
 cases h
 exact zaF (rs:=[.tmp 4]) () (.inl rfl) Tryz.results134 (.cons (.tmp rfl) .nil) rfl Splits.nil
end Go.Proofs.YtbempdelckaccaaGreatDoor
