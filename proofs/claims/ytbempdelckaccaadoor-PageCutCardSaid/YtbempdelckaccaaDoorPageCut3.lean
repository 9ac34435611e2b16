/-
  Texts laid together: LpR, LfR, Qr, LpC, Pa, LpT, Pb, Pc, Pd, Pe. Nothing is assumed.
-/
import Derived.Test.YtbempdelckaccaaDoorPageCut2
set_option maxRecDepth 100000
set_option maxHeartbeats 4000000
namespace Go.Proofs.YtbempdelckaccaaDoor
abbrev zI (x : Int) : Value := .int .i64 x
abbrev zP (x : Nat) : Value := .pointer (some ⟨x, 0, none⟩)
end Go.Proofs.YtbempdelckaccaaDoor

namespace Go.Proofs.YtbempdelckaccaaDoor
open Go.RowKit Go.Lib
set_option linter.unusedVariables false
set_option linter.unusedSimpArgs false
theorem za0 {σ:List (Nat×Value)}:∀ {σ':List (Nat×Value)},σ'.map (fun p=>σ.lookup p.1)=σ'.map (fun p=>some p.2)→Sbs σ σ'
  | [],_=>zkj
  | (t,v)::σ',h=>zmc (List.cons.inj h).1 (za0 (List.cons.inj h).2)
theorem zcZ {α:Type} {a0 a1:α} {l l':List α} (h:l=l'):a0::a1::l=a0::a1::l':=by rw [h]
theorem zcw {α:Type} {a0 a1 a2:α} {l l':List α} (h:l=l'):a0::a1::a2::l=a0::a1::a2::l':=by rw [h]
theorem zfk {α:Type} {a0 a1 a2 a3:α} {l l':List α} (h:l=l'):a0::a1::a2::a3::l=a0::a1::a2::a3::l':=by rw [h]
theorem zni {α:Type} {a0 a1 a2 a3 a4:α} {l l':List α} (h:l=l'):a0::a1::a2::a3::a4::l=a0::a1::a2::a3::a4::l':=by rw [h]
theorem zsa {α:Type} {a0 a1 a2 a3 a4 a5:α} {l l':List α} (h:l=l'):a0::a1::a2::a3::a4::a5::l=a0::a1::a2::a3::a4::a5::l':=by rw [h]
theorem zuE {α:Type} {a0 a1 a2 a3 a4 a5 a6:α} {l l':List α} (h:l=l'):a0::a1::a2::a3::a4::a5::a6::l=a0::a1::a2::a3::a4::a5::a6::l':=by rw [h]
theorem zhG {α:Type} {a0 a1 a2 a3 a4 a5 a6 a7:α} {l l':List α} (h:l=l'):a0::a1::a2::a3::a4::a5::a6::a7::l=a0::a1::a2::a3::a4::a5::a6::a7::l':=by rw [h]
theorem zuV {α:Type} {a0 a1 a2 a3 a4 a5 a6 a7 a8:α} {l l':List α} (h:l=l'):a0::a1::a2::a3::a4::a5::a6::a7::a8::l=a0::a1::a2::a3::a4::a5::a6::a7::a8::l':=by rw [h]
theorem zle {α:Type} {a0 a1 a2 a3 a4 a5 a6 a7 a8 a9:α} {l l':List α} (h:l=l'):a0::a1::a2::a3::a4::a5::a6::a7::a8::a9::l=a0::a1::a2::a3::a4::a5::a6::a7::a8::a9::l':=by rw [h]
theorem zkr {α:Type} {a0 a1 a2 a3 a4 a5 a6 a7 a8 a9 a10:α} {l l':List α} (h:l=l'):a0::a1::a2::a3::a4::a5::a6::a7::a8::a9::a10::l=a0::a1::a2::a3::a4::a5::a6::a7::a8::a9::a10::l':=by rw [h]
theorem zsb {α:Type} {a0 a1 a2 a3 a4 a5 a6 a7 a8 a9 a10 a11:α} {l l':List α} (h:l=l'):a0::a1::a2::a3::a4::a5::a6::a7::a8::a9::a10::a11::l=a0::a1::a2::a3::a4::a5::a6::a7::a8::a9::a10::a11::l':=by rw [h]
theorem zts {D:Nat→Prop} {i0 t0 i1 t1:Nat} {v0 v1:Value} {r r':List (Nat×Nat×Value)} (h:dl D r=dl D r'):dl D ((i0,t0,v0)::(i1,t1,v1)::r)=dl D ((i0,t0,v0)::(i1,t1,v1)::r'):=zaq (fun _=>rfl) (zaq (fun _=>rfl) h)
theorem ztk {D:Nat→Prop} {i0 t0 i1 t1 i2 t2:Nat} {v0 v1 v2:Value} {r r':List (Nat×Nat×Value)} (h:dl D r=dl D r'):dl D ((i0,t0,v0)::(i1,t1,v1)::(i2,t2,v2)::r)=dl D ((i0,t0,v0)::(i1,t1,v1)::(i2,t2,v2)::r'):=zaq (fun _=>rfl) (zaq (fun _=>rfl) (zaq (fun _=>rfl) h))
theorem zmf {D:Nat→Prop} {i0 t0 i1 t1 i2 t2 i3 t3:Nat} {v0 v1 v2 v3:Value} {r r':List (Nat×Nat×Value)} (h:dl D r=dl D r'):dl D ((i0,t0,v0)::(i1,t1,v1)::(i2,t2,v2)::(i3,t3,v3)::r)=dl D ((i0,t0,v0)::(i1,t1,v1)::(i2,t2,v2)::(i3,t3,v3)::r'):=zaq (fun _=>rfl) (zaq (fun _=>rfl) (zaq (fun _=>rfl) (zaq (fun _=>rfl) h)))
theorem zmg {D:Nat→Prop} {i0 t0 i1 t1 i2 t2 i3 t3 i4 t4:Nat} {v0 v1 v2 v3 v4:Value} {r r':List (Nat×Nat×Value)} (h:dl D r=dl D r'):dl D ((i0,t0,v0)::(i1,t1,v1)::(i2,t2,v2)::(i3,t3,v3)::(i4,t4,v4)::r)=dl D ((i0,t0,v0)::(i1,t1,v1)::(i2,t2,v2)::(i3,t3,v3)::(i4,t4,v4)::r'):=zaq (fun _=>rfl) (zaq (fun _=>rfl) (zaq (fun _=>rfl) (zaq (fun _=>rfl) (zaq (fun _=>rfl) h))))
theorem zsc {D:Nat→Prop} {i0 t0 i1 t1 i2 t2 i3 t3 i4 t4 i5 t5:Nat} {v0 v1 v2 v3 v4 v5:Value} {r r':List (Nat×Nat×Value)} (h:dl D r=dl D r'):dl D ((i0,t0,v0)::(i1,t1,v1)::(i2,t2,v2)::(i3,t3,v3)::(i4,t4,v4)::(i5,t5,v5)::r)=dl D ((i0,t0,v0)::(i1,t1,v1)::(i2,t2,v2)::(i3,t3,v3)::(i4,t4,v4)::(i5,t5,v5)::r'):=zaq (fun _=>rfl) (zaq (fun _=>rfl) (zaq (fun _=>rfl) (zaq (fun _=>rfl) (zaq (fun _=>rfl) (zaq (fun _=>rfl) h)))))
theorem zi4 {D:Nat→Prop} {i0 t0 i1 t1 i2 t2 i3 t3 i4 t4 i5 t5 i6 t6:Nat} {v0 v1 v2 v3 v4 v5 v6:Value} {r r':List (Nat×Nat×Value)} (h:dl D r=dl D r'):dl D ((i0,t0,v0)::(i1,t1,v1)::(i2,t2,v2)::(i3,t3,v3)::(i4,t4,v4)::(i5,t5,v5)::(i6,t6,v6)::r)=dl D ((i0,t0,v0)::(i1,t1,v1)::(i2,t2,v2)::(i3,t3,v3)::(i4,t4,v4)::(i5,t5,v5)::(i6,t6,v6)::r'):=zaq (fun _=>rfl) (zaq (fun _=>rfl) (zaq (fun _=>rfl) (zaq (fun _=>rfl) (zaq (fun _=>rfl) (zaq (fun _=>rfl) (zaq (fun _=>rfl) h))))))
theorem zir {D:Nat→Prop} {i0 t0 i1 t1 i2 t2 i3 t3 i4 t4 i5 t5 i6 t6 i7 t7:Nat} {v0 v1 v2 v3 v4 v5 v6 v7:Value} {r r':List (Nat×Nat×Value)} (h:dl D r=dl D r'):dl D ((i0,t0,v0)::(i1,t1,v1)::(i2,t2,v2)::(i3,t3,v3)::(i4,t4,v4)::(i5,t5,v5)::(i6,t6,v6)::(i7,t7,v7)::r)=dl D ((i0,t0,v0)::(i1,t1,v1)::(i2,t2,v2)::(i3,t3,v3)::(i4,t4,v4)::(i5,t5,v5)::(i6,t6,v6)::(i7,t7,v7)::r'):=zaq (fun _=>rfl) (zaq (fun _=>rfl) (zaq (fun _=>rfl) (zaq (fun _=>rfl) (zaq (fun _=>rfl) (zaq (fun _=>rfl) (zaq (fun _=>rfl) (zaq (fun _=>rfl) h)))))))
theorem zuW {D:Nat→Prop} {i0 t0 i1 t1 i2 t2 i3 t3 i4 t4 i5 t5 i6 t6 i7 t7 i8 t8:Nat} {v0 v1 v2 v3 v4 v5 v6 v7 v8:Value} {r r':List (Nat×Nat×Value)} (h:dl D r=dl D r'):dl D ((i0,t0,v0)::(i1,t1,v1)::(i2,t2,v2)::(i3,t3,v3)::(i4,t4,v4)::(i5,t5,v5)::(i6,t6,v6)::(i7,t7,v7)::(i8,t8,v8)::r)=dl D ((i0,t0,v0)::(i1,t1,v1)::(i2,t2,v2)::(i3,t3,v3)::(i4,t4,v4)::(i5,t5,v5)::(i6,t6,v6)::(i7,t7,v7)::(i8,t8,v8)::r'):=zaq (fun _=>rfl) (zaq (fun _=>rfl) (zaq (fun _=>rfl) (zaq (fun _=>rfl) (zaq (fun _=>rfl) (zaq (fun _=>rfl) (zaq (fun _=>rfl) (zaq (fun _=>rfl) (zaq (fun _=>rfl) h))))))))
theorem zqA {D:Nat→Prop} {i0 t0 i1 t1 i2 t2 i3 t3 i4 t4 i5 t5 i6 t6 i7 t7 i8 t8 i9 t9:Nat} {v0 v1 v2 v3 v4 v5 v6 v7 v8 v9:Value} {r r':List (Nat×Nat×Value)} (h:dl D r=dl D r'):dl D ((i0,t0,v0)::(i1,t1,v1)::(i2,t2,v2)::(i3,t3,v3)::(i4,t4,v4)::(i5,t5,v5)::(i6,t6,v6)::(i7,t7,v7)::(i8,t8,v8)::(i9,t9,v9)::r)=dl D ((i0,t0,v0)::(i1,t1,v1)::(i2,t2,v2)::(i3,t3,v3)::(i4,t4,v4)::(i5,t5,v5)::(i6,t6,v6)::(i7,t7,v7)::(i8,t8,v8)::(i9,t9,v9)::r'):=zaq (fun _=>rfl) (zaq (fun _=>rfl) (zaq (fun _=>rfl) (zaq (fun _=>rfl) (zaq (fun _=>rfl) (zaq (fun _=>rfl) (zaq (fun _=>rfl) (zaq (fun _=>rfl) (zaq (fun _=>rfl) (zaq (fun _=>rfl) h)))))))))
theorem zsd {D:Nat→Prop} {i0 t0 i1 t1 i2 t2 i3 t3 i4 t4 i5 t5 i6 t6 i7 t7 i8 t8 i9 t9 i10 t10:Nat} {v0 v1 v2 v3 v4 v5 v6 v7 v8 v9 v10:Value} {r r':List (Nat×Nat×Value)} (h:dl D r=dl D r'):dl D ((i0,t0,v0)::(i1,t1,v1)::(i2,t2,v2)::(i3,t3,v3)::(i4,t4,v4)::(i5,t5,v5)::(i6,t6,v6)::(i7,t7,v7)::(i8,t8,v8)::(i9,t9,v9)::(i10,t10,v10)::r)=dl D ((i0,t0,v0)::(i1,t1,v1)::(i2,t2,v2)::(i3,t3,v3)::(i4,t4,v4)::(i5,t5,v5)::(i6,t6,v6)::(i7,t7,v7)::(i8,t8,v8)::(i9,t9,v9)::(i10,t10,v10)::r'):=zaq (fun _=>rfl) (zaq (fun _=>rfl) (zaq (fun _=>rfl) (zaq (fun _=>rfl) (zaq (fun _=>rfl) (zaq (fun _=>rfl) (zaq (fun _=>rfl) (zaq (fun _=>rfl) (zaq (fun _=>rfl) (zaq (fun _=>rfl) (zaq (fun _=>rfl) h))))))))))
theorem zcx {D:Nat→Prop} {i0 t0 i1 t1 i2 t2 i3 t3 i4 t4 i5 t5 i6 t6 i7 t7 i8 t8 i9 t9 i10 t10 i11 t11:Nat} {v0 v1 v2 v3 v4 v5 v6 v7 v8 v9 v10 v11:Value} {r r':List (Nat×Nat×Value)} (h:dl D r=dl D r'):dl D ((i0,t0,v0)::(i1,t1,v1)::(i2,t2,v2)::(i3,t3,v3)::(i4,t4,v4)::(i5,t5,v5)::(i6,t6,v6)::(i7,t7,v7)::(i8,t8,v8)::(i9,t9,v9)::(i10,t10,v10)::(i11,t11,v11)::r)=dl D ((i0,t0,v0)::(i1,t1,v1)::(i2,t2,v2)::(i3,t3,v3)::(i4,t4,v4)::(i5,t5,v5)::(i6,t6,v6)::(i7,t7,v7)::(i8,t8,v8)::(i9,t9,v9)::(i10,t10,v10)::(i11,t11,v11)::r'):=zaq (fun _=>rfl) (zaq (fun _=>rfl) (zaq (fun _=>rfl) (zaq (fun _=>rfl) (zaq (fun _=>rfl) (zaq (fun _=>rfl) (zaq (fun _=>rfl) (zaq (fun _=>rfl) (zaq (fun _=>rfl) (zaq (fun _=>rfl) (zaq (fun _=>rfl) (zaq (fun _=>rfl) h)))))))))))
def ztl (lk:Nat→Option Value):Operand→Option Value
  | .tmp t=>lk t
  | .const v=>some v
  | .func f=>some (.func (.func f) #[] #[])
  | .global _=>none
def zuF (lk:Nat→Option Value) (ops:Array Oper):Option (Nat×Bool)→Option Bool
  | none=>some true
  | some (j,b)=>match (ops[j]?).bind (·.dst) with
    | some t=>match lk t with
      | some (.bool c)=>some (c==b)
      | some (.tuple _)=>some false
      | _=>none
    | none=>none
def ztt (lk:Nat→Option Value) (N:Nat) (ops:Array Oper) (o:Oper):Option (Nat×Value) :=
  match o.dst with
  | none=>none
  | some d=>match Nat.blt d N with
    | false=>none
    | true=>match zuF lk ops o.guard with
      | none=>none
      | some false=>some (d,undef)
      | some true=>match o.op with
        | .move x=>match ztl lk x with
          | some v=>some (d,v)
          | none=>none
        | .assign x=>match ztl lk x with
          | some v=>some (d,v)
          | none=>none
        | .pick x y z=>match ztl lk x with
          | some (.bool true)=>match ztl lk y with
            | some v=>some (d,v)
            | none=>none
          | some (.bool false)=>match ztl lk z with
            | some v=>some (d,v)
            | none=>none
          | _=>none
        | _=>none
theorem zis {lk:Nat→Option Value} {S:List (Nat×Value)} (hl:∀ t v,lk t=some v→S.lookup t=some v) {x:Operand} {v:Value} (h:ztl lk x=some v):ev S x=some v:=by
  cases x with
  | tmp t=>exact hl t v h
  | const c=>exact h
  | func f=>exact h
  | global g=>exact h
theorem zse {lk:Nat→Option Value} {S:List (Nat×Value)} {ops:Array Oper} (hl:∀ t v,lk t=some v→S.lookup t=some v) {g:Option (Nat×Bool)} {r:Bool} (h:zuF lk ops g=some r):gd ops S g=some r:=by
  cases g with
  | none=>exact h
  | some p =>
    obtain ⟨j,b⟩:=p
    unfold zuF at h; unfold gd
    dsimp only at h ⊢
    cases ht:(ops[j]?).bind (·.dst) with
    | none=>rw [ht] at h; cases h
    | some t =>
      rw [ht] at h; dsimp only at h ⊢
      cases hk:lk t with
      | none=>rw [hk] at h; cases h
      | some v=>rw [hk] at h; rw [hl t v hk]; exact h
theorem zlf {F:Fence} [WideF F] {P:Program} {w0:World} {K:Nat→Prop} {N:Nat} {dfs:List Deferred} {ops:Array Oper} {Q:Exit→Act→World→Prop} {rest:List Oper} {lk:Nat→Option Value} {S:List (Nat×Value)} {L:List Asn} {o:Oper} {t:Nat} {v:Value}
    (hl:∀ t v,lk t=some v→S.lookup t=some v) (e:ztt lk N ops o=some (t,v)) (h:TO F P w0 K N dfs ops Q rest ((t,v)::S) L):TO F P w0 K N dfs ops Q (o::rest) S L:=by
  obtain ⟨dst,op,ty,pos,aft,g⟩:=o
  unfold ztt at e
  cases dst with
  | none=>cases e
  | some d =>
    dsimp only at e
    cases hb:Nat.blt d N with
    | false=>rw [hb] at e; cases e
    | true =>
    have hd:d<N:=Nat.lt_of_lt_of_le (Nat.lt_succ_self d) (Nat.le_of_ble_eq_true hb)
    rw [hb] at e; dsimp only at e
    cases hg:zuF lk ops g with
    | none=>rw [hg] at e; cases e
    | some gb =>
      rw [hg] at e
      have hg':=zse hl hg
      cases gb with
      | false=>cases e; exact zte hg' hd h
      | true =>
        cases op <;> dsimp only at e <;> first | (cases e; done) | skip
        · split at e
          · cases e; exact ze4 hg' hd (zis hl (by assumption)) h
          · cases e
        · split at e
          · cases e; exact zne hg' hd (zis hl (by assumption)) h
          · cases e
        · split at e
          · split at e
            · cases e; exact zqm (b:=true) hg' hd (zis hl (by assumption)) (zis hl (by assumption)) h
            · cases e
          · split at e
            · cases e; exact zqm (b:=false) hg' hd (zis hl (by assumption)) (zis hl (by assumption)) h
            · cases e
          · cases e
def zuX (N:Nat) (ops:Array Oper):Nat→List Oper→List (Nat×Value)→Option (List Oper×List (Nat×Value))
  | 0,r,σ=>some (r,σ)
  | n+1,o::r,σ=>match ztt (fun t=>σ.lookup t) N ops o with
    | some p=>zuX N ops n r (p::σ)
    | none=>none
  | _+1,[],_=>none
theorem zyR {F:Fence} [WideF F] {P:Program} {w0:World} {K:Nat→Prop} {N:Nat} {dfs:List Deferred} {ops:Array Oper} {Q:Exit→Act→World→Prop} {L:List Asn} (n:Nat):∀ {rest rest':List Oper} {σ σ':List (Nat×Value)},
    zuX N ops n rest σ=some (rest',σ')→TO F P w0 K N dfs ops Q rest' σ' L→TO F P w0 K N dfs ops Q rest σ L:=by
  induction n with
  | zero=>intro rest rest' σ σ' e h; cases e; exact h
  | succ n ih =>
    intro rest rest' σ σ' e h
    cases rest with
    | nil=>cases e
    | cons o r =>
      simp only [zuX] at e
      split at e
      · exact zlf (fun _ _ h=>h) (by assumption) (ih e h)
      · cases e
def ztu (deps:List Nat) (σ:List (Nat×Value)) (t:Nat):List (Nat×Nat×Value)→Option Value
  | []=>σ.lookup t
  | (i,t',v)::r=>match Nat.beq t t' with
    | true=>match deps.contains i with
      | true=>some v
      | false=>none
    | false=>ztu deps σ t r
theorem zlg {D:Nat→Prop} {deps:List Nat} {σ:List (Nat×Value)} (hd:∀ j∈deps,D j) (t:Nat) (v:Value):∀ {vals:List (Nat×Nat×Value)},ztu deps σ t vals=some v→(dl D vals++σ).lookup t=some v
  | [],h=>h
  | (i,t',v')::r,h=>by
    unfold ztu at h
    cases hb:Nat.beq t t' with
    | true =>
      rw [hb] at h; dsimp only at h
      have e:t=t':=Nat.eq_of_beq_eq_true hb
      subst e
      split at h
      · cases h
        have hD:D i:=hd i (by simpa using (by assumption:deps.contains i=true))
        simp only [dl]
        rw [if_pos hD]
        simp
      · cases h
    | false =>
      rw [hb] at h; dsimp only at h
      have ih:=zlg (σ:=σ) hd t v h
      have hn:(t==t')=false:=by
        have:t≠t':=Nat.ne_of_beq_eq_false hb
        simpa using this
      simp only [dl]
      split
      · simp only [List.cons_append,List.lookup,hn]; exact ih
      · exact ih
def zqB (N:Nat) (ops:Array Oper) (σ:List (Nat×Value)) (vals:List (Nat×Nat×Value)):Nat→List Oper→Nat→Option (List Oper×Nat×List (Nat×Nat×Value))
  | 0,r,i=>some (r,i,[])
  | n+1,o::r,i=>match ztt (fun t=>ztu (zcV o) σ t vals) N ops o with
    | some p=>match zqB N ops σ vals n r (i+1) with
      | some q=>some (q.1,q.2.1,(i,p.1,p.2)::q.2.2)
      | none=>none
    | none=>none
  | _+1,[],_=>none
section
variable {F:Fence} {P:Program} {w0:World} {K:Nat→Prop} {N:Nat} {dfs:List Deferred} {Q:Exit→Act→World→Prop} {σ:List (Nat×Value)} {L:List Asn} {ops:Array Oper}
theorem zhI {vals:List (Nat×Nat×Value)} {n m i i':Nat} {o:Oper} {r rest':List Oper} (e:zqB N ops σ vals (n+1) (o::r) i=some (rest',i',(vals.drop m).take (n+1))) :
    ∃ t v,ztt (fun t=>ztu (zcV o) σ t vals) N ops o=some (t,v)∧vals[m]?=some (i,t,v)∧zqB N ops σ vals n r (i+1)=some (rest',i',(vals.drop (m+1)).take n):=by
  simp only [zqB] at e
  split at e
  · rename_i p hp
    split at e
    · rename_i q hq
      obtain ⟨q1,q2,q3⟩:=q
      simp only [Option.some.injEq,Prod.mk.injEq] at e
      obtain ⟨rfl,rfl,e⟩:=e
      cases hdr:vals.drop m with
      | nil=>rw [hdr] at e; simp at e
      | cons x xs =>
        rw [hdr,List.take_succ_cons,List.cons.injEq] at e
        have hm:vals[m]?=some x:=by
          have:(vals.drop m)[0]?=some x:=by rw [hdr]; rfl
          simpa using this
        refine ⟨p.1,p.2,hp,by rw [hm,← e.1],?_⟩
        have:vals.drop (m+1)=xs:=by rw [← List.drop_drop,hdr]; rfl
        rw [this,← e.2]; exact hq
    · cases e
  · cases e
theorem zyP [WideF F] {vals:List (Nat×Nat×Value)} (n m:Nat):∀ {l rest':List Oper} {i i':Nat},zqB N ops σ vals n l i=some (rest',i',(vals.drop m).take n) →
    DrawPre F P w0 K N dfs Q ops σ L vals rest' i'→DrawPre F P w0 K N dfs Q ops σ L vals l i:=by
  induction n generalizing m with
  | zero=>intro l rest' i i' e h; cases e; exact h
  | succ n ih =>
    intro l rest' i i' e h
    cases l with
    | nil=>cases e
    | cons o r =>
      obtain ⟨t,v,h1,h2,h3⟩:=zhI e
      exact zad (fun D hn hd hcl hu hi=>zlf (fun t v h=>zlg hd t v h) h1 (zaf m hu hi h2)) (ih (m+1) h3 h)
theorem zyE [WideF F] {vals:List (Nat×Nat×Value)} {x:Nat} (n m:Nat):∀ {l rest':List Oper} {i i':Nat},zqB N ops σ vals n l i=some (rest',i',(vals.drop m).take n) →
    DrawPreX F P w0 K N dfs Q ops σ L vals x rest' i'→DrawPreX F P w0 K N dfs Q ops σ L vals x l i:=by
  induction n generalizing m with
  | zero=>intro l rest' i i' e h; cases e; exact h
  | succ n ih =>
    intro l rest' i i' e h
    cases l with
    | nil=>cases e
    | cons o r =>
      obtain ⟨t,v,h1,h2,h3⟩:=zhI e
      exact zah (fun D hn hd hcl hu hi=>zlf (fun t v h=>zlg hd t v h) h1 (zaf m hu hi h2)) (ih (m+1) h3 h)
def zyQ {β:Type} (S:List Nat) (LL:(Nat→Prop)→β→List Asn):Prop:=∀ i,S.contains i=false→∀ D b,LL (fun j=>D j∨j=i) b=LL D b
theorem zjd {D:Nat→Prop} {i:Nat} {base:Asn} {r:List (Nat×Asn)} {S:List Nat} (hs:(r.map Prod.fst).all (fun x=>S.contains x)=true) (h:S.contains i=false):eD (fun j=>D j∨j=i) base r=eD D base r:=by
  refine zao ?_
  cases hc:(r.map Prod.fst).contains i with
  | false=>rfl
  | true =>
    have h1:i∈r.map Prod.fst:=by simpa using hc
    have h2:=List.all_eq_true.1 hs i h1
    have h3:S.contains i=true:=h2
    rw [h] at h3; cases h3
theorem zuY {β:Type} {vals:β→List (Nat×Nat×Value)} {LL:(Nat→Prop)→β→List Asn} (hb:¬ Nonempty β):∀ (l:List Oper) (i:Nat),DrawG F P w0 K N dfs Q ops σ vals LL l i
  | [],_=>trivial
  | o::r,i=>⟨fun D b=>absurd ⟨b⟩ hb,zuY hb r (i+1)⟩
theorem zyq {β:Type} {vals:β→List (Nat×Nat×Value)} {LL:(Nat→Prop)→β→List Asn} {S:List Nat} {o:Oper} {rest:List Oper} {i:Nat} (hq:zyQ S LL) (hs:S.contains i=false)
    (hu:∀ b,zcF ((vals b).map (fun p=>p.2.1))=true) (hi:∀ b,zcF ((vals b).map (fun p=>p.1))=true)
    (h:∀ (D:Nat→Prop) (b:β),¬ D i→(∀ j∈zcV o,D j)→Clo ops D→zcF ((vals b).map (fun p=>p.2.1))=true→zcF ((vals b).map (fun p=>p.1))=true →
      TO F P w0 K N dfs ops (Exit.then (fun a w=>At N dfs (dl (fun j=>D j∨j=i) (vals b)++σ) a∧Holds w0 K (LL D b) w) Q) [o] (dl D (vals b)++σ) (LL D b))
    (hr:DrawG F P w0 K N dfs Q ops σ vals LL rest (i+1)):DrawG F P w0 K N dfs Q ops σ vals LL (o::rest) i :=
  zat (fun D b hn hd hcl a w ha hw=>by
    have h0:=h D b hn hd hcl (hu b) (hi b) a w ha hw
    exact zbR (fun a' w' h2=>⟨b,h2.1,by rw [hq i hs D b]; exact h2.2⟩) h0) hr
theorem zld [WideF F] {β:Type} {vals:β→List (Nat×Nat×Value)} {LL:(Nat→Prop)→β→List Asn} {S:List Nat} (hq:zyQ S LL)
    (hu:∀ b,zcF ((vals b).map (fun p=>p.2.1))=true) (hi:∀ b,zcF ((vals b).map (fun p=>p.1))=true) (n m:Nat):∀ {l rest':List Oper} {i i':Nat},
    (∀ b,zqB N ops σ (vals b) n l i=some (rest',i',((vals b).drop m).take n))→(List.range n).all (fun j=>!S.contains (i+j))=true →
    DrawG F P w0 K N dfs Q ops σ vals LL rest' i'→DrawG F P w0 K N dfs Q ops σ vals LL l i:=by
  induction n generalizing m with
  | zero =>
    intro l rest' i i' e hs h
    by_cases hb:Nonempty β
    · obtain ⟨b⟩:=hb
      have e:=e b
      simp only [zqB,Option.some.injEq,Prod.mk.injEq] at e
      obtain ⟨rfl,rfl,_⟩:=e
      exact h
    · exact zuY hb _ _
  | succ n ih =>
    intro l rest' i i' e hs h
    by_cases hb:Nonempty β
    · obtain ⟨b0⟩:=hb
      cases l with
      | nil=>exact absurd (e b0) (by simp [zqB])
      | cons o r =>
        have hs0:S.contains i=false:=by
          have:=List.all_eq_true.1 hs 0 (by simp)
          simpa using this
        have hs1:(List.range n).all (fun j=>!S.contains (i+1+j))=true:=by
          refine List.all_eq_true.2 fun j hj => ?_
          have:=List.all_eq_true.1 hs (j+1) (by simp at hj ⊢; omega)
          rwa [show i+(j+1)=i+1+j by omega] at this
        refine zyq hq hs0 hu hi (fun D b hn hd hcl hu' hi' => ?_) (ih (m+1) (fun b => ?_) hs1 h)
        · obtain ⟨t,v,h1,h2,h3⟩:=zhI (e b)
          exact zlf (fun t v h=>zlg hd t v h) h1 (zaf m hu' hi' h2)
        · obtain ⟨t,v,h1,h2,h3⟩:=zhI (e b)
          exact h3
    · exact zuY hb _ _
end
section
variable {F:Fence} {P:Program} {w0:World} {K:Nat→Prop} {N:Nat} {dfs:List Deferred} {Q:Exit→Act→World→Prop} {σ:List (Nat×Value)} {L:List Asn} {ops:Array Oper}
theorem ziq {β:Type} {vals:β→List (Nat×Nat×Value)} {LL:(Nat→Prop)→β→List Asn} {S:List Nat} {o:Oper} {rest:List Oper} {i:Nat} (hq:zyQ S LL) (hs:S.contains i=false)
    (hu:∀ b,zcF ((vals b).map (fun p=>p.2.1))=true) (hi:∀ b,zcF ((vals b).map (fun p=>p.1))=true)
    (h:∀ (D:Nat→Prop) (b:β),¬ D i→(∀ j∈zcV o,D j)→Clo ops D→zcF ((vals b).map (fun p=>p.2.1))=true→zcF ((vals b).map (fun p=>p.1))=true→∃ L',LL D b=L' ∧
      TO F P w0 K N dfs ops (Exit.then (fun a w=>At N dfs (dl (fun j=>D j∨j=i) (vals b)++σ) a∧Holds w0 K L' w) Q) [o] (dl D (vals b)++σ) L')
    (hr:DrawG F P w0 K N dfs Q ops σ vals LL rest (i+1)):DrawG F P w0 K N dfs Q ops σ vals LL (o::rest) i :=
  zyq hq hs hu hi (fun D b hn hd hcl hu hi=>by obtain ⟨L',e,h0⟩:=h D b hn hd hcl hu hi; rw [e]; exact h0) hr
end
section
variable {R:Type} {F:Fence} {P:Program} {w0:World} {K:Nat→Prop} {N:Nat} {dfs:List Deferred} {ops:Array Oper} {Q:Exit→Act→World→Prop} {rest:List Oper} {σ:List (Nat×Value)} {L:List Asn} {x:Operand} {c c1 c2:Code} {p q:Option R} {r:R} {b:Bool}
theorem zyB (hc:ev σ x=some (.bool b)) (h:zaw b p q=some r) (ht:p=some r→TC F P w0 K N dfs Q c1 σ L) (hf:q=some r→TC F P w0 K N dfs Q c2 σ L):TC F P w0 K N dfs Q (.cond x c1 c2) σ L:=zrq hc (fun e=>ht (zgv e h)) (fun e=>hf (zgw e h))
theorem zaT [WideF F] {b:BinOp} {t yt ty:TypeId} {d:Nat} {pos:String} {aft:Array Edge} {g:Option (Nat×Bool)} {x y:Operand} {v v1 v2:Value} (e:(gd ops σ g,decide (d<N),ev σ x,ev σ y)=(some true,true,some v1,some v2))
    (hb:∀ w:World,(do eqGuard b t x y v1 v2; binOp b t v1 v2:Sem Value).run P w=.ok v w) (h:TO F P w0 K N dfs ops Q rest ((d,v)::σ) L) :
    TO F P w0 K N dfs ops Q (⟨some d,.binOp b t x y yt,ty,pos,aft,g⟩::rest) σ L:=by
  simp only [Prod.mk.injEq] at e
  exact zbM e.1 (of_decide_eq_true e.2.1) e.2.2.1 e.2.2.2 hb h
theorem zyN (h:TC F P w0 K N dfs Q c σ L):TO F P w0 K N dfs ops (Exit.then (c.wpIn F 0 P Q) Q) [] σ L:=zaR (zaL h)
theorem zyG {id:Nat} {l:List Oper} (h:TO F P w0 K N dfs l.toArray (Exit.then (c.wpIn F 0 P Q) Q) l σ L):TC F P w0 K N dfs Q (.seq (.region id l.toArray false) c) σ L:=zaJ (zax h)
theorem zyH {id:Nat} {l:List Oper} (h:TO F P w0 K N dfs l.toArray (Exit.then (c.wpIn F 0 P Q) Q) l σ L):TO F P w0 K N dfs ops (Exit.then ((Code.seq (.region id l.toArray false) c).wpIn F 0 P Q) Q) [] σ L:=zaR (zaL (zaJ (zax h)))
theorem zyS {s:Nat} (hs:σ.lookup s=some (.bool b)) (h:zaw b p q=some r) (ht:p=some r→TO F P w0 K N dfs ops Q rest ((s,.bool true)::σ) L) (hf:q=some r→TO F P w0 K N dfs ops Q rest ((s,.bool false)::σ) L):TO F P w0 K N dfs ops Q rest σ L:=zrn hs (fun e=>ht (zgv e h)) (fun e=>hf (zgw e h))
theorem zyO (h:zaw b p q=some r) (ht:p=some r→TO F P w0 K N dfs ops Q rest σ L) (hf:q=some r→TO F P w0 K N dfs ops Q rest σ L):TO F P w0 K N dfs ops Q rest σ L:=zfe (b:=b) (fun e=>ht (zgv e h)) (fun e=>hf (zgw e h))
theorem zyC (h:zaw b p q=some r) (ht:p=some r→TC F P w0 K N dfs Q c σ L) (hf:q=some r→TC F P w0 K N dfs Q c σ L):TC F P w0 K N dfs Q c σ L:=zd8 (b:=b) (fun e=>ht (zgv e h)) (fun e=>hf (zgw e h))
abbrev zwI (F:Fence) (P:Program) (w0:World) (K:Nat→Prop) (N:Nat) (dfs:List Deferred) (ops:Array Oper) (Q:Exit→Act→World→Prop) (rest:List Oper) (σ:List (Nat×Value)) (L:List Asn):Prop:=TO F P w0 K N dfs ops Q rest σ L
end
abbrev zr0 (x:Gapi_Layout):List Value:=[zI x.Width,zI x.Height,zI x.Turn,zI x.Every]
abbrev zr1 (x:Gapi_Cell):List Value:=[zI x.Span_From,zI x.Span_To,zI x.Columns]
abbrev zr2 (x:Gapi_Piece):List Value:=[zI x.At,zI x.Width,.int .i32 x.Rune,.bool x.Broken]
abbrev zr3 (x:Gapi_Verse):List Value:=[.string x.Text,zI x.Indent,zI x.Stanza,zI x.In,zI x.Span_From,zI x.Span_To]
abbrev zr4 (x:Gapi_Row):List Value:=[zI x.Line,zI x.Stanza,zI x.Part,zI x.Indent,zI x.Number,.string x.Text]
abbrev zr5 (x:Gapi_Span):List Value:=[zI x.From,zI x.To]
abbrev zr6 (x:Gapi_Spot):List Value:=[zI x.Err,zI x.At]
abbrev zr7 (x:Gpage_best):List Value:=[zI x.cost,zI x.rows,zI x.to_]
abbrev zv0 (v:Value):=vec (znE (.i64)) 3 1 v
abbrev zv1 (v:Value):=vec zcT 38 6 v
abbrev zv2 (v:Value):=vec zeo 106 3 v
abbrev zv3 (v:Value):=vec zdn 132 4 v
abbrev zv4 (v:Value):=vec zd5 130 5 v
abbrev zv5 (v:Value):=vec zoV 9 1 v
abbrev zv6 (v:Value):=vec zdv 55 2 v
abbrev zv7 (v:Value):=vec zbr 57 6 v
abbrev zv8 (v:Value):=vec zho 138 3 v
abbrev zv9 (v:Value):=vec zd0 144 5 v
abbrev zru (v:Value):=vec zd1 173 3 v
def zeS (r1:Int):Option Int :=
zbl (fun (j1:Option Int) =>
zaw ((r1:Int) != 65533) (
zaw (decide (Utf8.encode r1=(⟨#[239,191,189]⟩:ByteArray))) (
some 0
) (
j1
)
) (
j1
)
) (
some ((Utf8.encode r1).size:Int)
)
theorem zkx {r1:Int} {r:Int} (h:zeS r1=some r):FnP Tryd.prog 117 [.int .i32 r1] (zI r):=by
 unfold zeS at h
 refine FnP.intro Tryd.func117 rfl Tryd.ntmps117 (by simp) ?_
 intro w0 K
 obtain ⟨j1,hj1,h⟩:=zbK h
 refine zaX (β:=Unit) 1 rfl (fun b=>j1=some r) (fun b=>[]) (fun b=>[(0,.int .i32 r1)]) (fun b=>[]) (fun cut => ?_) ?_
 ·
  refine zyG (zyR 1 rfl (zyN (cut (zyG (zyR 1 rfl (zaT rfl zce (zyR 1 rfl ?_)))))))
  refine zyS (s:=5) rfl h (fun h => ?_) (fun h => ?_)
  ·
   refine zyR 1 rfl (zqo rfl dc rfl (zm8 Tryd.underlying21 Tryd.underlying9) (zaT rfl zg8 (zyR 1 rfl (zyN ?_))))
   refine zyB rfl h (fun h => ?_) (fun h => ?_)
   ·
    refine zyG (zyR 1 rfl (zyN (zaI (zau ?_))))
    cases h
    exact zaK (rs:=[.tmp 2]) () (.inl rfl) Tryd.results117 (.cons (.tmp rfl) .nil) rfl Splits.nil
   refine zas ?_
   exact zak () h rfl (za0 rfl) Splits.nil
  refine zyR 4 rfl (zyN (zaN rfl (zas ?_)))
  exact zak () h rfl (za0 rfl) Splits.nil
 rintro _ h
 rw [hj1] at h
 refine zyG (zyR 1 rfl (zqo rfl dc rfl (zm8 Tryd.underlying21 Tryd.underlying9) (zb6 rfl dc rfl Tryd.underlying9 (zyR 1 rfl (zyN (zaI ?_))))))
 cases h
 exact zaK (rs:=[.tmp 2]) () (.inl rfl) Tryd.results117 (.cons (.tmp rfl) .nil) rfl Splits.nil
def zek (s1:ByteArray) (at1:Int) (j1:Option Gapi_Piece) (ag1:Option Gapi_Piece):Option Gapi_Piece :=
zaw (decide (0<(pcs (zbT s1 at1 (s1.size:Int)).data.toList).length)) (
zal ((pcs (zbT s1 at1 (s1.size:Int)).data.toList)[0]?) fun (p1:Pc) =>
zbl (fun (j2:Int→Option Gapi_Piece) =>
zal (zeS (p1.r:Int)) fun (r1:Int) =>
zaw (((p1.r:Int):Int)==65533) (
grd (I64 ((s1.size:Int) - at1)) <|
zaw (decide ((((s1.size:Int) - at1):Int)<3)) (
some (⟨at1,1,65533,true⟩:Gapi_Piece)
) (
grd (I64 (at1+3)) <|
grd (0≤(at1:Int)∧(at1:Int)≤(at1+3)∧(at1+3:Int)≤(s1.size:Int)) <|
zaw (!decide (zbT s1 at1 (at1+3)=(⟨#[239,191,189]⟩:ByteArray))) (
some (⟨at1,1,65533,true⟩:Gapi_Piece)
) (
j2 r1
)
)
) (
j2 r1
)
) (fun (n2:Int) =>
some (⟨at1,n2,(p1.r:Int),false⟩:Gapi_Piece)
)
) (
j1
)
def zeI (s1:ByteArray) (at1:Int):Option Gapi_Piece :=
zbl (fun (j1:Option Gapi_Piece) =>
grd (0≤(at1:Int)∧(at1:Int)≤(s1.size:Int)∧((s1.size:Int):Int)≤(s1.size:Int)) <|
zaF none (zek s1 at1 j1) zbW
) (
some (⟨0,0,0,false⟩:Gapi_Piece)
)
theorem zlt {s1:ByteArray} {at1:Int} {r:Gapi_Piece} (h:zeI s1 at1=some r):FnP Tryd.prog 113 [.string s1,zI at1] (.agg (zr2 r).toArray):=by
 unfold zeI at h
 refine FnP.intro Tryd.func113 rfl Tryd.ntmps113 (by simp) ?_
 intro w0 K
 obtain ⟨j1,hj1,h⟩:=zbK h
 refine zaX (β:=Nat) 1 rfl (fun b=>j1=some r) (fun b=>[]) (fun b=>[(4,zP b)]) (fun b=>[cells b [zI 0,zI 0,.int .i32 0,.bool false] 187]) (fun cut => ?_) ?_
 ·
  refine zyG ?_
  refine zbt zoZ rfl dc (fun b2 => ?_)
  refine zyN (cut (zyG (zyR 2 rfl ?_)))
  obtain ⟨hg1,h⟩:=zbk h
  refine zdx rfl dc rfl rfl rfl (zbZ (i:=at1) (j:=(s1.size:Int)) Tryd.underlying9 (.inr rfl) (.inl ⟨rfl,rfl⟩) hg1) ?_
  refine zfd Tryd.underlying9 rfl dc rfl (fun b3 => ?_)
  refine zyN (zaE ?_)
  refine zbn (β:=Nat) (fun b=>zaF none (zek s1 at1 j1) b=some r) (fun b=>[]) (fun b=>[(0,.string s1),(1,zI at1),(4,zP b2),(11,zP b3)]) (fun b=>[cells b2 [zI 0,zI 0,.int .i32 0,.bool false] 187,obj b3 (.stringIter (zbT s1 at1 (s1.size:Int)) (zfv (zbT s1 at1 (s1.size:Int)) 0))]) (fun b=>b) zbW h rfl (za0 rfl) (zae [0,1] kr rfl) ?_
  rintro n1 h
  cases n1 with
  | zero=>exact zdG h
  | succ n1 =>
   obtain ⟨ag1,hag1⟩:∃ ag,ag=zaF none (zek s1 at1 j1) n1:=⟨_,rfl⟩
   have h:zek s1 at1 j1 ag1=some r:=by rw [hag1]; exact h
   unfold zek at h
   refine zyG ?_
   refine zfe (b:=decide (0<(pcs (zbT s1 at1 (s1.size:Int)).data.toList).length)) (fun hb1 => ?_) (fun hb1 => ?_)
   ·
    have h:=zgv hb1 h
    obtain ⟨p1,hq1,h⟩:=zbg h
    refine zfE (k:=1) (m:=0) (p:=p1) rfl dc rfl rfl hq1 (zaU rfl dc rfl rfl (zyN (zaJ (za7 rfl (zas (zaL (zaE ?_)))))))
    obtain ⟨j2,hj2,h⟩:=zbK h
    refine zaX (β:=Int) 2 rfl (fun b=>j2 b=some r) (fun b=>[]) (fun b=>[(1,zI at1),(4,zP b2),(6,.int .i32 (p1.r:Int)),(7,zI b)]) (fun b=>[cells b2 [zI 0,zI 0,.int .i32 0,.bool false] 187]) (fun cut => ?_) ?_
    ·
     refine zyG (zaU rfl dc rfl rfl (zyR 1 rfl (zyH (zyR 1 rfl ?_))))
     obtain ⟨r1,hq2,h⟩:=zbg h
     refine zbq (v:=zI r1) (vs:=[.int .i32 (p1.r:Int)]) rfl dc rfl rfl rfl zum (zkx hq2) (zyR 1 rfl (zyN (cut (zyG (zyR 1 rfl (zaT rfl zaP (zyR 1 rfl ?_)))))))
     refine zyS (s:=19) rfl h (fun h => ?_) (fun h => ?_)
     ·
      refine zyR 1 rfl (zb6 rfl dc rfl Tryd.underlying9 (zyR 1 rfl ?_))
      obtain ⟨hg2,h⟩:=zbk h
      refine zaT rfl (zbj (r:=(s1.size:Int) - at1) (IntWalk.i64_in _ hg2)) (zaT rfl zbf (zyR 1 rfl ?_))
      refine zyS (s:=25) rfl h (fun h => ?_) (fun h => ?_)
      ·
       refine zyR 8 rfl (zyN (za7 rfl (zyG (zyR 1 rfl ?_))))
       refine za3 (v:=.agg #[zI at1,zI 1,.int .i32 65533,.bool true]) (ps:=[(0,.tmp 34),(1,.const (zI 1)),(2,.const (.int .i32 65533)),(3,.const (.bool true))]) rfl dc rfl (fun _=>by kernel_rfl) ?_
       refine zaY (k:=0) (vs:=[zI at1,zI 1,.int .i32 65533,.bool true]) (l':=[zI at1,zI 1,.int .i32 65533,.bool true]) zhK rfl rfl rfl rfl rfl (show _≤_ by simp) rfl rfl ?_
       refine zyN (zaI (zau (zaD (zau (zaD (zau ?_))))))
       cases h
       exact zaK (rs:=[.cell 4 187]) () (.inl rfl) Tryd.results113 (.cons (.cells ze6 (k:=0) rfl rfl rfl) .nil) rfl Splits.nil
      refine zyR 3 rfl ?_
      obtain ⟨hg3,h⟩:=zbk h
      refine zaT rfl (zaQ (r:=at1+3) (IntWalk.i64_in _ hg3)) ?_
      obtain ⟨hg4,h⟩:=zbk h
      refine zdx rfl dc rfl rfl rfl (zbZ (i:=at1) (j:=at1+3) Tryd.underlying9 (.inr rfl) (.inr rfl) hg4) (zaT rfl zrk (zyR 2 rfl (zyN ?_)))
      refine zyB rfl h (fun h => ?_) (fun h => ?_)
      ·
       refine zyG (zyR 1 rfl ?_)
       refine za3 (v:=.agg #[zI at1,zI 1,.int .i32 65533,.bool true]) (ps:=[(0,.tmp 34),(1,.const (zI 1)),(2,.const (.int .i32 65533)),(3,.const (.bool true))]) rfl dc rfl (fun _=>by kernel_rfl) ?_
       refine zaY (k:=0) (vs:=[zI at1,zI 1,.int .i32 65533,.bool true]) (l':=[zI at1,zI 1,.int .i32 65533,.bool true]) zhK rfl rfl rfl rfl rfl (show _≤_ by simp) rfl rfl ?_
       refine zyN (zaI (zau (zaD (zau (zaD (zau ?_))))))
       cases h
       exact zaK (rs:=[.cell 4 187]) () (.inl rfl) Tryd.results113 (.cons (.cells ze6 (k:=0) rfl rfl rfl) .nil) rfl Splits.nil
      refine zas ?_
      exact zak r1 h rfl (za0 rfl) (zae [0] kr rfl)
     refine zyR 14 rfl ?_
     refine zyN (zaN rfl (zas ?_))
     exact zak r1 h rfl (za0 rfl) (zae [0] kr rfl)
    rintro n2 h
    rw [hj2] at h
    refine zyG (zyR 3 rfl ?_)
    refine za3 (v:=.agg #[zI at1,zI n2,.int .i32 (p1.r:Int),.bool false]) (ps:=[(0,.tmp 36),(1,.tmp 37),(2,.tmp 38)]) rfl dc rfl (fun _=>by kernel_rfl) ?_
    refine zaY (k:=0) (vs:=[zI at1,zI n2,.int .i32 (p1.r:Int),.bool false]) (l':=[zI at1,zI n2,.int .i32 (p1.r:Int),.bool false]) zhK rfl rfl rfl rfl rfl (show _≤_ by simp) rfl rfl (zyN (zaI (zaD (zau (zaD (zau ?_))))))
    cases h
    exact zaK (rs:=[.cell 4 187]) () (.inl rfl) Tryd.results113 (.cons (.cells ze6 (k:=0) rfl rfl rfl) .nil) rfl Splits.nil
   have h:=zgw hb1 h
   refine zfF (k:=1) (m:=0) rfl dc rfl rfl (Nat.le_of_not_lt (of_decide_eq_false hb1)) (zaU rfl dc rfl rfl (zyN (zaJ (zaN rfl (za2 (zam (zam (zav ?_))))))))
   exact zak b2 h rfl (za0 rfl) (zae [0] kr rfl)
 rintro b1 h
 rw [hj1] at h
 refine zyG ?_
 refine za3 (v:=.agg #[zI 0,zI 0,.int .i32 0,.bool false]) (ps:=[]) rfl dc rfl (fun _=>by kernel_rfl) ?_
 refine zaY (k:=0) (vs:=[zI 0,zI 0,.int .i32 0,.bool false]) (l':=[zI 0,zI 0,.int .i32 0,.bool false]) zhK rfl rfl rfl rfl rfl (show _≤_ by simp) rfl rfl (zyN (zaI ?_))
 cases h
 exact zaK (rs:=[.cell 4 187]) () (.inl rfl) Tryd.results113 (.cons (.cells ze6 (k:=0) rfl rfl rfl) .nil) rfl Splits.nil
def zcq (c0:ByteArray) (ag1:Nat→Option (List Gapi_Piece)) (m3:Nat):Option (List Gapi_Piece) :=
zaw (decide (m3<(pcs c0.data.toList).length)) (
zal ((pcs c0.data.toList)[m3]?) fun (p1:Pc) =>
zal (zeI c0 (p1.i:Int)) fun (r1:Gapi_Piece) =>
zgW r1 <|
ag1 (m3+1)
) (
some []
)
def zdV (c0:ByteArray):Option (List Gapi_Piece) :=
zaF (fun _=>none) (zcq c0) zbW 0
theorem zhP {b_c0:Nat} {c0:ByteArray} {xs:(List Gapi_Piece)} (h:zdV c0=some xs):Itr Tryd.prog 112 [zP b_c0] (fun q:Gapi_Piece=>[.agg (zr2 q).toArray]) xs [(b_c0,.cells #[.string c0] 9 (0,0))]:=by
 unfold zdV at h
 refine Itr.intro Tryd.func112 rfl Tryd.ntmps112 (by simp) ?_
 intro l w0 K I X hRo hy
 obtain ⟨r0,hx0⟩:∃ r,xs=[]++r:=⟨xs,rfl⟩
 have hr0:xs=r0:=hx0
 rw [hr0] at h
 refine zyG (zkg (i:=0) hRo zoT rfl dc rfl rfl rfl ?_)
 refine zfd Tryd.underlying9 rfl dc rfl (fun b1 => ?_)
 refine zyN (zaE ?_)
 refine zbn (β:=Nat×Nat×(List Gapi_Piece)×(List Gapi_Piece)) (fun b=>zaF (fun _=>none) (zcq c0) b.1 b.2.1=some b.2.2.2∧xs=b.2.2.1++b.2.2.2) (fun b=>[]) (fun b=>[(0,.func (.yield l) #[] #[]),(1,zP b_c0),(5,zP b1)]) (fun b=>[I b.2.2.1,obj b1 (.stringIter c0 (zfv c0 b.2.1))]) (fun b=>b.1) (zbW,0,([]:List Gapi_Piece),r0) ⟨h,hx0⟩ rfl (za0 rfl) (zae [0,1] kr rfl) ?_
 rintro ⟨n1,m3,acc3,rr3⟩ ⟨h,hx3⟩
 cases n1 with
 | zero=>exact zdG h
 | succ n1 =>
  obtain ⟨ag1,hag1⟩:∃ ag,ag=zaF (fun _=>none) (zcq c0) n1:=⟨_,rfl⟩
  have h:zcq c0 ag1 m3=some rr3:=by rw [hag1]; exact h
  unfold zcq at h
  refine zyG ?_
  refine zfe (b:=decide (m3<(pcs c0.data.toList).length)) (fun hb1 => ?_) (fun hb1 => ?_)
  ·
   have h:=zgv hb1 h
   obtain ⟨p1,hq1,h⟩:=zbg h
   refine zfE (k:=1) (m:=m3) (p:=p1) rfl dc rfl rfl hq1 (zaU rfl dc rfl rfl (zyN (zaJ (za7 rfl (zas (zaL (zaE (zyG (zaU rfl dc rfl rfl (zyR 1 rfl (zaR ?_)))))))))))
   refine zaL (zyG (zyR 1 rfl (zkg (i:=0) hRo zoT rfl dc rfl rfl rfl (zyR 1 rfl ?_))))
   obtain ⟨r1,hq2,h⟩:=zbg h
   refine zbq (v:=.agg (zr2 r1).toArray) (vs:=[.string c0,zI (p1.i:Int)]) rfl dc rfl rfl rfl zuo (zlt hq2) ?_
   obtain ⟨rr4,hr1,h⟩:=zj9 h
   have hx4:xs=acc3++r1::rr4:=by rw [hx3,hr1]
   refine ze3 hy rfl dc rfl hx4 rfl (k:=0) rfl ?_ ?_
   ·
    have hx5:xs=(acc3++[r1])++rr4:=by rw [hx4]; simp
    refine zdU rfl dc rfl zcy (zyN (zaN rfl (zas (zag ?_))))
    subst hag1
    exact za4 (n1,m3+1,acc3++[r1],rr4) ⟨h,hx5⟩ (Nat.lt_succ_self _) rfl (za0 rfl) (zae [0,1] kr rfl)
   refine zdU rfl dc rfl zcy (zyN (za7 rfl (zaI (zaD (zau (zaD ?_))))))
   exact zma (ds:=[]) acc3 r1 rr4 hx4 (.inl rfl) Splits.nil Tryd.results112 (zae [0] kr rfl)
  have h:=zgw hb1 h
  refine zfF (k:=1) (m:=m3) rfl dc rfl rfl (Nat.le_of_not_lt (of_decide_eq_false hb1)) (zaU rfl dc rfl rfl (zyN (zaJ (zaN rfl (za2 (zam (zam (zav ?_))))))))
  cases h
  exact zl9 (ds:=[]) (.inr rfl) Splits.nil Tryd.results112 (congrArg I (hx3.trans (List.append_nil _))) (zae [0] kr rfl)
def zf5 (s1:ByteArray):Option ByteArray :=
some s1
theorem zjE {s1:ByteArray} {r:ByteArray} (h:zf5 s1=some r):Fn Tryd.prog 99 [.string s1] [] (fun v0:Nat=>.func (.func 112) #[] #[zP v0]) (fun v0=>[cells v0 [.string r] 9]):=by
 unfold zf5 at h
 refine Fn.intro Tryd.func99 rfl Tryd.ntmps99 (by simp) ?_
 intro w0 K
 refine zyG ?_
 refine zdQ rfl dc rfl (fun b1 => ?_)
 refine zyR 1 rfl (zyH (zhF (x1:=[]) (x2:=[.tmp 1]) rfl dc rfl rfl (zyR 1 rfl (zyN (zaI ?_)))))
 cases h
 exact zaK (rs:=[.tmp 2]) b1 (.inl rfl) Tryd.results99 (.cons (.tmp rfl) .nil) rfl (zae [0] kr rfl)
end Go.Proofs.YtbempdelckaccaaDoor


namespace Go.Proofs.YtbempdelckaccaaDoor
open Go.RowKit Go.Lib
set_option linter.unusedVariables false
set_option linter.unusedSimpArgs false
theorem zp3 (r:Int) (hv:0≤r∧(r<55296∨(57343<r∧r≤1114111))) (hr:¬ r=65533):¬ Utf8.encode r=⟨#[239,191,189]⟩:=by
 intro h
 obtain ⟨n,rfl⟩:=Int.eq_ofNat_of_zero_le hv.1
 have h1:encodeRune ((n:Nat):Int)=[239,191,189]:=by rw [← zj5,h]
 have h2:=zl1 n (by omega) []
 have h3:=zl1 65533 (by omega) []
 rw [h1] at h2
 rw [zoi] at h3
 rw [h2] at h3
 have:=(Prod.mk.inj h3).1
 omega
theorem zsr (r:Int) (hv:vr r):zeS r=some ((Utf8.encode r).size:Int):=by
 unfold zeS
 refine zbE ?_
 by_cases h:r=65533
 ·exact zay (bne_eq_false_iff_eq.2 h) rfl
 ·exact zaz (bne_iff_ne.2 h) (zay (decide_eq_false (zp3 r (by unfold vr at hv; omega) h)) rfl)
theorem zu8 (s:ByteArray) (a:Nat) (ha:a<s.size) (hsz:s.size≤9223372036854775000):zeI s (a:Int)=some (pcG ⟨a,(decodeL (s.data.toList.drop a)).2,(decodeL (s.data.toList.drop a)).1⟩):=by
 unfold zeI
 obtain ⟨F,hF,_⟩:=zny 1 (by omega)
 rw [hF]
 refine zbE (zbm ⟨by omega,by omega,by omega⟩ ?_)
 rw [zcv]
 generalize zaF _ _ F=ag
 unfold zek
 have hne:s.data.toList.drop a≠[]:=by
  intro h; have:=congrArg List.length h; simp at this; omega
 have hok:=zrh _ hne
 have hlen:(s.data.toList.drop a).length=s.size - a:=by simp
 have hle:=hok.le
 have e:(zbT s (a:Int) (s.size:Int)).data.toList=s.data.toList.drop a:=by unfold zbT; exact zsX s a
 have hp:pcs (zbT s (a:Int) (s.size:Int)).data.toList=⟨0,(decodeL (s.data.toList.drop a)).2,(decodeL (s.data.toList.drop a)).1⟩::zdl (0+(decodeL (s.data.toList.drop a)).2) ((s.data.toList.drop a).drop (decodeL (s.data.toList.drop a)).2):=by
  rw [e]; unfold pcs; rw [zcr _ _ hne]
 have hvr:vr ((decodeL (s.data.toList.drop a)).1:Int):=by have:=hok.valid; unfold vr; omega
 refine zaz (decide_eq_true (by rw [hp]; simp)) (zaM (by rw [hp]; rfl) (zbE (zaM (zsr _ hvr) ?_)))
 simp only
 unfold pcG Pc.broken
 have hw:=hok.width
 have hl3:=hok.lost_ok
 have hl1:=hok.lost_bad
 generalize decodeL (s.data.toList.drop a)=d at *
 rcases d with ⟨r,w⟩
 simp only at *
 by_cases hr:r=65533
 ·subst hr
  refine zaz (by decide) (zbm ⟨by omega,by omega⟩ ?_)
  by_cases h3:(s.size:Int) - a<3
  ·refine zaz (decide_eq_true h3) ?_
   have hw1:w=1:=by
    by_cases hw1:w=1
    ·exact hw1
    ·have:=(hl3 rfl hw1).2; omega
   subst hw1; rfl
  ·have e3:=zgf s a 3
   refine zay (decide_eq_false h3) (zbm ⟨by omega,by omega⟩ (zbm ⟨by omega,by omega,by omega⟩ ?_))
   by_cases hw1:w=1
   ·refine zaz ?_ (by subst hw1; rfl)
    rw [decide_eq_false]
    ·rfl
    ·intro h
     exact hl1 rfl hw1 (by rw [← e3]; exact congrArg (fun b:ByteArray=>b.data.toList) h)
   ·obtain ⟨h4,h5⟩:=hl3 rfl hw1
    refine zay ?_ ?_
    ·rw [decide_eq_true]
     ·rfl
     ·apply ByteArray.ext; apply Array.toList_inj.1; rw [show ((a:Int)+3)=(a:Int)+(3:Nat) from rfl,e3,h4]
    ·rw [zj4,hw (by omega)]
     subst h5; rfl
 ·refine zay (by rw [beq_eq_false_iff_ne]; omega) ?_
  rw [zj4,hw (by omega)]
  have:(r==65533&&w==1)=false:=by simp [hr]
  rw [this]
theorem zsI (s:ByteArray) (hs:s.size≤2147483648):zdV s=some ((pcs s.data.toList).map pcG):=by
 unfold zdV
 have hc:(pcs s.data.toList).length≤s.size:=by have:=znp s; unfold zlu at this; simpa using this
 have key:∀ (n k:Nat),k≤(pcs s.data.toList).length→(pcs s.data.toList).length - k<n→zaF (fun _=>none) (zcq s) n k=some (((pcs s.data.toList).drop k).map pcG):=by
  intro n
  induction n with
  | zero=>intro k _ h; omega
  | succ n ih =>
   intro k hk hn
   rw [zcv]
   generalize zaF (fun _=>none) (zcq s) n=ag at ih ⊢
   unfold zcq
   by_cases h:k<(pcs s.data.toList).length
   ·have hx:(pcs s.data.toList)[k]?=some (pcs s.data.toList)[k]:=List.getElem?_eq_getElem h
    have hm:=List.mem_of_getElem? hx
    generalize (pcs s.data.toList)[k]=p at hx hm
    obtain ⟨g1,g2,hok⟩:=zfN s.data.toList p hm
    have hlen:s.data.toList.length=s.size:=by rw [Array.length_toList]; rfl
    have hw:=hok.pos
    have hr:zeI s (p.i:Int)=some (pcG p):=by
     have:=zu8 s p.i (by omega) (by omega)
     rw [this]
     have he:=hok.eq
     rw [he]
    refine zaz (decide_eq_true h) (zaM hx (zaM hr ?_))
    rw [ih (k+1) (by omega) (by omega)]
    have hd:(pcs s.data.toList).drop k=p::(pcs s.data.toList).drop (k+1):=by
     obtain ⟨hlt,he⟩:=List.getElem?_eq_some_iff.1 hx
     rw [← he]; exact List.drop_eq_getElem_cons hlt
    rw [hd]; rfl
   ·have:k=(pcs s.data.toList).length:=by omega
    subst this
    exact zay (decide_eq_false (by omega)) (by rw [List.drop_length]; rfl)
 have:=key zbW 0 (Nat.zero_le _) (by unfold zbW; omega)
 simpa using this
end Go.Proofs.YtbempdelckaccaaDoor

namespace Go.Proofs.YtbempdelckaccaaDoor
open Go.RowKit Go.Lib
set_option linter.unusedVariables false
set_option linter.unusedSimpArgs false
def zcW (r1:Int) (j1:Option Bool) (ag1:Bool→Nat→Option Bool) (within3:Bool) (m3:Nat):Option Bool :=
zaw (decide (m3<(pcs (⟨#[225,132,128,225,133,159,226,186,128,227,128,190,227,129,129,228,182,191,228,184,128,234,147,143,234,176,128,237,158,163,239,164,128,239,171,191,239,184,176,239,185,175,239,188,128,239,189,160,239,191,160,239,191,166,240,159,140,128,240,159,153,143,240,159,164,128,240,159,167,191,240,160,128,128,240,191,191,189]⟩:ByteArray).data.toList).length)) (
zal ((pcs (⟨#[225,132,128,225,133,159,226,186,128,227,128,190,227,129,129,228,182,191,228,184,128,234,147,143,234,176,128,237,158,163,239,164,128,239,171,191,239,184,176,239,185,175,239,188,128,239,189,160,239,191,160,239,191,166,240,159,140,128,240,159,153,143,240,159,164,128,240,159,167,191,240,160,128,128,240,191,191,189]⟩:ByteArray).data.toList)[m3]?) fun (p1:Pc) =>
zbl (fun (j2:Bool→Bool→Option Bool) =>
zaw (!within3) (
zaw (decide ((r1:Int)<(p1.r:Int))) (
some within3
) (
zaw (within3) (
zaw (decide ((r1:Int)≤(p1.r:Int))) (
some within3
) (
j2 true (decide ((r1:Int)≤(p1.r:Int)))
)
) (
j2 false false
)
)
) (
zaw (within3) (
zaw (decide ((r1:Int)≤(p1.r:Int))) (
some within3
) (
j2 true (decide ((r1:Int)≤(p1.r:Int)))
)
) (
j2 false false
)
)
) (fun (x1:Bool) (x2:Bool) =>
ag1 (!within3) (m3+1)
)
) (
j1
)
def zd6 (r1:Int):Option Bool :=
zbl (fun (j1:Option Bool) =>
zaF (fun _ _=>none) (zcW r1 j1) zbW false 0
) (
some false
)
theorem zkb {r1:Int} {r:Bool} (h:zd6 r1=some r):FnP Tryd.prog 115 [.int .i32 r1] (.bool r):=by
 unfold zd6 at h
 refine FnP.intro Tryd.func115 rfl Tryd.ntmps115 (by simp) ?_
 intro w0 K
 obtain ⟨j1,hj1,h⟩:=zbK h
 refine zaX (β:=Unit) 2 rfl (fun b=>j1=some r) (fun b=>[]) (fun b=>[]) (fun b=>[]) (fun cut => ?_) ?_
 ·
  refine zyG (zyR 1 rfl (zyH (zyR 1 rfl (zyN (cut (zyG ?_))))))
  refine zfd Tryd.underlying9 rfl dc rfl (fun b1 => ?_)
  refine zyN (zaE ?_)
  refine zbn (β:=Nat×Bool×Nat) (fun b=>zaF (fun _ _=>none) (zcW r1 j1) b.1 b.2.1 b.2.2=some r) (fun b=>[]) (fun b=>[(0,.int .i32 r1),(3,.bool b.2.1),(6,zP b1)]) (fun b=>[obj b1 (.stringIter (⟨#[225,132,128,225,133,159,226,186,128,227,128,190,227,129,129,228,182,191,228,184,128,234,147,143,234,176,128,237,158,163,239,164,128,239,171,191,239,184,176,239,185,175,239,188,128,239,189,160,239,191,160,239,191,166,240,159,140,128,240,159,153,143,240,159,164,128,240,159,167,191,240,160,128,128,240,191,191,189]⟩:ByteArray) (zfv (⟨#[225,132,128,225,133,159,226,186,128,227,128,190,227,129,129,228,182,191,228,184,128,234,147,143,234,176,128,237,158,163,239,164,128,239,171,191,239,184,176,239,185,175,239,188,128,239,189,160,239,191,160,239,191,166,240,159,140,128,240,159,153,143,240,159,164,128,240,159,167,191,240,160,128,128,240,191,191,189]⟩:ByteArray) b.2.2))]) (fun b=>b.1) (zbW,false,0) (by exact h) rfl (za0 rfl) (zae [0] kr rfl) ?_
  rintro ⟨n1,within3,m3⟩ h
  cases n1 with
  | zero=>exact zdG h
  | succ n1 =>
   obtain ⟨ag1,hag1⟩:∃ ag,ag=zaF (fun _ _=>none) (zcW r1 j1) n1:=⟨_,rfl⟩
   have h:zcW r1 j1 ag1 within3 m3=some r:=by rw [hag1]; exact h
   unfold zcW at h
   refine zyG ?_
   refine zfe (b:=decide (m3<(pcs (⟨#[225,132,128,225,133,159,226,186,128,227,128,190,227,129,129,228,182,191,228,184,128,234,147,143,234,176,128,237,158,163,239,164,128,239,171,191,239,184,176,239,185,175,239,188,128,239,189,160,239,191,160,239,191,166,240,159,140,128,240,159,153,143,240,159,164,128,240,159,167,191,240,160,128,128,240,191,191,189]⟩:ByteArray).data.toList).length)) (fun hb1 => ?_) (fun hb1 => ?_)
   ·
    have h:=zgv hb1 h
    obtain ⟨p1,hq1,h⟩:=zbg h
    refine zfE (k:=0) (m:=m3) (p:=p1) rfl dc rfl rfl hq1 (zaU rfl dc rfl rfl (zyN (zaJ (za7 rfl (zas (zaL (zaE ?_)))))))
    obtain ⟨j2,hj2,h⟩:=zbK h
    refine zaX (β:=Bool×Bool) 1 rfl (fun b=>j2 b.1 b.2=some r) (fun b=>[]) (fun b=>[(0,.int .i32 r1),(3,.bool within3),(6,zP b1),(18,.bool within3),(19,.bool b.1),(23,.bool b.2)]) (fun b=>[obj b1 (.stringIter (⟨#[225,132,128,225,133,159,226,186,128,227,128,190,227,129,129,228,182,191,228,184,128,234,147,143,234,176,128,237,158,163,239,164,128,239,171,191,239,184,176,239,185,175,239,188,128,239,189,160,239,191,160,239,191,166,240,159,140,128,240,159,153,143,240,159,164,128,240,159,167,191,240,160,128,128,240,191,191,189]⟩:ByteArray) (zfv (⟨#[225,132,128,225,133,159,226,186,128,227,128,190,227,129,129,228,182,191,228,184,128,234,147,143,234,176,128,237,158,163,239,164,128,239,171,191,239,184,176,239,185,175,239,188,128,239,189,160,239,191,160,239,191,166,240,159,140,128,240,159,153,143,240,159,164,128,240,159,167,191,240,160,128,128,240,191,191,189]⟩:ByteArray) (m3+1)))]) (fun cut => ?_) ?_
    ·
     refine zyG (zaU rfl dc rfl rfl (zyR 1 rfl (zyN (cut (zyG (zyR 1 rfl (zdU rfl dc rfl zcy (zyR 1 rfl ?_))))))))
     refine zyS (s:=12) rfl h (fun h => ?_) (fun h => ?_)
     ·
      refine zyR 2 rfl (zaT rfl zbf (zyR 2 rfl ?_))
      refine zyS (s:=17) rfl h (fun h => ?_) (fun h => ?_)
      ·
       refine zyR 7 rfl (zyN (za7 rfl (zyG (zyR 2 rfl ?_))))
       refine zyN (zaI (zau (zaD (zau (zaD (zau ?_))))))
       cases h
       exact zaK (rs:=[.tmp 2]) () (.inl rfl) Tryd.results115 (.cons (.tmp rfl) .nil) rfl Splits.nil
      refine zyR 2 rfl ?_
      refine zyS (s:=19) rfl h (fun h => ?_) (fun h => ?_)
      ·
       refine zyR 2 rfl (zaT rfl zc6 (zyR 2 rfl (zyN ?_)))
       refine zyB rfl h (fun h => ?_) (fun h => ?_)
       ·
        refine zyG (zyR 2 rfl (zyN (zaI (zau (zaD (zau (zaD (zau ?_))))))))
        cases h
        exact zaK (rs:=[.tmp 2]) () (.inl rfl) Tryd.results115 (.cons (.tmp rfl) .nil) rfl Splits.nil
       refine zas ?_
       exact zak (true,decide ((r1:Int)≤(p1.r:Int))) h rfl (za0 rfl) (zae [0] kr rfl)
      refine zyR 5 rfl (zyN (zaN rfl (zas ?_)))
      exact zak (false,false) h rfl (za0 rfl) (zae [0] kr rfl)
     refine zyR 7 rfl ?_
     refine zyS (s:=19) rfl h (fun h => ?_) (fun h => ?_)
     ·
      refine zyR 2 rfl (zaT rfl zc6 (zyR 2 rfl (zyN ?_)))
      refine zyB rfl h (fun h => ?_) (fun h => ?_)
      ·
       refine zyG (zyR 2 rfl (zyN (zaI (zau (zaD (zau (zaD (zau ?_))))))))
       cases h
       exact zaK (rs:=[.tmp 2]) () (.inl rfl) Tryd.results115 (.cons (.tmp rfl) .nil) rfl Splits.nil
      refine zas ?_
      exact zak (true,decide ((r1:Int)≤(p1.r:Int))) h rfl (za0 rfl) (zae [0] kr rfl)
     refine zyR 5 rfl (zyN (zaN rfl (zas ?_)))
     exact zak (false,false) h rfl (za0 rfl) (zae [0] kr rfl)
    rintro ⟨x1,x2⟩ h
    rw [hj2] at h
    refine zax (zyR 1 rfl (zdU rfl dc rfl zcy (zyR 1 rfl (zaR (zag ?_)))))
    subst hag1
    exact za4 (n1,!within3,m3+1) h (Nat.lt_succ_self _) rfl (za0 rfl) (zae [0] kr rfl)
   have h:=zgw hb1 h
   refine zfF (k:=0) (m:=m3) rfl dc rfl rfl (Nat.le_of_not_lt (of_decide_eq_false hb1)) (zaU rfl dc rfl rfl (zyN (zaJ (zaN rfl (za2 (zam (zam (zav ?_))))))))
   exact zak () h rfl (zkj) Splits.nil
 rintro _ h
 rw [hj1] at h
 refine zyG (zyR 1 rfl (zyN (zaI ?_)))
 cases h
 exact zaK (rs:=[.tmp 2]) () (.inl rfl) Tryd.results115 (.cons (.tmp rfl) .nil) rfl Splits.nil
def zbB (p1:Gapi_Piece):Option Int :=
grd (I32 p1.Rune) <|
zaw (((zdd p1.Broken p1.Rune):Int)==11) (
some 1
) (
zbl (fun (j1:Bool→Option Int) =>
zaw (((zdd p1.Broken p1.Rune):Int)==2) (
j1 (((zdd p1.Broken p1.Rune):Int)==2)
) (
zaw (((zdd p1.Broken p1.Rune):Int)==4) (
j1 (((zdd p1.Broken p1.Rune):Int)==4)
) (
j1 (((zdd p1.Broken p1.Rune):Int)==9)
)
)
) (fun (x1:Bool) =>
zaw (x1) (
some 0
) (
zal (zd6 p1.Rune) fun (r1:Bool) =>
zaw (r1) (
some 2
) (
some 1
)
)
)
)
theorem ze1 {p1:Gapi_Piece} {r:Int} (h:zbB p1=some r):FnP Tryd.prog 102 [.agg (zr2 p1).toArray] (zI r):=by
 unfold zbB at h
 refine FnP.intro Tryd.func102 rfl Tryd.ntmps102 (by simp) ?_
 intro w0 K
 refine zyG ?_
 refine zdQ rfl dc rfl (fun b1 => ?_)
 refine zyR 1 rfl (zyN (zaJ (zyG (zba (k:=0) (cs:=(zr2 p1)) ze6 rfl dc rfl rfl rfl rfl ?_))))
 obtain ⟨hg1,h⟩:=zbk h
 refine zbq (v:=zI (zdd p1.Broken p1.Rune)) (vs:=[.agg (zr2 p1).toArray]) rfl dc rfl rfl rfl zp5 (zvc p1.At p1.Width p1.Rune p1.Broken hg1.1 hg1.2) (zyN (zaE (zyG (zaT rfl zaP (zyR 1 rfl (zyN ?_))))))
 refine zyB rfl h (fun h => ?_) (fun h => ?_)
 ·
  refine zyG (zyR 1 rfl (zyN (zaI (zaD (zau ?_)))))
  cases h
  exact zaK (rs:=[.tmp 2]) () (.inl rfl) Tryd.results102 (.cons (.tmp rfl) .nil) rfl Splits.nil
 obtain ⟨j1,hj1,h⟩:=zbK h
 refine zaX (β:=Bool) 0 rfl (fun b=>j1 b=some r) (fun b=>[]) (fun b=>[(1,zP b1),(7,.bool b)]) (fun b=>[cells b1 (zr2 p1) 187]) (fun cut => ?_) ?_
 ·
  refine cut (zyG (zaT rfl zaP (zyR 1 rfl (zyN ?_))))
  refine zyB rfl h (fun h => ?_) (fun h => ?_)
  ·
   refine zas ?_
   exact zak (((zdd p1.Broken p1.Rune):Int)==2) h rfl (za0 rfl) (zae [0] kr rfl)
  refine zyG (zaT rfl zaP (zyR 1 rfl (zyN ?_)))
  refine zyB rfl h (fun h => ?_) (fun h => ?_)
  ·
   refine zas ?_
   exact zak (((zdd p1.Broken p1.Rune):Int)==4) h rfl (za0 rfl) (zae [0] kr rfl)
  refine zax (zaT rfl zaP (zyR 1 rfl (zaR ?_)))
  exact zak (((zdd p1.Broken p1.Rune):Int)==9) h rfl (za0 rfl) (zae [0] kr rfl)
 rintro x1 h
 rw [hj1] at h
 refine zyB rfl h (fun h => ?_) (fun h => ?_)
 ·
  refine zyG (zyR 1 rfl (zyN (zaI (zaD (zau ?_)))))
  cases h
  exact zaK (rs:=[.tmp 2]) () (.inl rfl) Tryd.results102 (.cons (.tmp rfl) .nil) rfl Splits.nil
 refine zas (zag (zaL (zaJ (zyG (zab zh5 rfl dc rfl (show _=2 from rfl) (zar (k:=0) zhN rfl dc rfl rfl rfl ?_))))))
 obtain ⟨r1,hq1,h⟩:=zbg h
 refine zbq (v:=.bool r1) (vs:=[.int .i32 p1.Rune]) rfl dc rfl rfl rfl zun (zkb hq1) (zyN ?_)
 refine zyB rfl h (fun h => ?_) (fun h => ?_)
 ·
  refine zyG (zyR 1 rfl (zyN (zaI (zau ?_))))
  cases h
  exact zaK (rs:=[.tmp 2]) () (.inl rfl) Tryd.results102 (.cons (.tmp rfl) .nil) rfl Splits.nil
 refine zas (zaL (zyG (zyR 1 rfl (zyN (zaI ?_)))))
 cases h
 exact zaK (rs:=[.tmp 2]) () (.inl rfl) Tryd.results102 (.cons (.tmp rfl) .nil) rfl Splits.nil
def zdi (head1:Int) (behind1:Gapi_Piece) (p1:Gapi_Piece):Option Bool :=
zaw (p1.Broken) (
some false
) (
grd (I32 p1.Rune) <|
zaw (((zdd p1.Broken p1.Rune):Int)==2) (
some true
) (
zaw ((p1.Rune:Int)==8205) (
some true
) (
zaw ((head1:Int)==10) (
zaw (((zdd p1.Broken p1.Rune):Int)==10) (
some ((behind1.Rune:Int)==8205)
) (
some false
)
) (
some false
)
)
)
)
theorem zgC {head1:Int} {behind1:Gapi_Piece} {p1:Gapi_Piece} {r:Bool} (h:zdi head1 behind1 p1=some r):FnP Tryd.prog 101 [zI head1,.agg (zr2 behind1).toArray,.agg (zr2 p1).toArray] (.bool r):=by
 unfold zdi at h
 refine FnP.intro Tryd.func101 rfl Tryd.ntmps101 (by simp) ?_
 intro w0 K
 refine zyG ?_
 refine zdQ rfl dc rfl (fun b1 => ?_)
 refine zdQ rfl dc rfl (fun b2 => ?_)
 refine zyR 1 rfl (zyN (zaJ (zyG (zab zrb rfl dc rfl (show _=3 from rfl) (zar (k:=1) zpr rfl dc rfl rfl rfl (zyN ?_))))))
 refine zyB rfl h (fun h => ?_) (fun h => ?_)
 ·
  refine zyG (zyR 1 rfl (zyN (zaI (zau ?_))))
  cases h
  exact zaK (rs:=[.tmp 6]) () (.inl rfl) Tryd.results101 (.cons (.tmp rfl) .nil) rfl Splits.nil
 refine zas (zaL (zyG (zba (k:=1) (cs:=(zr2 p1)) ze6 rfl dc rfl rfl rfl rfl ?_)))
 obtain ⟨hg1,h⟩:=zbk h
 refine zbq (v:=zI (zdd p1.Broken p1.Rune)) (vs:=[.agg (zr2 p1).toArray]) rfl dc rfl rfl rfl zp5 (zvc p1.At p1.Width p1.Rune p1.Broken hg1.1 hg1.2) (zyR 1 rfl (zyH (zyR 1 rfl (zaT rfl zaP (zyR 1 rfl ?_)))))
 refine zyS (s:=14) rfl h (fun h => ?_) (fun h => ?_)
 ·
  refine zyR 14 rfl ?_
  refine zyR 4 rfl (zyN (zaI ?_))
  cases h
  exact zaK (rs:=[.tmp 6]) () (.inl rfl) Tryd.results101 (.cons (.tmp rfl) .nil) rfl Splits.nil
 refine zab zh5 rfl dc rfl (show _=2 from rfl) (zar (k:=1) zhN rfl dc rfl rfl rfl (zaT rfl zaP (zyR 2 rfl ?_)))
 refine zyS (s:=19) rfl h (fun h => ?_) (fun h => ?_)
 ·
  refine zyR 13 rfl (zaR ?_)
  refine zaL (zaI ?_)
  cases h
  exact zaK (rs:=[.tmp 6]) () (.inl rfl) Tryd.results101 (.cons (.tmp rfl) .nil) rfl Splits.nil
 refine zyR 1 rfl (zaT rfl zaP (zyR 1 rfl ?_))
 refine zyS (s:=22) rfl h (fun h => ?_) (fun h => ?_)
 ·
  refine zyR 1 rfl (zaT rfl zaP (zyR 2 rfl ?_))
  refine zyS (s:=26) rfl h (fun h => ?_) (fun h => ?_)
  ·
   refine zab zh5 rfl dc rfl (show _=2 from rfl) (zar (k:=0) zhN rfl dc rfl rfl rfl (zaT rfl zaP (zyR 3 rfl (zyN (zaI ?_)))))
   cases h
   exact zaK (rs:=[.tmp 6]) () (.inl rfl) Tryd.results101 (.cons (.tmp rfl) .nil) rfl Splits.nil
  refine zyR 6 rfl (zyN (zaI ?_))
  cases h
  exact zaK (rs:=[.tmp 6]) () (.inl rfl) Tryd.results101 (.cons (.tmp rfl) .nil) rfl Splits.nil
 refine zyR 10 rfl (zyN (zaI ?_))
 cases h
 exact zaK (rs:=[.tmp 6]) () (.inl rfl) Tryd.results101 (.cons (.tmp rfl) .nil) rfl Splits.nil
def zbY (x1:Gapi_Piece) (ag1:Int→Int→Int→Int→Int→Int→Int→Bool→Bool→Option (List Gapi_Cell)) (now13:Int) (now14:Int) (now15:Int) (head4:Int) (last13:Int) (last14:Int) (last15:Int) (last16:Bool) (open5:Bool):Option (List Gapi_Cell) :=
zbl (fun (j2:Option (List Gapi_Cell)) =>
grd (I32 x1.Rune) <|
zaw (!open5) (
j2
) (
zaw ((last15:Int)==13) (
zaw ((x1.Rune:Int)==10) (
grd (I64 (x1.At+x1.Width)) <|
ag1 now13 (x1.At+x1.Width) now15 head4 x1.At x1.Width x1.Rune x1.Broken open5
) (
zaw ((head4:Int) != 11) (
zaw ((head4:Int) != 4) (
zaw ((head4:Int) != 9) (
zal (zdi head4 (⟨last13,last14,last15,last16⟩:Gapi_Piece) x1) fun (r2:Bool) =>
zaw (r2) (
grd (I64 (x1.At+x1.Width)) <|
zal (zbB x1) fun (r3:Int) =>
ag1 now13 (x1.At+x1.Width) (max now15 r3) head4 x1.At x1.Width x1.Rune x1.Broken open5
) (
zgW (⟨now13,now14,now15⟩:Gapi_Cell) <|
j2
)
) (
zgW (⟨now13,now14,now15⟩:Gapi_Cell) <|
j2
)
) (
zgW (⟨now13,now14,now15⟩:Gapi_Cell) <|
j2
)
) (
zgW (⟨now13,now14,now15⟩:Gapi_Cell) <|
j2
)
)
) (
zaw ((head4:Int) != 11) (
zaw ((head4:Int) != 4) (
zaw ((head4:Int) != 9) (
zal (zdi head4 (⟨last13,last14,last15,last16⟩:Gapi_Piece) x1) fun (r4:Bool) =>
zaw (r4) (
grd (I64 (x1.At+x1.Width)) <|
zal (zbB x1) fun (r5:Int) =>
ag1 now13 (x1.At+x1.Width) (max now15 r5) head4 x1.At x1.Width x1.Rune x1.Broken open5
) (
zgW (⟨now13,now14,now15⟩:Gapi_Cell) <|
j2
)
) (
zgW (⟨now13,now14,now15⟩:Gapi_Cell) <|
j2
)
) (
zgW (⟨now13,now14,now15⟩:Gapi_Cell) <|
j2
)
) (
zgW (⟨now13,now14,now15⟩:Gapi_Cell) <|
j2
)
)
)
) (
grd (I64 (x1.At+x1.Width)) <|
zal (zbB x1) fun (r6:Int) =>
ag1 x1.At (x1.At+x1.Width) r6 (zdd x1.Broken x1.Rune) x1.At x1.Width x1.Rune x1.Broken true
)
def zd2 (c0:ByteArray):Option (List Gapi_Cell) :=
zbl (fun (j1:Int→Int→Int→Bool→Option (List Gapi_Cell)) =>
zal (zf5 c0) fun (r1:ByteArray) =>
zal (zdV r1) fun (its1:(List Gapi_Piece)) =>
zbl (fun (dn1:Int→Int→Int→Int→Int→Int→Int→Bool→Bool→Option (List Gapi_Cell)) =>
zeL dn1 (zbY) its1 0 0 0 0 0 0 0 false false
) (fun (now13:Int) (now14:Int) (now15:Int) (head4:Int) (last13:Int) (last14:Int) (last15:Int) (last16:Bool) (open5:Bool) =>
j1 now13 now14 now15 open5
)
) (fun (now1:Int) (now2:Int) (now3:Int) (zc1:Bool) =>
zaw (zc1) (
zgW (⟨now1,now2,now3⟩:Gapi_Cell) <|
some []
) (
some []
)
)
theorem zik {b_c0:Nat} {c0:ByteArray} {xs:(List Gapi_Cell)} (h:zd2 c0=some xs):Itr Tryd.prog 98 [zP b_c0] (fun q:Gapi_Cell=>[.agg (zr1 q).toArray]) xs [(b_c0,.cells #[.string c0] 9 (0,0))]:=by
 unfold zd2 at h
 refine Itr.intro Tryd.func98 rfl Tryd.ntmps98 (by simp) ?_
 intro l w0 K I X hRo hy
 obtain ⟨r0,hx0⟩:∃ r,xs=[]++r:=⟨xs,rfl⟩
 have hr0:xs=r0:=hx0
 rw [hr0] at h
 refine zmb ?_
 refine zyG ?_
 refine zdQ rfl dc rfl (fun b1 => ?_)
 refine zyN ?_
 refine zjs (β:=Unit) (l:=0) (fun _=>False) (fun _=>[]) (fun _=>[]) rfl ?_ ?_
 ·
  obtain ⟨j1,hj1,h⟩:=zbK h
  refine zaX (β:=Int×Int×Int×Bool×(List Gapi_Cell)×(List Gapi_Cell)×Nat×Nat×(List Nat)) 5 rfl (fun b=>j1 b.1 b.2.1 b.2.2.1 b.2.2.2.1=some b.2.2.2.2.2.1∧xs=b.2.2.2.2.1++b.2.2.2.2.2.1) (fun b=>zgM b.2.2.2.2.2.2.2.2) (fun b=>[(2,zP b1),(3,zP b.2.2.2.2.2.2.1),(6,zP b.2.2.2.2.2.2.2.1)]) (fun b=>[I b.2.2.2.2.1,cells b1 [.func (.yield l) #[] #[]] 184,cells b.2.2.2.2.2.2.1 [zI b.1,zI b.2.1,zI b.2.2.1] 106,cells b.2.2.2.2.2.2.2.1 [.bool b.2.2.2.1] 4,zkp ((b.2.2.2.2.2.2.2.2:List Nat).map zn8)]) (fun cut => ?_) ?_
  ·
   refine zyG ?_
   refine zbt zo0 rfl dc (fun b4 => ?_)
   refine zyH ?_
   refine zbt ztv rfl dc (fun b5 => ?_)
   refine zyH ?_
   refine zbt zoZ rfl dc (fun b6 => ?_)
   refine zyH ?_
   refine zbt zww rfl dc (fun b7 => ?_)
   refine za5 (k:=6) (l':=[.bool false]) zuH rfl rfl rfl rfl rfl (fun _ _=>rfl) rfl ?_
   refine zyN (zaJ (zjt (zaL (cut (zyG (zkg (i:=0) hRo zoT rfl dc rfl rfl rfl ?_))))))
   obtain ⟨r1,hq1,h⟩:=zbg h
   refine zea (vs:=[.string c0]) rfl dc rfl rfl rfl zvh (zjE hq1) Splits.nil ?_
   rintro b8
   refine zyN (zaE ?_)
   obtain ⟨its1,hq2,h⟩:=zbg h
   obtain ⟨dn1,hdn1,h⟩:=zbK h
   refine zoo (α:=Gapi_Piece) (β:=Int×Int×Int×Int×Int×Int×Int×Bool×Bool×(List Gapi_Cell)×(List Gapi_Cell)) (γ:=(List Gapi_Cell×Gapi_Cell×List Gapi_Cell)) (δ:=Nat) (ps:=[11]) hRo rfl zup (zhP hq2) (fun pre b=>(∀ post,its1=pre++post→zeL dn1 (zbY) post b.1 b.2.1 b.2.2.1 b.2.2.2.1 b.2.2.2.2.1 b.2.2.2.2.2.1 b.2.2.2.2.2.2.1 b.2.2.2.2.2.2.2.1 b.2.2.2.2.2.2.2.2.1=some b.2.2.2.2.2.2.2.2.2.2)∧xs=b.2.2.2.2.2.2.2.2.2.1++b.2.2.2.2.2.2.2.2.2.2) (fun pre b=>[I b.2.2.2.2.2.2.2.2.2.1,cells b1 [.func (.yield l) #[] #[]] 184,cells b4 [zI b.1,zI b.2.1,zI b.2.2.1] 106,cells b5 [zI b.2.2.2.1] 185,cells b6 [zI b.2.2.2.2.1,zI b.2.2.2.2.2.1,.int .i32 b.2.2.2.2.2.2.1,.bool b.2.2.2.2.2.2.2.1] 187,cells b7 [.bool b.2.2.2.2.2.2.2.2.1] 4]) (fun c pre g=>(fun g=>c=Code.ret∧xs=g.1++g.2.1::g.2.2) g) (fun c pre g=>(fun g=>[X (g.1++[g.2.1])]) g) (fun pre x b j=>[(2,zP b1),(3,zP b4),(4,zP b5),(5,zP b6),(6,zP b7),(10,.func (.func 112) #[] #[zP b8]),(7,zP j)]) (fun pre x b j=>[I b.2.2.2.2.2.2.2.2.2.1,cells b1 [.func (.yield l) #[] #[]] 184,cells b4 [zI b.1,zI b.2.1,zI b.2.2.1] 106,cells b5 [zI b.2.2.2.1] 185,cells b6 [zI b.2.2.2.2.1,zI b.2.2.2.2.2.1,.int .i32 b.2.2.2.2.2.2.1,.bool b.2.2.2.2.2.2.2.1] 187,cells b7 [.bool b.2.2.2.2.2.2.2.2.1] 4,cells j (zr2 x) 187]) (0,0,0,0,0,0,0,false,false,([]:List Gapi_Cell),r0) ⟨fun post e=>(by rw [List.nil_append] at e; subst e; exact h),hx0⟩ (zae [0,2,3,4,5,6] kr rfl) ⟨.inl ⟨7,rfl⟩,trivial⟩ (fun _=>rfl) dc ?_ ?_ ?_ ?_
   ·
    rintro lp rc pre x1 post ⟨now13,now14,now15,head4,last13,last14,last15,last16,open5,acc4,rr4⟩ w1 K1 hxs1 hext hro hinv
    have hy:=hy.later hext
    refine zax ?_
    refine zbt zoZ rfl dc (fun b9 => ?_)
    refine zaY (k:=6) (vs:=(zr2 x1)) (l':=(zr2 x1)) zhK rfl rfl rfl rfl rfl (show _≤_ by simp) rfl rfl ?_
    refine zaR ?_
    exact fun a w ha hw=>⟨b9,(za0 rfl) _ _ _ ha,hw.weaken (zae [0,1,2,3,4,5,6] kr rfl)⟩
   ·
    rintro lp rc pre x1 post1 ⟨now13,now14,now15,head4,last13,last14,last15,last16,open5,acc4,rr4⟩ jb1 w1 K1 hxs1 hext hro hinv
    have hy:=hy.later hext
    obtain ⟨hinv,hx4⟩:=hinv
    have h:=hinv (x1::post1) hxs1
    obtain ⟨ag1,hag1⟩:∃ ag,ag=zeL dn1 (zbY) post1:=⟨_,rfl⟩
    have h:zbY x1 ag1 now13 now14 now15 head4 last13 last14 last15 last16 open5=some rr4:=by rw [hag1]; exact h
    unfold zbY at h
    refine zaE ?_
    obtain ⟨j2,hj2,h⟩:=zbK h
    refine zaX (β:=(List Gapi_Cell)×(List Gapi_Cell)) 1 rfl (fun b=>j2=some b.2∧xs=b.1++b.2) (fun b=>[]) (fun b=>[(2,zP b1),(3,zP b4),(4,zP b5),(5,zP b6),(6,zP b7),(7,zP jb1),(8,zI (zdd x1.Broken x1.Rune)),(10,.func (.func 112) #[] #[zP b8])]) (fun b=>[I b.1,cells b1 [.func (.yield l) #[] #[]] 184,cells b4 [zI now13,zI now14,zI now15] 106,cells b5 [zI head4] 185,cells b6 [zI last13,zI last14,.int .i32 last15,.bool last16] 187,cells b7 [.bool open5] 4,cells jb1 (zr2 x1) 187]) (fun cut => ?_) ?_
    ·
     refine zyG (zba (k:=6) (cs:=(zr2 x1)) ze6 rfl dc rfl rfl rfl rfl ?_)
     obtain ⟨hg1,h⟩:=zbk h
     refine zbq (v:=zI (zdd x1.Broken x1.Rune)) (vs:=[.agg (zr2 x1).toArray]) rfl dc rfl rfl rfl zp5 (zvc x1.At x1.Width x1.Rune x1.Broken hg1.1 hg1.2) (zyR 1 rfl (zyN (cut (zaE (zyG (zar (k:=5) zpr rfl dc rfl rfl rfl (zdU rfl dc rfl zcy (zyR 1 rfl (zyN ?_)))))))))
     refine zyB rfl h (fun h => ?_) (fun h => ?_)
     ·
      refine zas (zag ?_)
      exact zak (acc4,rr4) ⟨h,hx4⟩ rfl (za0 rfl) (zae [0,1,2,3,4,5,6] kr rfl)
     refine zyG (zab zh5 rfl dc rfl (show _=2 from rfl) (zar (k:=4) zhN rfl dc rfl rfl rfl (zaT rfl zaP (zyR 1 rfl ?_))))
     refine zyS (s:=25) rfl h (fun h => ?_) (fun h => ?_)
     ·
      refine zab zh5 rfl dc rfl (show _=2 from rfl) (zar (k:=6) zhN rfl dc rfl rfl rfl (zaT rfl zaP (zyR 2 rfl (zyN ?_))))
      refine zyB rfl h (fun h => ?_) (fun h => ?_)
      ·
       refine zyG (zab zh6 rfl dc rfl (show _=0 from rfl) (zar (k:=6) zbh rfl dc rfl rfl rfl (zab zjk rfl dc rfl (show _=1 from rfl) (zar (k:=6) zbh rfl dc rfl rfl rfl ?_))))
       obtain ⟨hg2,h⟩:=zbk h
       refine zaT rfl (zaQ (r:=x1.At+x1.Width) (IntWalk.i64_in _ hg2)) (zab zen rfl dc rfl (show _=0 from rfl) (zab zdD rfl dc rfl (show _=1 from rfl) ?_))
       refine za5 (k:=2) (l':=[zI now13,zI (x1.At+x1.Width),zI now15]) zde rfl rfl rfl rfl rfl (fun _ _=>rfl) rfl ?_
       refine zyH (zba (k:=6) (cs:=(zr2 x1)) ze6 rfl dc rfl rfl rfl rfl (zaY (k:=4) (vs:=(zr2 x1)) (l':=(zr2 x1)) zhK rfl rfl rfl rfl rfl (show _≤_ by simp) rfl rfl ?_))
       refine zyN (za2 (zct dc (zam (zav ?_))))
       exact zg9 (now13,x1.At+x1.Width,now15,head4,x1.At,x1.Width,x1.Rune,x1.Broken,open5,acc4,rr4) ⟨fun post2 e2=>(by have e9:=zga hxs1 e2; subst e9; subst hag1; exact h),hx4⟩ (zae [0,1,2,3,4,5] kr rfl)
      refine zyG (zar (k:=3) ziU rfl dc rfl rfl rfl (zaT rfl zce (zyR 1 rfl ?_)))
      refine zyS (s:=41) rfl h (fun h => ?_) (fun h => ?_)
      ·
       refine zar (k:=3) ziU rfl dc rfl rfl rfl (zaT rfl zce (zyR 2 rfl ?_))
       refine zyS (s:=45) rfl h (fun h => ?_) (fun h => ?_)
       ·
        refine zar (k:=3) ziU rfl dc rfl rfl rfl (zaT rfl zce (zyR 2 rfl ?_))
        refine zyS (s:=49) rfl h (fun h => ?_) (fun h => ?_)
        ·
         refine zar (k:=3) ziU rfl dc rfl rfl rfl (zba (k:=4) (cs:=[zI last13,zI last14,.int .i32 last15,.bool last16]) ze6 rfl dc rfl rfl rfl rfl (zba (k:=6) (cs:=(zr2 x1)) ze6 rfl dc rfl rfl rfl rfl ?_))
         obtain ⟨r2,hq3,h⟩:=zbg h
         refine zbq (v:=.bool r2) (vs:=[zI head4,.agg #[zI last13,zI last14,.int .i32 last15,.bool last16],.agg (zr2 x1).toArray]) rfl dc rfl rfl rfl zrO (zgC (behind1:=(⟨last13,last14,last15,last16⟩:Gapi_Piece)) (p1:=x1) hq3) (zyR 2 rfl (zyN ?_))
         refine zyB rfl h (fun h => ?_) (fun h => ?_)
         ·
          refine zyG (zab zh6 rfl dc rfl (show _=0 from rfl) (zar (k:=6) zbh rfl dc rfl rfl rfl (zab zjk rfl dc rfl (show _=1 from rfl) (zar (k:=6) zbh rfl dc rfl rfl rfl ?_))))
          obtain ⟨hg3,h⟩:=zbk h
          refine zaT rfl (zaQ (r:=x1.At+x1.Width) (IntWalk.i64_in _ hg3)) (zab zen rfl dc rfl (show _=0 from rfl) (zab zdD rfl dc rfl (show _=1 from rfl) ?_))
          refine za5 (k:=2) (l':=[zI now13,zI (x1.At+x1.Width),zI now15]) zde rfl rfl rfl rfl rfl (fun _ _=>rfl) rfl ?_
          refine zyN (zaJ ?_)
          obtain ⟨r3,hq4,h⟩:=zbg h
          refine zbu 4 [(0,62,.pointer (some ⟨b4,2,none⟩)),(1,63,zI now15),(2,64,.agg (zr2 x1).toArray),(3,65,zI r3)] mixed kr kr dc (by rfl) kr kr (zad ?_ (zad ?_ (zad ?_ (zad ?_ DrawPre.nil)))) ?_
          · exact fun D n d c u i=>zab zf0 rfl dc (za9 (by rfl) rfl) (show _=2 from rfl) (zaf 0 u i rfl)
          · exact fun D n d c u i=>zar (k:=2) zbh rfl dc (zaa (m:=0) u rfl (d 0 dc)) rfl rfl (zaf 1 u i rfl)
          · exact fun D n d c u i=>zba (k:=6) (cs:=(zr2 x1)) ze6 rfl dc (za9 (by rfl) rfl) rfl rfl rfl (zaf 2 u i rfl)
          · exact fun D n d c u i=>zbq (v:=zI r3) (vs:=[.agg (zr2 x1).toArray]) rfl dc rfl (evL.cons (zaa (m:=2) u rfl (d 2 dc)) evL.nil) rfl zp4 (ze1 (p1:=x1) hq4) (zaf 3 u i rfl)
          refine zkf rfl dc rfl rfl (zab zf0 rfl dc rfl (show _=2 from rfl) ?_)
          refine za5 (k:=2) (l':=[zI now13,zI (x1.At+x1.Width),zI (max now15 r3)]) zde rfl rfl rfl rfl rfl (fun _ _=>rfl) rfl ?_
          refine zyH (zba (k:=6) (cs:=(zr2 x1)) ze6 rfl dc rfl rfl rfl rfl (zaY (k:=4) (vs:=(zr2 x1)) (l':=(zr2 x1)) zhK rfl rfl rfl rfl rfl (show _≤_ by simp) rfl rfl (zyN (za2 (zct dc (zam (zav ?_)))))))
          exact zg9 (now13,x1.At+x1.Width,max now15 r3,head4,x1.At,x1.Width,x1.Rune,x1.Broken,open5,acc4,rr4) ⟨fun post2 e2=>(by have e9:=zga hxs1 e2; subst e9; subst hag1; exact h),hx4⟩ (zae [0,1,2,3,4,5] kr rfl)
         refine zyG (zar (k:=1) zhO rfl dc rfl rfl rfl (zba (k:=2) (cs:=[zI now13,zI now14,zI now15]) zfJ rfl dc rfl rfl rfl rfl ?_))
         obtain ⟨rr6,hr1,h⟩:=zj9 h
         have hx6:xs=acc4++(⟨now13,now14,now15⟩:Gapi_Cell)::rr6:=by rw [hx4,hr1]
         refine ze3 hy rfl dc rfl hx6 rfl (k:=0) rfl ?_ ?_
         ·
          have hx7:xs=(acc4++[(⟨now13,now14,now15⟩:Gapi_Cell)])++rr6:=by rw [hx6]; simp
          refine zdU rfl dc rfl zcy (zyN (zaN rfl (zas (zag ?_))))
          exact zak (acc4++[(⟨now13,now14,now15⟩:Gapi_Cell)],rr6) ⟨h,hx7⟩ rfl (za0 rfl) (zae [0,1,2,3,4,5,6] kr rfl)
         refine zdU rfl dc rfl zcy (zyN (za7 rfl (zaI (zaD (zau (zaD ?_))))))
         exact zeh (acc4,(⟨now13,now14,now15⟩:Gapi_Cell),rr6) (show _∧_ from ⟨rfl,hx6⟩) (zae [0] kr rfl)
        refine zyR 6 rfl (zyN (zaN rfl (zyG (zar (k:=1) zhO rfl dc rfl rfl rfl (zba (k:=2) (cs:=[zI now13,zI now14,zI now15]) zfJ rfl dc rfl rfl rfl rfl ?_)))))
        obtain ⟨rr7,hr2,h⟩:=zj9 h
        have hx8:xs=acc4++(⟨now13,now14,now15⟩:Gapi_Cell)::rr7:=by rw [hx4,hr2]
        refine ze3 hy rfl dc rfl hx8 rfl (k:=0) rfl ?_ ?_
        ·
         have hx9:xs=(acc4++[(⟨now13,now14,now15⟩:Gapi_Cell)])++rr7:=by rw [hx8]; simp
         refine zdU rfl dc rfl zcy (zyN (zaN rfl (zas (zag ?_))))
         exact zak (acc4++[(⟨now13,now14,now15⟩:Gapi_Cell)],rr7) ⟨h,hx9⟩ rfl (za0 rfl) (zae [0,1,2,3,4,5,6] kr rfl)
        refine zdU rfl dc rfl zcy (zyN (za7 rfl (zaI (zaD (zau (zaD ?_))))))
        exact zeh (acc4,(⟨now13,now14,now15⟩:Gapi_Cell),rr7) (show _∧_ from ⟨rfl,hx8⟩) (zae [0] kr rfl)
       refine zyR 10 rfl (zyN (zaN rfl (zaJ ?_)))
       refine zax (zar (k:=1) zhO rfl dc rfl rfl rfl (zba (k:=2) (cs:=[zI now13,zI now14,zI now15]) zfJ rfl dc rfl rfl rfl rfl ?_))
       obtain ⟨rr8,hr3,h⟩:=zj9 h
       have hx10:xs=acc4++(⟨now13,now14,now15⟩:Gapi_Cell)::rr8:=by rw [hx4,hr3]
       refine ze3 hy rfl dc rfl hx10 rfl (k:=0) rfl ?_ ?_
       ·
        have hx11:xs=(acc4++[(⟨now13,now14,now15⟩:Gapi_Cell)])++rr8:=by rw [hx10]; simp
        refine zdU rfl dc rfl zcy (zyN (zaN rfl (zas (zag ?_))))
        exact zak (acc4++[(⟨now13,now14,now15⟩:Gapi_Cell)],rr8) ⟨h,hx11⟩ rfl (za0 rfl) (zae [0,1,2,3,4,5,6] kr rfl)
       refine zdU rfl dc rfl zcy (zyN (za7 rfl (zaI (zaD (zau (zaD ?_))))))
       exact zeh (acc4,(⟨now13,now14,now15⟩:Gapi_Cell),rr8) (show _∧_ from ⟨rfl,hx10⟩) (zae [0] kr rfl)
      refine zyR 14 rfl ?_
      refine zyN (zaN rfl (zyG (zar (k:=1) zhO rfl dc rfl rfl rfl (zba (k:=2) (cs:=[zI now13,zI now14,zI now15]) zfJ rfl dc rfl rfl rfl rfl ?_))))
      obtain ⟨rr9,hr4,h⟩:=zj9 h
      have hx12:xs=acc4++(⟨now13,now14,now15⟩:Gapi_Cell)::rr9:=by rw [hx4,hr4]
      refine ze3 hy rfl dc rfl hx12 rfl (k:=0) rfl ?_ ?_
      ·
       have hx13:xs=(acc4++[(⟨now13,now14,now15⟩:Gapi_Cell)])++rr9:=by rw [hx12]; simp
       refine zdU rfl dc rfl zcy (zyN (zaN rfl (zas (zag ?_))))
       exact zak (acc4++[(⟨now13,now14,now15⟩:Gapi_Cell)],rr9) ⟨h,hx13⟩ rfl (za0 rfl) (zae [0,1,2,3,4,5,6] kr rfl)
      refine zdU rfl dc rfl zcy (zyN (za7 rfl (zaI (zaD (zau (zaD ?_))))))
      exact zeh (acc4,(⟨now13,now14,now15⟩:Gapi_Cell),rr9) (show _∧_ from ⟨rfl,hx12⟩) (zae [0] kr rfl)
     refine zyR 5 rfl (zyN (zaN rfl (zyG (zar (k:=3) ziU rfl dc rfl rfl rfl (zaT rfl zce (zyR 1 rfl ?_))))))
     refine zyS (s:=41) rfl h (fun h => ?_) (fun h => ?_)
     ·
      refine zar (k:=3) ziU rfl dc rfl rfl rfl (zaT rfl zce (zyR 2 rfl ?_))
      refine zyS (s:=45) rfl h (fun h => ?_) (fun h => ?_)
      ·
       refine zar (k:=3) ziU rfl dc rfl rfl rfl (zaT rfl zce (zyR 2 rfl ?_))
       refine zyS (s:=49) rfl h (fun h => ?_) (fun h => ?_)
       ·
        refine zar (k:=3) ziU rfl dc rfl rfl rfl (zba (k:=4) (cs:=[zI last13,zI last14,.int .i32 last15,.bool last16]) ze6 rfl dc rfl rfl rfl rfl (zba (k:=6) (cs:=(zr2 x1)) ze6 rfl dc rfl rfl rfl rfl ?_))
        obtain ⟨r4,hq5,h⟩:=zbg h
        refine zbq (v:=.bool r4) (vs:=[zI head4,.agg #[zI last13,zI last14,.int .i32 last15,.bool last16],.agg (zr2 x1).toArray]) rfl dc rfl rfl rfl zrO (zgC (behind1:=(⟨last13,last14,last15,last16⟩:Gapi_Piece)) (p1:=x1) hq5) (zyR 2 rfl (zyN ?_))
        refine zyB rfl h (fun h => ?_) (fun h => ?_)
        ·
         refine zyG (zab zh6 rfl dc rfl (show _=0 from rfl) (zar (k:=6) zbh rfl dc rfl rfl rfl (zab zjk rfl dc rfl (show _=1 from rfl) (zar (k:=6) zbh rfl dc rfl rfl rfl ?_))))
         obtain ⟨hg4,h⟩:=zbk h
         refine zaT rfl (zaQ (r:=x1.At+x1.Width) (IntWalk.i64_in _ hg4)) (zab zen rfl dc rfl (show _=0 from rfl) (zab zdD rfl dc rfl (show _=1 from rfl) ?_))
         refine za5 (k:=2) (l':=[zI now13,zI (x1.At+x1.Width),zI now15]) zde rfl rfl rfl rfl rfl (fun _ _=>rfl) rfl ?_
         refine zyN (zaJ ?_)
         obtain ⟨r5,hq6,h⟩:=zbg h
         refine zbu 4 [(0,62,.pointer (some ⟨b4,2,none⟩)),(1,63,zI now15),(2,64,.agg (zr2 x1).toArray),(3,65,zI r5)] mixed kr kr dc (by rfl) kr kr (zad ?_ (zad ?_ (zad ?_ (zad ?_ DrawPre.nil)))) ?_
         · exact fun D n d c u i=>zab zf0 rfl dc (za9 (by rfl) rfl) (show _=2 from rfl) (zaf 0 u i rfl)
         · exact fun D n d c u i=>zar (k:=2) zbh rfl dc (zaa (m:=0) u rfl (d 0 dc)) rfl rfl (zaf 1 u i rfl)
         · exact fun D n d c u i=>zba (k:=6) (cs:=(zr2 x1)) ze6 rfl dc (za9 (by rfl) rfl) rfl rfl rfl (zaf 2 u i rfl)
         · exact fun D n d c u i=>zbq (v:=zI r5) (vs:=[.agg (zr2 x1).toArray]) rfl dc rfl (evL.cons (zaa (m:=2) u rfl (d 2 dc)) evL.nil) rfl zp4 (ze1 (p1:=x1) hq6) (zaf 3 u i rfl)
         refine zkf rfl dc rfl rfl (zab zf0 rfl dc rfl (show _=2 from rfl) ?_)
         refine za5 (k:=2) (l':=[zI now13,zI (x1.At+x1.Width),zI (max now15 r5)]) zde rfl rfl rfl rfl rfl (fun _ _=>rfl) rfl ?_
         refine zyH (zba (k:=6) (cs:=(zr2 x1)) ze6 rfl dc rfl rfl rfl rfl (zaY (k:=4) (vs:=(zr2 x1)) (l':=(zr2 x1)) zhK rfl rfl rfl rfl rfl (show _≤_ by simp) rfl rfl (zyN (za2 (zct dc (zam (zav ?_)))))))
         exact zg9 (now13,x1.At+x1.Width,max now15 r5,head4,x1.At,x1.Width,x1.Rune,x1.Broken,open5,acc4,rr4) ⟨fun post2 e2=>(by have e9:=zga hxs1 e2; subst e9; subst hag1; exact h),hx4⟩ (zae [0,1,2,3,4,5] kr rfl)
        refine zyG (zar (k:=1) zhO rfl dc rfl rfl rfl (zba (k:=2) (cs:=[zI now13,zI now14,zI now15]) zfJ rfl dc rfl rfl rfl rfl ?_))
        obtain ⟨rr10,hr5,h⟩:=zj9 h
        have hx14:xs=acc4++(⟨now13,now14,now15⟩:Gapi_Cell)::rr10:=by rw [hx4,hr5]
        refine ze3 hy rfl dc rfl hx14 rfl (k:=0) rfl ?_ ?_
        ·
         have hx15:xs=(acc4++[(⟨now13,now14,now15⟩:Gapi_Cell)])++rr10:=by rw [hx14]; simp
         refine zdU rfl dc rfl zcy (zyN (zaN rfl (zas (zag ?_))))
         exact zak (acc4++[(⟨now13,now14,now15⟩:Gapi_Cell)],rr10) ⟨h,hx15⟩ rfl (za0 rfl) (zae [0,1,2,3,4,5,6] kr rfl)
        refine zdU rfl dc rfl zcy (zyN (za7 rfl (zaI (zaD (zau (zaD ?_))))))
        exact zeh (acc4,(⟨now13,now14,now15⟩:Gapi_Cell),rr10) (show _∧_ from ⟨rfl,hx14⟩) (zae [0] kr rfl)
       refine zyR 6 rfl (zyN (zaN rfl (zyG (zar (k:=1) zhO rfl dc rfl rfl rfl (zba (k:=2) (cs:=[zI now13,zI now14,zI now15]) zfJ rfl dc rfl rfl rfl rfl ?_)))))
       obtain ⟨rr11,hr6,h⟩:=zj9 h
       have hx16:xs=acc4++(⟨now13,now14,now15⟩:Gapi_Cell)::rr11:=by rw [hx4,hr6]
       refine ze3 hy rfl dc rfl hx16 rfl (k:=0) rfl ?_ ?_
       ·
        have hx17:xs=(acc4++[(⟨now13,now14,now15⟩:Gapi_Cell)])++rr11:=by rw [hx16]; simp
        refine zdU rfl dc rfl zcy (zyN (zaN rfl (zas (zag ?_))))
        exact zak (acc4++[(⟨now13,now14,now15⟩:Gapi_Cell)],rr11) ⟨h,hx17⟩ rfl (za0 rfl) (zae [0,1,2,3,4,5,6] kr rfl)
       refine zdU rfl dc rfl zcy (zyN (za7 rfl (zaI (zaD (zau (zaD ?_))))))
       exact zeh (acc4,(⟨now13,now14,now15⟩:Gapi_Cell),rr11) (show _∧_ from ⟨rfl,hx16⟩) (zae [0] kr rfl)
      refine zyR 10 rfl (zyN (zaN rfl (zaJ ?_)))
      refine zax (zar (k:=1) zhO rfl dc rfl rfl rfl (zba (k:=2) (cs:=[zI now13,zI now14,zI now15]) zfJ rfl dc rfl rfl rfl rfl ?_))
      obtain ⟨rr12,hr7,h⟩:=zj9 h
      have hx18:xs=acc4++(⟨now13,now14,now15⟩:Gapi_Cell)::rr12:=by rw [hx4,hr7]
      refine ze3 hy rfl dc rfl hx18 rfl (k:=0) rfl ?_ ?_
      ·
       have hx19:xs=(acc4++[(⟨now13,now14,now15⟩:Gapi_Cell)])++rr12:=by rw [hx18]; simp
       refine zdU rfl dc rfl zcy (zyN (zaN rfl (zas (zag ?_))))
       exact zak (acc4++[(⟨now13,now14,now15⟩:Gapi_Cell)],rr12) ⟨h,hx19⟩ rfl (za0 rfl) (zae [0,1,2,3,4,5,6] kr rfl)
      refine zdU rfl dc rfl zcy (zyN (za7 rfl (zaI (zaD (zau (zaD ?_))))))
      exact zeh (acc4,(⟨now13,now14,now15⟩:Gapi_Cell),rr12) (show _∧_ from ⟨rfl,hx18⟩) (zae [0] kr rfl)
     refine zyR 14 rfl ?_
     refine zyN (zaN rfl (zyG (zar (k:=1) zhO rfl dc rfl rfl rfl (zba (k:=2) (cs:=[zI now13,zI now14,zI now15]) zfJ rfl dc rfl rfl rfl rfl ?_))))
     obtain ⟨rr13,hr8,h⟩:=zj9 h
     have hx20:xs=acc4++(⟨now13,now14,now15⟩:Gapi_Cell)::rr13:=by rw [hx4,hr8]
     refine ze3 hy rfl dc rfl hx20 rfl (k:=0) rfl ?_ ?_
     ·
      have hx21:xs=(acc4++[(⟨now13,now14,now15⟩:Gapi_Cell)])++rr13:=by rw [hx20]; simp
      refine zdU rfl dc rfl zcy (zyN (zaN rfl (zas (zag ?_))))
      exact zak (acc4++[(⟨now13,now14,now15⟩:Gapi_Cell)],rr13) ⟨h,hx21⟩ rfl (za0 rfl) (zae [0,1,2,3,4,5,6] kr rfl)
     refine zdU rfl dc rfl zcy (zyN (za7 rfl (zaI (zaD (zau (zaD ?_))))))
     exact zeh (acc4,(⟨now13,now14,now15⟩:Gapi_Cell),rr13) (show _∧_ from ⟨rfl,hx20⟩) (zae [0] kr rfl)
    rintro ⟨acc5,rr5⟩ ⟨h,hx5⟩
    rw [hj2] at h
    refine zaJ ?_
    refine let vals1:(Unit)→List (Nat×Nat×Value):=fun b=>[(0,69,zI (zdd x1.Broken x1.Rune)),(1,70,.agg (zr2 x1).toArray)]; let LL1:(Nat→Prop)→(Unit)→List Asn:=fun D b=>[I acc5,cells b1 [.func (.yield l) #[] #[]] 184,cells b4 [zI now13,zI now14,zI now15] 106,eD D (cells b5 [zI head4] 185) [(3,cells b5 [zI (zdd x1.Broken x1.Rune)] 185)],cells b6 [zI last13,zI last14,.int .i32 last15,.bool last16] 187,eD D (cells b7 [.bool open5] 4) [(2,cells b7 [.bool true] 4)],cells jb1 (zr2 x1) 187]; ?_
    have zhq:zyQ [2,3] LL1:=fun i h D b=>zac rfl (zac rfl (zac rfl (zac (zjd rfl h) (zac rfl (zac (zjd rfl h) rfl)))))
    refine zdI (β:=Unit) 4 () vals1 LL1 mixed kr kr dc (fun _=>rfl) (zcw (zac zbS (zac rfl (zac zbS rfl)))) (zld zhq (fun _=>rfl) (fun _=>rfl) 1 0 (fun _=>rfl) rfl (ziq zhq rfl (fun _=>rfl) (fun _=>rfl) ?_ (zat ?_ (zat ?_ DrawG.nil)))) ?_
    · exact fun D b n d c u i=>⟨_,(zuE rfl),zba (k:=6) (cs:=(zr2 x1)) ze6 rfl dc (za9 (by rfl) rfl) rfl rfl rfl (zaf 1 u i rfl)⟩
    ·
     intro D b hn hd hcl
     refine zaG (zcw (zac (zai (fun hD=>hn (hcl 3 _ rfl hD 2 dc)) zap) (zac rfl (zac (zai hn zap) rfl)))) ?_
     refine za5 (k:=5) (l':=[.bool true]) zuH rfl (za9 (by rfl) rfl) rfl rfl rfl (fun _ _=>rfl) rfl ?_
     exact zha (b:=b) () (by rfl) (zts rfl) (zcw (zac ((zao (by rfl)).trans (zai (fun hD=>hn (hcl 3 _ rfl hD 2 dc)) zap)) (zac rfl (zac (zaH (Or.inr rfl) rfl) rfl))))
    ·
     intro D b hn hd hcl
     refine zaG (zcw (zac (zai hn zap) (zac rfl (zac (zaH (hd 2 dc) rfl) rfl)))) ?_
     refine za5 (k:=3) (l':=[zI (zdd x1.Broken x1.Rune)]) ztI rfl (za9 (by rfl) rfl) (zaa (m:=0) rfl rfl (hd 0 dc)) rfl rfl (fun _ _=>rfl) rfl ?_
     exact zha (b:=b) () (by rfl) (zts rfl) (zcw (zac (zaH (Or.inr rfl) rfl) (zac rfl (zac ((zao (by rfl)).trans (zaH (hd 2 dc) rfl)) rfl))))
    intro D b hall
    refine zaG (zcw (zac (zaH (hall 3 dc) rfl) (zac rfl (zac (zaH (hall 2 dc) rfl) rfl)))) (zaY (k:=4) (vs:=(zr2 x1)) (l':=(zr2 x1)) zhK rfl rfl rfl rfl rfl (show _≤_ by simp) rfl rfl (zyN ?_))
    obtain ⟨hg5,h⟩:=zbk h
    obtain ⟨r6,hq7,h⟩:=zbg h
    refine zbu 10 [(0,71,zP jb1),(1,72,zI x1.At),(2,73,zP jb1),(3,74,zI x1.At),(4,75,.pointer (some ⟨jb1,1,none⟩)),(5,76,zI x1.Width),(6,77,zI (x1.At+x1.Width)),(7,78,.agg #[zI x1.At,zI (x1.At+x1.Width)]),(8,79,.agg (zr2 x1).toArray),(9,80,zI r6)] mixed kr kr dc (by rfl) kr kr (zad ?_ (zad ?_ (zad ?_ (zad ?_ (zad ?_ (zad ?_ (zad ?_ (zad ?_ (zad ?_ (zad ?_ DrawPre.nil)))))))))) ?_
    · exact fun D n d c u i=>zab zh6 rfl dc (za9 (by rfl) rfl) (show _=0 from rfl) (zaf 0 u i rfl)
    · exact fun D n d c u i=>zar (k:=6) zbh rfl dc (zaa (m:=0) u rfl (d 0 dc)) rfl rfl (zaf 1 u i rfl)
    · exact fun D n d c u i=>zab zh6 rfl dc (za9 (by rfl) rfl) (show _=0 from rfl) (zaf 2 u i rfl)
    · exact fun D n d c u i=>zar (k:=6) zbh rfl dc (zaa (m:=2) u rfl (d 2 dc)) rfl rfl (zaf 3 u i rfl)
    · exact fun D n d c u i=>zab zjk rfl dc (za9 (by rfl) rfl) (show _=1 from rfl) (zaf 4 u i rfl)
    · exact fun D n d c u i=>zar (k:=6) zbh rfl dc (zaa (m:=4) u rfl (d 4 dc)) rfl rfl (zaf 5 u i rfl)
    · exact fun D n d c u i=>zbM rfl dc (zaa (m:=3) u rfl (d 3 dc)) (zaa (m:=5) u rfl (d 5 dc)) (zaQ (r:=x1.At+x1.Width) (IntWalk.i64_in _ hg5)) (zaf 6 u i rfl)
    · exact fun D n d c u i=>za3 (v:=.agg #[zI x1.At,zI (x1.At+x1.Width)]) (ps:=[(0,.tmp 72),(1,.tmp 77)]) rfl dc (evP.cons (zaa (m:=1) u rfl (d 1 dc)) (evP.cons (zaa (m:=6) u rfl (d 6 dc)) evP.nil)) (fun _=>by kernel_rfl) (zaf 7 u i rfl)
    · exact fun D n d c u i=>zba (k:=6) (cs:=(zr2 x1)) ze6 rfl dc (za9 (by rfl) rfl) rfl rfl rfl (zaf 8 u i rfl)
    · exact fun D n d c u i=>zbq (v:=zI r6) (vs:=[.agg (zr2 x1).toArray]) rfl dc rfl (evL.cons (zaa (m:=8) u rfl (d 8 dc)) evL.nil) rfl zp4 (ze1 (p1:=x1) hq7) (zaf 9 u i rfl)
    refine za3 (v:=.agg #[zI x1.At,zI (x1.At+x1.Width),zI r6]) (ps:=[(0,.tmp 78),(1,.tmp 80)]) rfl dc rfl (fun _=>by kernel_rfl) ?_
    refine zaY (k:=2) (vs:=[zI x1.At,zI (x1.At+x1.Width),zI r6]) (l':=[zI x1.At,zI (x1.At+x1.Width),zI r6]) zfl rfl rfl rfl rfl rfl (show _≤_ by simp) rfl rfl ?_
    refine zaR (zag ?_)
    exact zg9 (x1.At,x1.At+x1.Width,r6,zdd x1.Broken x1.Rune,x1.At,x1.Width,x1.Rune,x1.Broken,true,acc5,rr5) ⟨fun post2 e2=>(by have e9:=zga hxs1 e2; subst e9; subst hag1; exact h),hx5⟩ (zae [0,1,2,3,4,5] kr rfl)
   ·
    rintro dm1 ⟨now13,now14,now15,head4,last13,last14,last15,last16,open5,acc4,rr4⟩ hinv
    obtain ⟨hinv,hx4⟩:=hinv
    have h:dn1 now13 now14 now15 head4 last13 last14 last15 last16 open5=some rr4:=hinv [] (List.append_nil _).symm
    rw [hdn1] at h
    refine zhE (k:=14) (j:=1) rfl rfl dc ?_
    refine zag ?_
    exact zak (now13,now14,now15,open5,acc4,rr4,b4,b7,dm1::([]:List Nat)) ⟨h,hx4⟩ rfl (za0 rfl) (zae [8,9,10,13,1] kr rfl)
   rintro dm1 c pre x1 post g hxs hX
   obtain ⟨ta1,tq1,tr1⟩:=g
   obtain ⟨rfl,hx22⟩:=(show _∧_ from hX)
   refine znS (k:=9) (j:=1) rfl rfl dc ?_
   refine zaI (zaD (zau (zdP (by simp) ?_)))
   exact zma (ds:=(dm1::([]:List Nat))) ta1 tq1 tr1 hx22 (.inl rfl) (zeO (k:=1) rfl) Tryd.results98 (zae [8] kr rfl)
  rintro ⟨now1,now2,now3,zc1,acc1,rr1,b2,b3,ds1⟩ ⟨h,hx1⟩
  rw [hj1] at h
  refine zyG (zar (k:=3) zpr rfl dc rfl rfl rfl (zyN ?_))
  refine zyB rfl h (fun h => ?_) (fun h => ?_)
  ·
   refine zax (zar (k:=1) zhO rfl dc rfl rfl rfl (zba (k:=2) (cs:=[zI now1,zI now2,zI now3]) zfJ rfl dc rfl rfl rfl rfl ?_))
   obtain ⟨rr14,hr9,h⟩:=zj9 h
   have hx23:xs=acc1++(⟨now1,now2,now3⟩:Gapi_Cell)::rr14:=by rw [hx1,hr9]
   refine ze3 hy rfl dc rfl hx23 rfl (k:=0) rfl ?_ ?_
   ·
    have hx24:xs=(acc1++[(⟨now1,now2,now3⟩:Gapi_Cell)])++rr14:=by rw [hx23]; simp
    refine zaR (zdP (by simp) ?_)
    cases h
    exact zl9 (ds:=ds1) (.inr rfl) (zeO (k:=4) rfl) Tryd.results98 (congrArg I (hx24.trans (List.append_nil _))) (zae [0] kr rfl)
   refine zaR (zdP (by simp) ?_)
   exact zma (ds:=ds1) acc1 (⟨now1,now2,now3⟩:Gapi_Cell) rr14 hx23 (.inr rfl) (zeO (k:=4) rfl) Tryd.results98 (zae [0] kr rfl)
  refine zas (zdP (by simp) ?_)
  cases h
  exact zl9 (ds:=ds1) (.inr rfl) (zeO (k:=4) rfl) Tryd.results98 (congrArg I (hx1.trans (List.append_nil _))) (zae [0] kr rfl)
 exact fun b hb=>hb.elim
def zf6 (s1:ByteArray):Option ByteArray :=
some s1
theorem zkc {s1:ByteArray} {r:ByteArray} (h:zf6 s1=some r):Fn Tryd.prog 79 [.string s1] [] (fun v0:Nat=>.func (.func 98) #[] #[zP v0]) (fun v0=>[cells v0 [.string r] 9]):=by
 unfold zf6 at h
 refine Fn.intro Tryd.func79 rfl Tryd.ntmps79 (by simp) ?_
 intro w0 K
 refine zyG ?_
 refine zdQ rfl dc rfl (fun b1 => ?_)
 refine zyR 1 rfl (zyH (zhF (x1:=[]) (x2:=[.tmp 1]) rfl dc rfl rfl (zyR 1 rfl (zyN (zaI ?_)))))
 cases h
 exact zaK (rs:=[.tmp 2]) b1 (.inl rfl) Tryd.results79 (.cons (.tmp rfl) .nil) rfl (zae [0] kr rfl)
end Go.Proofs.YtbempdelckaccaaDoor

namespace Go.Proofs.YtbempdelckaccaaDoor
open Go.RowKit Go.Lib
set_option linter.unusedVariables false
set_option linter.unusedSimpArgs false
theorem zfA (s:ByteArray):s.data.toList.length=s.size:=by rw [Array.length_toList]; rfl
def zkt (r:Int):Bool→List Int→Bool
 | _,[]=>false
 | false,e::es=>if r<e then false else zkt r true es
 | true,e::es=>if r≤e then true else zkt r false es
def zo6:List Int:=(pcs (⟨#[225,132,128,225,133,159,226,186,128,227,128,190,227,129,129,228,182,191,228,184,128,234,147,143,234,176,128,237,158,163,239,164,128,239,171,191,239,184,176,239,185,175,239,188,128,239,189,160,239,191,160,239,191,166,240,159,140,128,240,159,153,143,240,159,164,128,240,159,167,191,240,160,128,128,240,191,191,189]⟩:ByteArray).data.toList).map fun p=>(p.r:Int)
def zli (r:Int):Bool:=zkt r false zo6
theorem ztB (r:Int):zd6 r=some (zli r):=by
 unfold zd6 zli zo6
 refine zbE ?_
 generalize hP:pcs (⟨#[225,132,128,225,133,159,226,186,128,227,128,190,227,129,129,228,182,191,228,184,128,234,147,143,234,176,128,237,158,163,239,164,128,239,171,191,239,184,176,239,185,175,239,188,128,239,189,160,239,191,160,239,191,166,240,159,140,128,240,159,153,143,240,159,164,128,240,159,167,191,240,160,128,128,240,191,191,189]⟩:ByteArray).data.toList=P
 have hlen:P.length≤1000:=by rw [← hP]; decide +kernel
 have key:∀ (n m:Nat) (w:Bool),m≤P.length→P.length - m<n→zaF (fun _ _=>none) (zcW r (some false)) n w m=some (zkt r w ((P.drop m).map fun p=>(p.r:Int))):=by
  intro n
  induction n with
  | zero=>intro m w _ h; omega
  | succ n ih =>
   intro m w hm hn
   rw [zcv]
   generalize zaF (fun _ _=>none) (zcW r (some false)) n=ag at ih ⊢
   unfold zcW
   rw [hP]
   by_cases h:m<P.length
   ·have hx:P[m]?=some P[m]:=List.getElem?_eq_getElem h
    have hd:=List.drop_eq_getElem_cons h
    generalize P[m]=p at hx hd
    have hn1:=fun w=>ih (m+1) w (by omega) (by omega)
    refine zaz (decide_eq_true h) (zaM hx (zbE ?_))
    rw [hd,List.map_cons]
    cases w with
    | false =>
     refine zaz rfl ?_
     unfold zkt
     by_cases h1:r<(p.r:Int)
     ·rw [if_pos h1]; exact zaz (decide_eq_true h1) rfl
     ·rw [if_neg h1]; exact zay (decide_eq_false h1) (zay rfl (hn1 true))
    | true =>
     refine zay rfl (zaz rfl ?_)
     unfold zkt
     by_cases h1:r≤(p.r:Int)
     ·rw [if_pos h1]; exact zaz (decide_eq_true h1) rfl
     ·rw [if_neg h1]; exact zay (decide_eq_false h1) (hn1 false)
   ·have:m=P.length:=by omega
    subst this
    refine zay (decide_eq_false h) ?_
    rw [List.drop_length]
    cases w <;> rfl
 have:=key zbW 0 false (Nat.zero_le _) (by have:=zb5 (n:=P.length) (by omega); omega)
 rw [List.drop_zero] at this
 exact this
def kdP (x:Gapi_Piece):Int:=zdd x.Broken x.Rune
def zgi (x:Gapi_Piece):Int:=if kdP x=11 then 1 else if kdP x=2∨kdP x=4∨kdP x=9 then 0 else if zli x.Rune=true then 2 else 1
theorem znK (x:Gapi_Piece):0≤zgi x∧zgi x≤2:=by
 unfold zgi; repeat' split
 all_goals omega
theorem zfV {a b:Int} (h:a=b):(a==b)=true:=by rw [h]; exact beq_self_eq_true _
theorem zfW {a b:Int} (h:a≠b):(a==b)=false:=beq_eq_false_iff_ne.2 h
theorem zsM {a b:Int} (h:a≠b):(a != b)=true:=bne_iff_ne.2 h
theorem zuJ {a b:Int} (h:a=b):(a != b)=false:=by rw [h]; exact bne_self_eq_false _
theorem zka (x:Gapi_Piece) (hx:I32 x.Rune):zbB x=some (zgi x):=by
 unfold zbB zgi
 refine zbm hx ?_
 change zaw (kdP x==11) _ _=_
 by_cases h1:kdP x=11
 ·rw [if_pos h1]; exact zaz (zfV h1) rfl
 rw [if_neg h1]
 refine zay (zfW h1) (zbE ?_)
 change zaw (kdP x==2) (zaw (kdP x==2) _ _) (zaw (kdP x==4) (zaw (kdP x==4) _ _) (zaw (kdP x==9) _ _))=_
 have wd:(zal (zd6 x.Rune) fun (r1:Bool)=>zaw (r1) (some (2:Int)) (some 1))=some (if zli x.Rune=true then 2 else 1):=by
  refine zaM (ztB x.Rune) ?_
  cases zli x.Rune <;> rfl
 by_cases h2:kdP x=2
 ·rw [if_pos (.inl h2)]; exact zaz (zfV h2) (zaz (zfV h2) rfl)
 refine zay (zfW h2) ?_
 by_cases h4:kdP x=4
 ·rw [if_pos (.inr (.inl h4))]; exact zaz (zfV h4) (zaz (zfV h4) rfl)
 refine zay (zfW h4) ?_
 by_cases h9:kdP x=9
 ·rw [if_pos (.inr (.inr h9))]; exact zaz (zfV h9) rfl
 rw [if_neg (by omega)]
 exact zay (zfW h9) wd
def zhi (head behind:Int) (x:Gapi_Piece):Bool:=if x.Broken then false else if kdP x=2 then true else if x.Rune=8205 then true else if head=10 then (if kdP x=10 then decide (behind=8205) else false) else false
theorem zsQ (head:Int) (b x:Gapi_Piece) (hx:I32 x.Rune):zdi head b x=some (zhi head b.Rune x):=by
 unfold zdi zhi
 cases hb:x.Broken with
 | true=>exact zaz rfl rfl
 | false =>
  refine zay rfl (zbm hx ?_)
  have hk:kdP x=zdd false x.Rune:=by unfold kdP; rw [hb]
  rw [← hk]
  simp only [Bool.false_eq_true,if_false]
  by_cases h2:kdP x=2
  ·rw [if_pos h2]; exact zaz (zfV h2) rfl
  rw [if_neg h2]
  refine zay (zfW h2) ?_
  by_cases hj:x.Rune=8205
  ·rw [if_pos hj]; exact zaz (zfV hj) rfl
  rw [if_neg hj]
  refine zay (zfW hj) ?_
  by_cases hh:head=10
  ·rw [if_pos hh]
   refine zaz (zfV hh) ?_
   by_cases h10:kdP x=10
   ·rw [if_pos h10]
    refine zaz (zfV h10) ?_
    by_cases e:b.Rune=8205
    ·rw [decide_eq_true e,zfV e]
    ·rw [decide_eq_false e,zfW e]
   ·rw [if_neg h10]; exact zay (zfW h10) rfl
  ·rw [if_neg hh]; exact zay (zfW hh) rfl
def zjx (head last:Int) (x:Gapi_Piece):Bool:=head != 11&&(head != 4&&(head != 9&&zhi head last x))
def zfT:Gapi_Cell→Int→Int→List Gapi_Piece→List Gapi_Cell
 | c,_,_,[]=>[c]
 | c,head,last,x::xs =>
  if last=13∧x.Rune=10 then zfT ⟨c.Span_From,x.At+x.Width,c.Columns⟩ head x.Rune xs
  else if zjx head last x=true then zfT ⟨c.Span_From,x.At+x.Width,max c.Columns (zgi x)⟩ head x.Rune xs
  else c::zfT ⟨x.At,x.At+x.Width,zgi x⟩ (kdP x) x.Rune xs
theorem zfc (c:Gapi_Cell) (head last:Int) (x:Gapi_Piece) (xs:List Gapi_Piece):zfT c head last (x::xs)=if last=13∧x.Rune=10 then zfT ⟨c.Span_From,x.At+x.Width,c.Columns⟩ head x.Rune xs
  else if zjx head last x=true then zfT ⟨c.Span_From,x.At+x.Width,max c.Columns (zgi x)⟩ head x.Rune xs
  else c::zfT ⟨x.At,x.At+x.Width,zgi x⟩ (kdP x) x.Rune xs:=rfl
def zgD:List Gapi_Piece→List Gapi_Cell
 | []=>[]
 | x::xs=>zfT ⟨x.At,x.At+x.Width,zgi x⟩ (kdP x) x.Rune xs
def zaj (s:ByteArray):List Gapi_Cell:=zgD ((pcs s.data.toList).map pcG)
def okP (x:Gapi_Piece):Prop:=I32 x.Rune∧0≤x.At∧x.At≤4000000000∧0<x.Width∧x.Width≤4
theorem zp7 (d:Int→Int→Int→Int→Int→Int→Int→Bool→Bool→Option (List Gapi_Cell)) (hd:∀ a b c h l1 l2 l3 l4,d a b c h l1 l2 l3 l4 true=some [⟨a,b,c⟩]) :
  ∀ (xs:List Gapi_Piece) (a b c h l1 l2 l3:Int) (l4:Bool),(∀ x∈xs,okP x)→zeL d zbY xs a b c h l1 l2 l3 l4 true=some (zfT ⟨a,b,c⟩ h l3 xs)
 | [],a,b,c,h,l1,l2,l3,l4,_=>hd a b c h l1 l2 l3 l4
 | x::xs,a,b,c,h,l1,l2,l3,l4,ho=>by
  obtain ⟨o1,o2,o3,o4,o5⟩:=ho x (List.mem_cons_self ..)
  have ih:=fun a b c h l1 l2 l3 l4=>zp7 d hd xs a b c h l1 l2 l3 l4 (fun y hy=>ho y (List.mem_cons_of_mem _ hy))
  rw [zht]
  generalize zeL d zbY xs=ag at ih ⊢
  unfold zbY
  refine zbE (zbm o1 (zay rfl ?_))
  have hI:I64 (x.At+x.Width):=⟨by omega,by omega⟩
  have new:(grd (I64 (x.At+x.Width))<|zal (zbB x) fun (r6:Int)=>ag x.At (x.At+x.Width) r6 (zdd x.Broken x.Rune) x.At x.Width x.Rune x.Broken true)=some (zfT ⟨x.At,x.At+x.Width,zgi x⟩ (kdP x) x.Rune xs) :=
   zbm hI (zaM (zka x o1) (ih ..))
  have rest:¬ (l3=13∧x.Rune=10)→zaw ((h:Int) != 11) (zaw ((h:Int) != 4) (zaw ((h:Int) != 9) (zal (zdi h (⟨l1,l2,l3,l4⟩:Gapi_Piece) x) fun (r2:Bool)=>zaw (r2) (grd (I64 (x.At+x.Width))<|zal (zbB x) fun (r3:Int)=>ag a (x.At+x.Width) (max c r3) h x.At x.Width x.Rune x.Broken true)
    (zgW (⟨a,b,c⟩:Gapi_Cell)<|(grd (I64 (x.At+x.Width))<|zal (zbB x) fun (r6:Int)=>ag x.At (x.At+x.Width) r6 (zdd x.Broken x.Rune) x.At x.Width x.Rune x.Broken true)))
    (zgW (⟨a,b,c⟩:Gapi_Cell)<|(grd (I64 (x.At+x.Width))<|zal (zbB x) fun (r6:Int)=>ag x.At (x.At+x.Width) r6 (zdd x.Broken x.Rune) x.At x.Width x.Rune x.Broken true)))
    (zgW (⟨a,b,c⟩:Gapi_Cell)<|(grd (I64 (x.At+x.Width))<|zal (zbB x) fun (r6:Int)=>ag x.At (x.At+x.Width) r6 (zdd x.Broken x.Rune) x.At x.Width x.Rune x.Broken true)))
    (zgW (⟨a,b,c⟩:Gapi_Cell)<|(grd (I64 (x.At+x.Width))<|zal (zbB x) fun (r6:Int)=>ag x.At (x.At+x.Width) r6 (zdd x.Broken x.Rune) x.At x.Width x.Rune x.Broken true))=some (zfT ⟨a,b,c⟩ h l3 (x::xs)):=by
   intro hn
   rw [new,zfc,if_neg hn]
   unfold zjx
   cases h1:(h != 11) with
   | false=>exact zay rfl rfl
   | true =>
    refine zaz rfl ?_
    cases h2:(h != 4) with
    | false=>exact zay rfl rfl
    | true =>
     refine zaz rfl ?_
     cases h3:(h != 9) with
     | false=>exact zay rfl rfl
     | true =>
      refine zaz rfl (zaM (zsQ h _ x o1) ?_)
      show zaw (zhi h l3 x) _ _=some (if (true&&(true&&(true&&zhi h l3 x)))=true then _ else _)
      cases h4:zhi h l3 x with
      | false=>exact zay rfl rfl
      | true=>exact zaz rfl (zbm hI (zaM (zka x o1) (ih ..)))
  by_cases hr:l3=13
  ·refine zaz (zfV hr) ?_
   by_cases hx:x.Rune=10
   ·refine zaz (zfV hx) (zbm hI ?_)
    rw [ih,zfc,if_pos ⟨hr,hx⟩]
   ·exact zay (zfW hx) (rest (fun e=>hx e.2))
  ·exact zay (zfW hr) (rest (fun e=>hr e.1))
theorem zsK (s:ByteArray) (hs:s.size≤2147483648):∀ x∈(pcs s.data.toList).map pcG,okP x:=by
 intro x hx
 obtain ⟨p,hp,rfl⟩:=List.mem_map.1 hx
 obtain ⟨g1,g2,hok⟩:=zfN s.data.toList p hp
 have hl:=zfA s
 have h1:=hok.pos
 have hv:=hok.valid
 have hw:p.w≤4:=by
  by_cases h:p.r=65533∧p.w=1
  ·omega
  ·rw [← hok.width h]; exact (zhn _).2
 refine ⟨⟨?_,?_⟩,?_,?_,?_,?_⟩
 ·show -2147483648≤(p.r:Int); omega
 ·show (p.r:Int)≤2147483647; omega
 ·show 0≤(p.i:Int); omega
 ·show (p.i:Int)≤4000000000; omega
 ·show 0<(p.w:Int); omega
 ·show (p.w:Int)≤4; omega
theorem zuu (s:ByteArray) (hs:s.size≤2147483648):zd2 s=some (zaj s):=by
 unfold zd2
 refine zbE (zaM rfl (zaM (zsI s hs) (zbE ?_)))
 have ho:=zsK s hs
 unfold zaj
 generalize (pcs s.data.toList).map pcG=P at ho
 cases P with
 | nil=>rfl
 | cons x xs =>
  obtain ⟨o1,o2,o3,o4,o5⟩:=ho x (List.mem_cons_self ..)
  rw [zht]
  have ih:=zp7 (fun (now13:Int) (now14:Int) (now15:Int) (head4:Int) (last13:Int) (last14:Int) (last15:Int) (last16:Bool) (open5:Bool)=>zaw (open5) (zgW (⟨now13,now14,now15⟩:Gapi_Cell)<|some []) (some [])) (fun a b c h l1 l2 l3 l4=>rfl) xs x.At (x.At+x.Width) (zgi x) (kdP x) x.At x.Width x.Rune x.Broken (fun y hy=>ho y (List.mem_cons_of_mem _ hy))
  generalize zeL _ zbY xs=ag at ih ⊢
  unfold zbY
  exact zbE (zbm o1 (zaz rfl (zbm ⟨by omega,by omega⟩ (zaM (zka x o1) ih))))
def Cov:Int→List Gapi_Cell→Int→Prop
 | a,[],b=>a=b
 | a,c::cs,b=>c.Span_From=a∧a<c.Span_To∧(0≤c.Columns∧c.Columns≤2)∧Cov c.Span_To cs b
def zuA:Int→List Gapi_Piece→Int→Prop
 | a,[],b=>a=b
 | a,x::xs,b=>x.At=a∧0<x.Width∧zuA (a+x.Width) xs b
theorem zil:∀ (xs:List Gapi_Piece) (c:Gapi_Cell) (h l:Int) (b:Int),c.Span_From<c.Span_To→0≤c.Columns∧c.Columns≤2→zuA c.Span_To xs b→Cov c.Span_From (zfT c h l xs) b
 | [],c,h,l,b,h1,h2,h3=>⟨rfl,h1,h2,h3⟩
 | x::xs,c,h,l,b,h1,h2,h3=>by
  obtain ⟨g1,g2,g3⟩:=h3
  rw [← g1] at g3
  have hc:=znK x
  rw [zfc]
  split
  ·exact zil xs ⟨c.Span_From,x.At+x.Width,c.Columns⟩ h x.Rune b (by show c.Span_From<x.At+x.Width; omega) h2 g3
  split
  ·exact zil xs ⟨c.Span_From,x.At+x.Width,max c.Columns (zgi x)⟩ h x.Rune b (by show c.Span_From<x.At+x.Width; omega) ⟨by show 0≤max c.Columns (zgi x); omega,by show max c.Columns (zgi x)≤2; omega⟩ g3
  ·refine ⟨rfl,h1,h2,?_⟩
   have:=zil xs ⟨x.At,x.At+x.Width,zgi x⟩ (kdP x) x.Rune b (by show x.At<x.At+x.Width; omega) hc g3
   rw [← g1]; exact this
theorem zoQ {xs:List Gapi_Piece} {a b:Int} (h:zuA a xs b):Cov a (zgD xs) b:=by
 cases xs with
 | nil=>exact h
 | cons x xs =>
  obtain ⟨g1,g2,g3⟩:=h
  rw [← g1] at g3 ⊢
  exact zil xs ⟨x.At,x.At+x.Width,zgi x⟩ (kdP x) x.Rune b (by show x.At<x.At+x.Width; omega) (znK x) g3
theorem zmD:∀ (ts:List Tok) (i:Nat),(∀ t∈ts,t.valid∨t.broken=true)→zuA (i:Int) ((place i ts).map pcG) ((i+(zgG ts).length:Nat):Int)
 | [],i,_=>rfl
 | t::ts,i,h=>by
  have hb:=List.length_pos_iff.2 (ztb (h t (List.mem_cons_self ..)))
  have ih:=zmD ts (i+t.bs.length) fun u hu=>h u (List.mem_cons_of_mem _ hu)
  refine ⟨rfl,?_,?_⟩
  ·show 0<(t.bs.length:Int); omega
  ·show zuA ((i:Int)+(t.bs.length:Int)) _ _
   rw [show (i:Int)+(t.bs.length:Int)=((i+t.bs.length:Nat):Int) by omega,zgO,List.length_append,← Nat.add_assoc]
   exact ih
theorem zep (s:ByteArray):Cov 0 (zaj s) (s.size:Int):=by
 unfold zaj
 refine zoQ ?_
 have h:=zmD (zko s.data.toList) 0 (zsl _)
 rw [zpU,Nat.zero_add,zfA] at h
 rw [show pcs s.data.toList=place 0 (zko s.data.toList) from zpC _ 0]
 exact h
theorem zg7 (s:ByteArray):(zaj s).length≤s.size:=by
 have hc:=zep s
 have key:∀ (cs:List Gapi_Cell) (a b:Int),Cov a cs b→a+cs.length≤b:=by
  intro cs
  induction cs with
  | nil=>intro a b h; have:a=b:=h; simp; omega
  | cons c cs ih =>
   intro a b h
   obtain ⟨h1,h2,_,h3⟩:=h
   have:=ih _ _ h3
   rw [List.length_cons]; push_cast; omega
 have:=key _ _ _ hc
 omega
end Go.Proofs.YtbempdelckaccaaDoor

namespace Go.Proofs.YtbempdelckaccaaDoor
open Go.RowKit Go.Lib
set_option linter.unusedVariables false
set_option linter.unusedSimpArgs false
def zfB (l1:Gapi_Layout):Option Bool :=
zaw (decide ((8:Int)≤l1.Width)) (
zaw (decide ((l1.Width:Int)≤256)) (
zaw (decide ((4:Int)≤l1.Height)) (
zaw (decide ((l1.Height:Int)≤200)) (
zaw (decide ((0:Int)≤l1.Turn)) (
zaw (decide ((l1.Turn:Int)≤7)) (
zaw (decide ((0:Int)≤l1.Every)) (
some (decide ((l1.Every:Int)≤512))
) (
some false
)
) (
some false
)
) (
some false
)
) (
some false
)
) (
some false
)
) (
some false
)
) (
some false
)
theorem zjL {l1:Gapi_Layout} {r:Bool} (h:zfB l1=some r):FnP Tryd.prog 29 [.agg (zr0 l1).toArray] (.bool r):=by
 unfold zfB at h
 refine FnP.intro Tryd.func29 rfl Tryd.ntmps29 (by simp) ?_
 intro w0 K
 refine zyG ?_
 refine zdQ rfl dc rfl (fun b1 => ?_)
 refine zyR 1 rfl (zyH (zab zgo rfl dc rfl (show _=0 from rfl) (zar (k:=0) zbh rfl dc rfl rfl rfl (zaT rfl ze2 (zyR 1 rfl ?_)))))
 refine zyS (s:=6) rfl h (fun h => ?_) (fun h => ?_)
 ·
  refine zab zgo rfl dc rfl (show _=0 from rfl) (zar (k:=0) zbh rfl dc rfl rfl rfl (zaT rfl zc6 (zyR 2 rfl ?_)))
  refine zyS (s:=11) rfl h (fun h => ?_) (fun h => ?_)
  ·
   refine zab zgR rfl dc rfl (show _=1 from rfl) (zar (k:=0) zbh rfl dc rfl rfl rfl (zaT rfl ze2 (zyR 2 rfl ?_)))
   refine zyS (s:=16) rfl h (fun h => ?_) (fun h => ?_)
   ·
    refine zab zgR rfl dc rfl (show _=1 from rfl) (zar (k:=0) zbh rfl dc rfl rfl rfl (zaT rfl zc6 (zyR 2 rfl ?_)))
    refine zyS (s:=21) rfl h (fun h => ?_) (fun h => ?_)
    ·
     refine zab zgn rfl dc rfl (show _=2 from rfl) (zar (k:=0) zbh rfl dc rfl rfl rfl (zaT rfl ze2 (zyR 2 rfl ?_)))
     refine zyS (s:=26) rfl h (fun h => ?_) (fun h => ?_)
     ·
      refine zab zgn rfl dc rfl (show _=2 from rfl) (zar (k:=0) zbh rfl dc rfl rfl rfl (zaT rfl zc6 (zyR 2 rfl ?_)))
      refine zyS (s:=31) rfl h (fun h => ?_) (fun h => ?_)
      ·
       refine zab zgQ rfl dc rfl (show _=3 from rfl) (zar (k:=0) zbh rfl dc rfl rfl rfl (zaT rfl ze2 (zyR 2 rfl ?_)))
       refine zyS (s:=36) rfl h (fun h => ?_) (fun h => ?_)
       ·
        refine zab zgQ rfl dc rfl (show _=3 from rfl) (zar (k:=0) zbh rfl dc rfl rfl rfl (zaT rfl zc6 (zyR 2 rfl (zyN (zaI ?_)))))
        cases h
        exact zaK (rs:=[.tmp 2]) () (.inl rfl) Tryd.results29 (.cons (.tmp rfl) .nil) rfl Splits.nil
       refine zyR 5 rfl (zyN (zaI ?_))
       cases h
       exact zaK (rs:=[.tmp 2]) () (.inl rfl) Tryd.results29 (.cons (.tmp rfl) .nil) rfl Splits.nil
      refine zyR 10 rfl (zyN (zaI ?_))
      cases h
      exact zaK (rs:=[.tmp 2]) () (.inl rfl) Tryd.results29 (.cons (.tmp rfl) .nil) rfl Splits.nil
     refine zyR 14 rfl ?_
     refine zyR 1 rfl (zyN (zaI ?_))
     cases h
     exact zaK (rs:=[.tmp 2]) () (.inl rfl) Tryd.results29 (.cons (.tmp rfl) .nil) rfl Splits.nil
    refine zyR 14 rfl ?_
    refine zyR 6 rfl (zyN (zaI ?_))
    cases h
    exact zaK (rs:=[.tmp 2]) () (.inl rfl) Tryd.results29 (.cons (.tmp rfl) .nil) rfl Splits.nil
   refine zyR 14 rfl ?_
   refine zyR 11 rfl (zyN (zaI ?_))
   cases h
   exact zaK (rs:=[.tmp 2]) () (.inl rfl) Tryd.results29 (.cons (.tmp rfl) .nil) rfl Splits.nil
  refine zyR 14 rfl ?_
  refine zyR 14 rfl ?_
  refine zyR 2 rfl (zyN (zaI ?_))
  cases h
  exact zaK (rs:=[.tmp 2]) () (.inl rfl) Tryd.results29 (.cons (.tmp rfl) .nil) rfl Splits.nil
 refine zyR 14 rfl ?_
 refine zyR 14 rfl ?_
 refine zyR 7 rfl (zyN (zaI ?_))
 cases h
 exact zaK (rs:=[.tmp 2]) () (.inl rfl) Tryd.results29 (.cons (.tmp rfl) .nil) rfl Splits.nil
def zbV (t1:Gpage_turner) (k1:Int):Option Bool :=
zal (zbF t1.cells k1) fun (q1:Gapi_Cell) =>
grd (I64 (q1.Span_From+1)) <|
zaw ((q1.Span_To:Int)==(q1.Span_From+1)) (
zal (ziA t1.s q1.Span_From) fun (c1:Int) =>
some ((c1:Int)==32)
) (
some false
)
theorem zer {bt1:Nat} {t1:Gpage_turner} {t1_h0 t1_h1 t1_h2:Hd} {k1:Int} {r:Bool} (h:zbV t1 k1=some r):FnR Tryd.prog 80 [zP bt1,zI k1] [cells bt1 [.string t1.s,t1_h0.v,t1_h1.v,t1_h2.v,zI t1.first,zI t1.rest] 163,zv2 t1_h0.v t1.cells,zv0 t1_h1.v t1.wide,zv0 t1_h2.v t1.ends] [] (fun _:Unit=>(.bool r)) (fun _=>[]):=by
 unfold zbV at h
 refine FnR.intro Tryd.func80 rfl Tryd.ntmps80 (by simp) ?_
 intro w0 K hrd
 refine zyG (zyR 1 rfl (zyH (zyR 1 rfl (zaA rfl dc rfl (zab zgq rfl dc rfl (show _=1 from rfl) (zbx (i:=0) hrd rfl zkU rfl dc rfl rfl (zyR 1 rfl ?_)))))))
 obtain ⟨q1,hq1,h⟩:=zbg h
 refine za8 (hrd.vw (i:=1) rfl) hq1 Tryd.underlying100 zfl rfl dc rfl rfl rfl (zab zen rfl dc rfl (show _=(0+(k1:Int).toNat)*3 from rfl) (zeq (m:=0+(k1:Int).toNat) (j:=0) (i:=1) (q:=q1) (cs:=[zI q1.Span_From,zI q1.Span_To]) hrd rfl zmq zbp rfl dc rfl (Vw.get (hrd.vw (i:=1) rfl) hq1) rfl rfl rfl ?_))
 refine zbt zoY rfl dc (fun b1 => ?_)
 refine zaY (k:=0) (vs:=[zI q1.Span_From,zI q1.Span_To]) (l':=[zI q1.Span_From,zI q1.Span_To]) zjz rfl rfl rfl rfl rfl (show _≤_ by simp) rfl rfl ?_
 refine zyN (zaJ ?_)
 obtain ⟨hg1,h⟩:=zbk h
 refine zd8 (b:=(q1.Span_To:Int)==(q1.Span_From+1)) (fun hb1 => ?_) (fun hb1 => ?_)
 ·
  have h:=zgv hb1 h
  obtain ⟨c1,hq2,h⟩:=zbg h
  refine zbu 13 [(0,14,.pointer (some ⟨b1,1,none⟩)),(1,15,zI q1.Span_To),(2,16,zP b1),(3,17,zI q1.Span_From),(4,18,zI (q1.Span_From+1)),(5,19,.bool true),(6,20,.bool true),(7,21,zP bt1),(8,22,zP bt1),(9,23,zP bt1),(10,24,.string t1.s),(11,25,zP b1),(12,26,zI q1.Span_From)] mixed kr kr dc (by rfl) kr kr (zad ?_ (zad ?_ (zad ?_ (zad ?_ (zad ?_ (zad ?_ (zyP 2 6 rfl (zad ?_ (zad ?_ (zad ?_ (zad ?_ (zad ?_ DrawPre.nil)))))))))))) ?_
  · exact fun D n d c u i=>zab zdD rfl dc (za9 (by rfl) rfl) (show _=1 from rfl) (zaf 0 u i rfl)
  · exact fun D n d c u i=>zar (k:=0) zbh rfl dc (zaa (m:=0) u rfl (d 0 dc)) rfl rfl (zaf 1 u i rfl)
  · exact fun D n d c u i=>zab zc5 rfl dc (za9 (by rfl) rfl) (show _=0 from rfl) (zaf 2 u i rfl)
  · exact fun D n d c u i=>zar (k:=0) zbh rfl dc (zaa (m:=2) u rfl (d 2 dc)) rfl rfl (zaf 3 u i rfl)
  · exact fun D n d c u i=>zbM rfl dc (zaa (m:=3) u rfl (d 3 dc)) rfl (zaQ (r:=q1.Span_From+1) (IntWalk.i64_in _ hg1)) (zaf 4 u i rfl)
  · exact fun D n d c u i=>zbM rfl dc (zaa (m:=1) u rfl (d 1 dc)) (zaa (m:=4) u rfl (d 4 dc)) zaP (zdF (show Value.bool ((q1.Span_To:Int)==(q1.Span_From+1))=Value.bool true from congrArg Value.bool hb1) (zaf 5 u i rfl))
  · exact fun D n d c u i=>zaA (zeQ rfl (zaa (m:=6) u rfl (d 6 dc))) dc (zaa (m:=7) u rfl (d 7 dc)) (zaf 8 u i rfl)
  · exact fun D n d c u i=>zab zod (zeQ rfl (zaa (m:=6) u rfl (d 6 dc))) dc (zaa (m:=8) u rfl (d 8 dc)) (show _=0 from rfl) (zaf 9 u i rfl)
  · exact fun D n d c u i=>zbx (i:=0) hrd rfl zoT (zeQ rfl (zaa (m:=6) u rfl (d 6 dc))) dc (zaa (m:=9) u rfl (d 9 dc)) rfl (zaf 10 u i rfl)
  · exact fun D n d c u i=>zab zc5 (zeQ rfl (zaa (m:=6) u rfl (d 6 dc))) dc (za9 (by rfl) rfl) (show _=0 from rfl) (zaf 11 u i rfl)
  · exact fun D n d c u i=>zar (k:=0) zbh (zeQ rfl (zaa (m:=6) u rfl (d 6 dc))) dc (zaa (m:=11) u rfl (d 11 dc)) rfl rfl (zaf 12 u i rfl)
  refine zcO rfl dc rfl rfl (zbi Tryd.underlying9 hq2) (zaT rfl zaP (zyR 2 rfl (zyN (zaI ?_))))
  cases h
  exact zaK (rs:=[.tmp 4]) () (.inl rfl) Tryd.results80 (.cons (.tmp rfl) .nil) rfl Splits.nil
 have h:=zgw hb1 h
 refine zbu 13 [(0,14,.pointer (some ⟨b1,1,none⟩)),(1,15,zI q1.Span_To),(2,16,zP b1),(3,17,zI q1.Span_From),(4,18,zI (q1.Span_From+1)),(5,19,.bool false),(6,20,.bool false),(7,21,undef),(8,22,undef),(9,23,undef),(10,24,undef),(11,25,undef),(12,26,undef)] mixed kr kr dc (by rfl) kr kr (zad ?_ (zad ?_ (zad ?_ (zad ?_ (zad ?_ (zad ?_ (zyP 7 6 rfl DrawPre.nil))))))) ?_
 · exact fun D n d c u i=>zab zdD rfl dc (za9 (by rfl) rfl) (show _=1 from rfl) (zaf 0 u i rfl)
 · exact fun D n d c u i=>zar (k:=0) zbh rfl dc (zaa (m:=0) u rfl (d 0 dc)) rfl rfl (zaf 1 u i rfl)
 · exact fun D n d c u i=>zab zc5 rfl dc (za9 (by rfl) rfl) (show _=0 from rfl) (zaf 2 u i rfl)
 · exact fun D n d c u i=>zar (k:=0) zbh rfl dc (zaa (m:=2) u rfl (d 2 dc)) rfl rfl (zaf 3 u i rfl)
 · exact fun D n d c u i=>zbM rfl dc (zaa (m:=3) u rfl (d 3 dc)) rfl (zaQ (r:=q1.Span_From+1) (IntWalk.i64_in _ hg1)) (zaf 4 u i rfl)
 · exact fun D n d c u i=>zbM rfl dc (zaa (m:=1) u rfl (d 1 dc)) (zaa (m:=4) u rfl (d 4 dc)) zaP (zdF (show Value.bool ((q1.Span_To:Int)==(q1.Span_From+1))=Value.bool false from congrArg Value.bool hb1) (zaf 5 u i rfl))
 refine zyR 4 rfl (zyN (zaI ?_))
 cases h
 exact zaK (rs:=[.tmp 4]) () (.inl rfl) Tryd.results80 (.cons (.tmp rfl) .nil) rfl Splits.nil
def zbU (t1:Gpage_turner) (from1:Int) (to1:Int):Option Int :=
zal (zbF t1.ends to1) fun (q1:Int) =>
zal (zbF t1.wide (max from1 q1)) fun (q2:Int) =>
zal (zbF t1.wide from1) fun (q3:Int) =>
grd (I64 (q2 - q3)) <|
some (q2 - q3)
theorem zd9 {bt1:Nat} {t1:Gpage_turner} {t1_h0 t1_h1 t1_h2:Hd} {from1:Int} {to1:Int} {r:Int} (h:zbU t1 from1 to1=some r):FnR Tryd.prog 82 [zP bt1,zI from1,zI to1] [cells bt1 [.string t1.s,t1_h0.v,t1_h1.v,t1_h2.v,zI t1.first,zI t1.rest] 163,zv2 t1_h0.v t1.cells,zv0 t1_h1.v t1.wide,zv0 t1_h2.v t1.ends] [] (fun _:Unit=>(zI r)) (fun _=>[]):=by
 unfold zbU at h
 refine FnR.intro Tryd.func82 rfl Tryd.ntmps82 (by simp) ?_
 intro w0 K hrd
 refine zyG (zyR 1 rfl (zyH (zyR 2 rfl (zaA rfl dc rfl (zab zh8 rfl dc rfl (show _=3 from rfl) (zbx (i:=0) hrd rfl zgE rfl dc rfl rfl (zyR 1 rfl ?_)))))))
 obtain ⟨q1,hq1,h⟩:=zbg h
 refine za8 (hrd.vw (i:=3) rfl) hq1 Tryd.underlying24 zde rfl dc rfl rfl rfl (zcu (n:=0+(to1:Int).toNat) (j:=0) (i:=3) (q:=q1) hrd rfl zbh za6 rfl dc rfl (Vw.get (hrd.vw (i:=3) rfl) hq1) rfl dc rfl (zkf rfl dc rfl rfl (zyR 1 rfl (zyN (zaJ ?_)))))
 obtain ⟨q2,hq2,h⟩:=zbg h
 obtain ⟨q3,hq3,h⟩:=zbg h
 obtain ⟨hg1,h⟩:=zbk h
 refine zbu 14 [(0,16,zP bt1),(1,17,zP bt1),(2,18,.pointer (some ⟨bt1,2,none⟩)),(3,19,t1_h1.v),(4,20,zI (max from1 q1)),(5,21,.pointer (some ⟨zb7 t1_h1.v,(0+(max from1 q1:Int).toNat)*1,none⟩)),(6,22,zI q2),(7,23,zP bt1),(8,24,zP bt1),(9,25,.pointer (some ⟨bt1,2,none⟩)),(10,26,t1_h1.v),(11,27,zI from1),(12,28,.pointer (some ⟨zb7 t1_h1.v,(0+(from1:Int).toNat)*1,none⟩)),(13,29,zI q3)] mixed kr kr dc (by rfl) kr kr (zyP 1 0 rfl (zad ?_ (zad ?_ (zad ?_ (zyP 1 4 rfl (zad ?_ (zad ?_ (zyP 1 7 rfl (zad ?_ (zad ?_ (zad ?_ (zyP 1 11 rfl (zad ?_ (zad ?_ DrawPre.nil)))))))))))))) ?_
 · exact fun D n d c u i=>zaA rfl dc (zaa (m:=0) u rfl (d 0 dc)) (zaf 1 u i rfl)
 · exact fun D n d c u i=>zab zh9 rfl dc (zaa (m:=1) u rfl (d 1 dc)) (show _=2 from rfl) (zaf 2 u i rfl)
 · exact fun D n d c u i=>zbx (i:=0) hrd rfl zgE rfl dc (zaa (m:=2) u rfl (d 2 dc)) rfl (zaf 3 u i rfl)
 · exact fun D n d c u i=>za8 (hrd.vw (i:=2) rfl) hq2 Tryd.underlying24 zde rfl dc (zaa (m:=3) u rfl (d 3 dc)) (zaa (m:=4) u rfl (d 4 dc)) rfl (zaf 5 u i rfl)
 · exact fun D n d c u i=>zcu (n:=0+(max from1 q1:Int).toNat) (j:=0) (i:=2) (q:=q2) hrd rfl zbh za6 rfl dc (zaa (m:=5) u rfl (d 5 dc)) (Vw.get (hrd.vw (i:=2) rfl) hq2) rfl dc rfl (zaf 6 u i rfl)
 · exact fun D n d c u i=>zaA rfl dc (zaa (m:=7) u rfl (d 7 dc)) (zaf 8 u i rfl)
 · exact fun D n d c u i=>zab zh9 rfl dc (zaa (m:=8) u rfl (d 8 dc)) (show _=2 from rfl) (zaf 9 u i rfl)
 · exact fun D n d c u i=>zbx (i:=0) hrd rfl zgE rfl dc (zaa (m:=9) u rfl (d 9 dc)) rfl (zaf 10 u i rfl)
 · exact fun D n d c u i=>za8 (hrd.vw (i:=2) rfl) hq3 Tryd.underlying24 zde rfl dc (zaa (m:=10) u rfl (d 10 dc)) (zaa (m:=11) u rfl (d 11 dc)) rfl (zaf 12 u i rfl)
 · exact fun D n d c u i=>zcu (n:=0+(from1:Int).toNat) (j:=0) (i:=2) (q:=q3) hrd rfl zbh za6 rfl dc (zaa (m:=12) u rfl (d 12 dc)) (Vw.get (hrd.vw (i:=2) rfl) hq3) rfl dc rfl (zaf 13 u i rfl)
 refine zaT rfl (zbj (r:=q2 - q3) (IntWalk.i64_in _ hg1)) (zyR 1 rfl (zyN (zaI ?_)))
 cases h
 exact zaK (rs:=[.tmp 6]) () (.inl rfl) Tryd.results82 (.cons (.tmp rfl) .nil) rfl Splits.nil
def zcg (t1:Gpage_turner) (from1:Int):Option Int :=
zaw ((from1:Int)==0) (
some t1.first
) (
some t1.rest
)
theorem zeE {bt1:Nat} {t1:Gpage_turner} {t1_h0 t1_h1 t1_h2:Hd} {from1:Int} {r:Int} (h:zcg t1 from1=some r):FnR Tryd.prog 83 [zP bt1,zI from1] [cells bt1 [.string t1.s,t1_h0.v,t1_h1.v,t1_h2.v,zI t1.first,zI t1.rest] 163,zv2 t1_h0.v t1.cells,zv0 t1_h1.v t1.wide,zv0 t1_h2.v t1.ends] [] (fun _:Unit=>(zI r)) (fun _=>[]):=by
 unfold zcg at h
 refine FnR.intro Tryd.func83 rfl Tryd.ntmps83 (by simp) ?_
 intro w0 K hrd
 refine zyG (zyR 1 rfl (zyN (zaJ (zyG (zyR 1 rfl (zaT rfl zaP (zyN ?_)))))))
 refine zyB rfl h (fun h => ?_) (fun h => ?_)
 ·
  refine zyG (zyR 1 rfl (zaA rfl dc rfl (zab zrd rfl dc rfl (show _=4 from rfl) (zbx (i:=0) hrd rfl zbh rfl dc rfl rfl (zyR 1 rfl (zyN (zaI (zau ?_))))))))
  cases h
  exact zaK (rs:=[.tmp 4]) () (.inl rfl) Tryd.results83 (.cons (.tmp rfl) .nil) rfl Splits.nil
 refine zas (zaL (zyG (zyR 1 rfl (zaA rfl dc rfl (zab zrc rfl dc rfl (show _=5 from rfl) (zbx (i:=0) hrd rfl zbh rfl dc rfl rfl (zyR 1 rfl (zyN (zaI ?_)))))))))
 cases h
 exact zaK (rs:=[.tmp 4]) () (.inl rfl) Tryd.results83 (.cons (.tmp rfl) .nil) rfl Splits.nil
def zdK (t1:Gpage_turner) (from1:Int) (to1:Int):Option Bool :=
zbl (fun (j1:Option Bool) =>
zaw (decide ((0:Int)<from1)) (
zal (zbV t1 from1) fun (r1:Bool) =>
zaw (r1) (
some false
) (
j1
)
) (
j1
)
) (
zal (zbU t1 from1 to1) fun (r2:Int) =>
zal (zcg t1 from1) fun (r3:Int) =>
zaw (decide ((r2:Int)≤r3)) (
some true
) (
zal (zbF t1.ends to1) fun (q1:Int) =>
grd (I64 (from1+1)) <|
some (decide ((q1:Int)≤(from1+1)))
)
)
theorem zhY {bt1:Nat} {t1:Gpage_turner} {t1_h0 t1_h1 t1_h2:Hd} {from1:Int} {to1:Int} {r:Bool} (h:zdK t1 from1 to1=some r):FnR Tryd.prog 81 [zP bt1,zI from1,zI to1] [cells bt1 [.string t1.s,t1_h0.v,t1_h1.v,t1_h2.v,zI t1.first,zI t1.rest] 163,zv2 t1_h0.v t1.cells,zv0 t1_h1.v t1.wide,zv0 t1_h2.v t1.ends] [] (fun _:Unit=>(.bool r)) (fun _=>[]):=by
 unfold zdK at h
 refine FnR.intro Tryd.func81 rfl Tryd.ntmps81 (by simp) ?_
 intro w0 K hrd
 obtain ⟨j1,hj1,h⟩:=zbK h
 refine zaX (β:=Unit) 1 rfl (fun b=>j1=some r) (fun b=>[]) (fun b=>[(0,zP bt1),(1,zI from1),(2,zI to1)]) (fun b=>[]) (fun cut => ?_) ?_
 ·
  refine zyG (zyR 1 rfl (zyN (cut (zyG (zyR 1 rfl (zaT rfl zcA (zyR 1 rfl ?_)))))))
  refine zyS (s:=9) rfl h (fun h => ?_) (fun h => ?_)
  ·
   refine zyR 2 rfl ?_
   obtain ⟨r1,hq1,h⟩:=zbg h
   refine zco (v:=.bool r1) (vs:=[zP bt1,zI from1]) hrd rfl dc rfl rfl rfl zs4 (zer (bt1:=bt1) (t1:=t1) (t1_h0:=t1_h0) (t1_h1:=t1_h1) (t1_h2:=t1_h2) hq1) (.ro 0 rfl (.ro 1 rfl (.ro 2 rfl (.ro 3 rfl .nil)))) (zyR 1 rfl (zyN ?_))
   refine zyB rfl h (fun h => ?_) (fun h => ?_)
   ·
    refine zyG (zyR 1 rfl (zyN (zaI (zau ?_))))
    cases h
    exact zaK (rs:=[.tmp 6]) () (.inl rfl) Tryd.results81 (.cons (.tmp rfl) .nil) rfl Splits.nil
   refine zas ?_
   exact zak () h rfl (za0 rfl) Splits.nil
  refine zyR 4 rfl (zyN (zaN rfl (zas ?_)))
  exact zak () h rfl (za0 rfl) Splits.nil
 rintro _ h
 rw [hj1] at h
 refine zyG (zyR 3 rfl ?_)
 obtain ⟨r2,hq2,h⟩:=zbg h
 refine zco (v:=zI r2) (vs:=[zP bt1,zI from1,zI to1]) hrd rfl dc rfl rfl rfl zs3 (zd9 (bt1:=bt1) (t1:=t1) (t1_h0:=t1_h0) (t1_h1:=t1_h1) (t1_h2:=t1_h2) hq2) (.ro 0 rfl (.ro 1 rfl (.ro 2 rfl (.ro 3 rfl .nil)))) (zyR 2 rfl ?_)
 obtain ⟨r3,hq3,h⟩:=zbg h
 refine zco (v:=zI r3) (vs:=[zP bt1,zI from1]) hrd rfl dc rfl rfl rfl zs0 (zeE (bt1:=bt1) (t1:=t1) (t1_h0:=t1_h0) (t1_h1:=t1_h1) (t1_h2:=t1_h2) hq3) (.ro 0 rfl (.ro 1 rfl (.ro 2 rfl (.ro 3 rfl .nil)))) (zaT rfl zc6 (zyR 1 rfl ?_))
 refine zyS (s:=22) rfl h (fun h => ?_) (fun h => ?_)
 ·
  refine zyR 12 rfl (zyN ?_)
  refine zaI ?_
  cases h
  exact zaK (rs:=[.tmp 6]) () (.inl rfl) Tryd.results81 (.cons (.tmp rfl) .nil) rfl Splits.nil
 refine zyR 1 rfl (zaA rfl dc rfl (zab zh8 rfl dc rfl (show _=3 from rfl) (zbx (i:=0) hrd rfl zgE rfl dc rfl rfl (zyR 1 rfl ?_))))
 obtain ⟨q1,hq4,h⟩:=zbg h
 refine za8 (hrd.vw (i:=3) rfl) hq4 Tryd.underlying24 zde rfl dc rfl rfl rfl (zcu (n:=0+(to1:Int).toNat) (j:=0) (i:=3) (q:=q1) hrd rfl zbh za6 rfl dc rfl (Vw.get (hrd.vw (i:=3) rfl) hq4) rfl dc rfl (zyR 1 rfl ?_))
 obtain ⟨hg1,h⟩:=zbk h
 refine zaT rfl (zaQ (r:=from1+1) (IntWalk.i64_in _ hg1)) (zaT rfl zc6 (zyR 2 rfl (zyN (zaI ?_))))
 cases h
 exact zaK (rs:=[.tmp 6]) () (.inl rfl) Tryd.results81 (.cons (.tmp rfl) .nil) rfl Splits.nil
def zds (t1:Gpage_turner) (from1:Int) (to1:Int):Option Int :=
zbl (fun (j1:Int→Option Int) =>
zal (zcg t1 from1) fun (r1:Int) =>
zal (zbU t1 from1 to1) fun (r2:Int) =>
grd (I64 (r1 - r2)) <|
zaw (decide ((0:Int)<(r1 - r2))) (
grd (I64 ((r1 - r2)*(r1 - r2))) <|
j1 ((r1 - r2)*(r1 - r2))
) (
j1 0
)
) (fun (n1:Int) =>
zbl (fun (j2:Int→Option Int) =>
grd (I64 (to1 - 1)) <|
zal (zbV t1 (to1 - 1)) fun (r3:Bool) =>
zaw (!r3) (
grd (I64 (n1+1000)) <|
j2 (n1+1000)
) (
j2 n1
)
) (fun (n2:Int) =>
some n2
)
)
theorem zhx {bt1:Nat} {t1:Gpage_turner} {t1_h0 t1_h1 t1_h2:Hd} {from1:Int} {to1:Int} {r:Int} (h:zds t1 from1 to1=some r):FnR Tryd.prog 84 [zP bt1,zI from1,zI to1] [cells bt1 [.string t1.s,t1_h0.v,t1_h1.v,t1_h2.v,zI t1.first,zI t1.rest] 163,zv2 t1_h0.v t1.cells,zv0 t1_h1.v t1.wide,zv0 t1_h2.v t1.ends] [] (fun _:Unit=>(zI r)) (fun _=>[]):=by
 unfold zds at h
 refine FnR.intro Tryd.func84 rfl Tryd.ntmps84 (by simp) ?_
 intro w0 K hrd
 obtain ⟨j1,hj1,h⟩:=zbK h
 refine zaX (β:=Int) 2 rfl (fun b=>j1 b=some r) (fun b=>[]) (fun b=>[(0,zP bt1),(2,zI to1),(7,zI b)]) (fun b=>[]) (fun cut => ?_) ?_
 ·
  refine zyG (zyR 1 rfl (zyH (zyR 1 rfl (zyN (cut (zyG (zyR 1 rfl ?_)))))))
  refine zyR 1 rfl ?_
  obtain ⟨r1,hq1,h⟩:=zbg h
  refine zco (v:=zI r1) (vs:=[zP bt1,zI from1]) hrd rfl dc rfl rfl rfl zs0 (zeE (bt1:=bt1) (t1:=t1) (t1_h0:=t1_h0) (t1_h1:=t1_h1) (t1_h2:=t1_h2) hq1) (.ro 0 rfl (.ro 1 rfl (.ro 2 rfl (.ro 3 rfl .nil)))) (zyR 3 rfl ?_)
  obtain ⟨r2,hq2,h⟩:=zbg h
  refine zco (v:=zI r2) (vs:=[zP bt1,zI from1,zI to1]) hrd rfl dc rfl rfl rfl zs3 (zd9 (bt1:=bt1) (t1:=t1) (t1_h0:=t1_h0) (t1_h1:=t1_h1) (t1_h2:=t1_h2) hq2) (.ro 0 rfl (.ro 1 rfl (.ro 2 rfl (.ro 3 rfl .nil)))) ?_
  obtain ⟨hg1,h⟩:=zbk h
  refine zaT rfl (zbj (r:=r1 - r2) (IntWalk.i64_in _ hg1)) (zyR 1 rfl (zyH (zyR 1 rfl (zaT rfl zcA (zyN ?_)))))
  refine zyB rfl h (fun h => ?_) (fun h => ?_)
  ·
   refine zax (zyR 2 rfl ?_)
   obtain ⟨hg2,h⟩:=zbk h
   refine zaT rfl (zl6 (r:=(r1 - r2)*(r1 - r2)) (IntWalk.i64_in _ hg2)) (zyR 1 rfl (zaR ?_))
   exact zak ((r1 - r2)*(r1 - r2)) h rfl (za0 rfl) Splits.nil
  refine zas ?_
  exact zak 0 h rfl (za0 rfl) Splits.nil
 rintro n1 h
 rw [hj1] at h
 obtain ⟨j2,hj2,h⟩:=zbK h
 refine zaX (β:=Int) 0 rfl (fun b=>j2 b=some r) (fun b=>[]) (fun b=>[(7,zI b)]) (fun b=>[]) (fun cut => ?_) ?_
 ·
  refine cut (zyG (zyR 2 rfl ?_))
  obtain ⟨hg3,h⟩:=zbk h
  refine zaT rfl (zbj (r:=to1 - 1) (IntWalk.i64_in _ hg3)) ?_
  obtain ⟨r3,hq3,h⟩:=zbg h
  refine zco (v:=.bool r3) (vs:=[zP bt1,zI (to1 - 1)]) hrd rfl dc rfl rfl rfl zs4 (zer (bt1:=bt1) (t1:=t1) (t1_h0:=t1_h0) (t1_h1:=t1_h1) (t1_h2:=t1_h2) hq3) (.ro 0 rfl (.ro 1 rfl (.ro 2 rfl (.ro 3 rfl .nil)))) (zdU rfl dc rfl zcy (zyN ?_))
  refine zyB rfl h (fun h => ?_) (fun h => ?_)
  ·
   refine zax (zyR 1 rfl ?_)
   obtain ⟨hg4,h⟩:=zbk h
   refine zaT rfl (zaQ (r:=n1+1000) (IntWalk.i64_in _ hg4)) (zyR 1 rfl (zaR ?_))
   exact zak (n1+1000) h rfl (za0 rfl) Splits.nil
  refine zas ?_
  exact zak n1 h rfl (za0 rfl) Splits.nil
 rintro n2 h
 rw [hj2] at h
 refine zyG (zyR 2 rfl (zyN (zaI ?_)))
 cases h
 exact zaK (rs:=[.tmp 6]) () (.inl rfl) Tryd.results84 (.cons (.tmp rfl) .nil) rfl Splits.nil
def zbN (t1:Gpage_turner) (from3:Int) (j2:(List Gpage_best)→Option ((List Int)×Int)) (ag2:(List Gpage_best)→Int→Option ((List Int)×Int)) (all8:List Gpage_best) (to3:Int):Option ((List Int)×Int) :=
zaw (decide ((to3:Int)≤(t1.cells.length:Int))) (
zbl (fun (j3:(List Gpage_best)→Option ((List Int)×Int)) =>
zal (zdK t1 from3 to3) fun (r1:Bool) =>
zaw (!r1) (
zal (zbU t1 from3 to3) fun (r2:Int) =>
zal (zcg t1 from3) fun (r3:Int) =>
zaw (decide ((r3:Int)<r2)) (
j2 all8
) (
j3 all8
)
) (
zbl (fun (j4:Int→Int→Option ((List Int)×Int)) =>
zaw (decide ((to3:Int)<(t1.cells.length:Int))) (
zal (zbF all8 to3) fun (q2:Gpage_best) =>
zaw (decide ((q2.rows:Int)<0)) (
j3 all8
) (
zal (zds t1 from3 to3) fun (r4:Int) =>
zal (zbF all8 to3) fun (q3:Gpage_best) =>
grd (I64 (r4+q3.cost)) <|
grd (I64 (q3.rows+1)) <|
j4 (r4+q3.cost) (q3.rows+1)
)
) (
j4 0 1
)
) (fun (b2:Int) (b3:Int) =>
zal (zbF all8 from3) fun (q4:Gpage_best) =>
zaw (decide ((q4.rows:Int)<0)) (
zal (zbF all8 from3) fun (q5:Gpage_best) =>
j3 (all8.set (from3:Int).toNat (⟨b2,b3,to3⟩:Gpage_best))
) (
zaw (decide ((b2:Int)<q4.cost)) (
zal (zbF all8 from3) fun (q6:Gpage_best) =>
j3 (all8.set (from3:Int).toNat (⟨b2,b3,to3⟩:Gpage_best))
) (
zaw ((b2:Int)==q4.cost) (
zaw (decide ((b3:Int)≤q4.rows)) (
zal (zbF all8 from3) fun (q7:Gpage_best) =>
j3 (all8.set (from3:Int).toNat (⟨b2,b3,to3⟩:Gpage_best))
) (
j3 all8
)
) (
j3 all8
)
)
)
)
)
) (fun (all9:List Gpage_best) =>
grd (I64 (to3+1)) <|
ag2 all9 (to3+1)
)
) (
j2 all8
)
def zbO (t1:Gpage_turner) (j1:(List Gpage_best)→Option ((List Int)×Int)) (ag1:(List Gpage_best)→Int→Option ((List Int)×Int)) (all4:List Gpage_best) (from3:Int):Option ((List Int)×Int) :=
zaw (decide ((0:Int)≤from3)) (
zbl (fun (j2:(List Gpage_best)→Option ((List Int)×Int)) =>
zal (zbF all4 from3) fun (q1:Gpage_best) =>
grd (I64 (from3+1)) <|
zaF (fun _ _=>none) (zbN t1 from3 j2) zbW (all4.set (from3:Int).toNat (⟨q1.cost,(-1),q1.to_⟩:Gpage_best)) (from3+1)
) (fun (all5:List Gpage_best) =>
grd (I64 (from3 - 1)) <|
ag1 all5 (from3 - 1)
)
) (
j1 all4
)
def zbD (t1:Gpage_turner) (all1:List Gpage_best) (j5:(List Int)→Option ((List Int)×Int)) (ag3:(List Int)→Int→Option ((List Int)×Int)) (out4:List Int) (from6:Int):Option ((List Int)×Int) :=
zaw (decide ((from6:Int)<(t1.cells.length:Int))) (
zal (zbF all1 from6) fun (q8:Gpage_best) =>
grd (out4.length+1≤2147483648) <|
zal (zbF all1 from6) fun (q9:Gpage_best) =>
ag3 (out4++[q8.to_]) q9.to_
) (
j5 out4
)
def zdr (t1:Gpage_turner):Option ((List Int)×Int) :=
zbl (fun (j1:(List Gpage_best)→Option ((List Int)×Int)) =>
grd (I64 ((t1.cells.length:Int)+1)) <|
grd (0≤((t1.cells.length:Int)+1)∧((t1.cells.length:Int)+1)≤2147483648) <|
grd (I64 ((t1.cells.length:Int) - 1)) <|
zaF (fun _ _=>none) (zbO t1 j1) zbW (List.replicate ((t1.cells.length:Int)+1:Int).toNat (⟨0,0,0⟩:Gpage_best):List Gpage_best) ((t1.cells.length:Int) - 1)
) (fun (all1:List Gpage_best) =>
zbl (fun (j5:(List Int)→Option ((List Int)×Int)) =>
zaF (fun _ _=>none) (zbD t1 all1 j5) zbW ([]:List Int) 0
) (fun (out1:List Int) =>
zal (zbF all1 0) fun (q10:Gpage_best) =>
some (out1,q10.cost)
)
)
theorem zhw {bt1:Nat} {t1:Gpage_turner} {t1_h0 t1_h1 t1_h2:Hd} {r:((List Int)×Int)} (h:zdr t1=some r):FnR Tryd.prog 54 [zP bt1] [cells bt1 [.string t1.s,t1_h0.v,t1_h1.v,t1_h2.v,zI t1.first,zI t1.rest] 163,zv2 t1_h0.v t1.cells,zv0 t1_h1.v t1.wide,zv0 t1_h2.v t1.ends] [] (fun v0:Value=>.tuple #[v0,zI r.2]) (fun v0=>[zv0 v0 r.1]):=by
 unfold zdr at h
 refine FnR.intro Tryd.func54 rfl Tryd.ntmps54 (by simp) ?_
 intro w0 K hrd
 obtain ⟨j1,hj1,h⟩:=zbK h
 refine zaX (β:=(List Gpage_best)×Value) 3 rfl (fun b=>j1 b.1=some r) (fun b=>[]) (fun b=>[(4,zI (t1.cells.length:Int)),(5,b.2)]) (fun b=>[zv8 b.2 b.1]) (fun cut => ?_) ?_
 ·
  refine zyG (zyR 2 rfl (zyH (zyR 1 rfl (zaA rfl dc rfl (zab zgq rfl dc rfl (show _=1 from rfl) (zbx (i:=0) hrd rfl zkU rfl dc rfl rfl (zdy (hrd.vw (i:=1) rfl) rfl dc rfl Tryd.underlying100 (zyR 1 rfl ?_))))))))
  refine zyH (zyR 1 rfl ?_)
  obtain ⟨hg1,h⟩:=zbk h
  refine zaT rfl (zaQ (r:=(t1.cells.length:Int)+1) (IntWalk.i64_in _ hg1)) ?_
  obtain ⟨hg2,h⟩:=zbk h
  refine zgh (z:=(⟨0,0,0⟩:Gpage_best)) Tryd.underlying136 zrP zkK zaW rfl dc rfl hg2 (fun v2 => ?_)
  refine zyR 1 rfl (zyN (cut (zyG (zyR 1 rfl ?_))))
  obtain ⟨hg3,h⟩:=zbk h
  refine zaT rfl (zbj (r:=(t1.cells.length:Int) - 1) (IntWalk.i64_in _ hg3)) (zyR 1 rfl (zyN (zaE ?_)))
  refine zbn (β:=Nat×(List Gpage_best)×Int) (fun b=>zaF (fun _ _=>none) (zbO t1 j1) b.1 b.2.1 b.2.2=some r) (fun b=>[]) (fun b=>[(0,zP bt1),(4,zI (t1.cells.length:Int)),(5,v2),(6,zI b.2.2)]) (fun b=>[zv8 v2 b.2.1]) (fun b=>b.1) (zbW,(List.replicate ((t1.cells.length:Int)+1:Int).toNat (⟨0,0,0⟩:Gpage_best):List Gpage_best),(t1.cells.length:Int) - 1) h rfl (za0 rfl) (zae [0] kr rfl) ?_
  rintro ⟨n1,all4,from3⟩ h
  cases n1 with
  | zero=>exact zdG h
  | succ n1 =>
   obtain ⟨ag1,hag1⟩:∃ ag,ag=zaF (fun _ _=>none) (zbO t1 j1) n1:=⟨_,rfl⟩
   have h:zbO t1 j1 ag1 all4 from3=some r:=by rw [hag1]; exact h
   unfold zbO at h
   refine zaJ (zyG (zyR 1 rfl (zaT rfl ze2 (zyN ?_))))
   refine zyB rfl h (fun h => ?_) (fun h => ?_)
   ·
    refine zas (zaL ?_)
    obtain ⟨j2,hj2,h⟩:=zbK h
    refine zaX (β:=(List Gpage_best)) 0 rfl (fun b=>j2 b=some r) (fun b=>[]) (fun b=>[(0,zP bt1),(4,zI (t1.cells.length:Int)),(5,v2),(6,zI from3)]) (fun b=>[zv8 v2 b]) (fun cut => ?_) ?_
    ·
     refine cut (zaE ?_)
     refine zjs (β:=Unit) (l:=0) (fun _=>False) (fun _=>[]) (fun _=>[]) rfl ?_ ?_
     ·
      refine zyG (zyR 2 rfl ?_)
      obtain ⟨q1,hq1,h⟩:=zbg h
      refine zan (k:=0) hq1 Tryd.underlying136 zc2 rfl dc rfl rfl rfl rfl (zab zeZ rfl dc rfl (show _=((from3:Int).toNat)*3+1 from rfl) ?_)
      refine zb9 (i:=(from3:Int).toNat) (j:=1) (k:=0) (q:=q1) (q':=(⟨q1.cost,(-1),q1.to_⟩:Gpage_best)) zde zaW rfl rfl rfl rfl (zaC hq1) rfl dc rfl (fun _ _=>rfl) ?_
      refine zyN (zaJ (zjt (zaL (zyG (zyR 1 rfl ?_)))))
      obtain ⟨hg4,h⟩:=zbk h
      refine zaT rfl (zaQ (r:=from3+1) (IntWalk.i64_in _ hg4)) (zyR 1 rfl (zyN (zaE ?_)))
      refine zbn (β:=Nat×(List Gpage_best)×Int) (fun b=>zaF (fun _ _=>none) (zbN t1 from3 j2) b.1 b.2.1 b.2.2=some r) (fun b=>[]) (fun b=>[(0,zP bt1),(4,zI (t1.cells.length:Int)),(5,v2),(6,zI from3),(7,zI b.2.2)]) (fun b=>[zv8 v2 b.2.1]) (fun b=>b.1) (zbW,all4.set (from3:Int).toNat (⟨q1.cost,(-1),q1.to_⟩:Gpage_best),from3+1) h rfl (za0 rfl) (zae [0] kr rfl) ?_
      rintro ⟨n2,all8,to3⟩ h
      cases n2 with
      | zero=>exact zdG h
      | succ n2 =>
       obtain ⟨ag2,hag2⟩:∃ ag,ag=zaF (fun _ _=>none) (zbN t1 from3 j2) n2:=⟨_,rfl⟩
       have h:zbN t1 from3 j2 ag2 all8 to3=some r:=by rw [hag2]; exact h
       unfold zbN at h
       refine zaJ (zyG (zyR 2 rfl (zaT rfl zc6 (zyN ?_))))
       refine zyB rfl h (fun h => ?_) (fun h => ?_)
       ·
        refine zas (zaL ?_)
        obtain ⟨j3,hj3,h⟩:=zbK h
        refine zaX (β:=(List Gpage_best)) 0 rfl (fun b=>j3 b=some r) (fun b=>[]) (fun b=>[(0,zP bt1),(4,zI (t1.cells.length:Int)),(5,v2),(6,zI from3),(7,zI to3)]) (fun b=>[zv8 v2 b]) (fun cut => ?_) ?_
        ·
         refine cut (zaE (zaJ (zyG (zyR 3 rfl ?_))))
         obtain ⟨r1,hq2,h⟩:=zbg h
         refine zco (v:=.bool r1) (vs:=[zP bt1,zI from3,zI to3]) hrd rfl dc rfl rfl rfl zvm (zhY (bt1:=bt1) (t1:=t1) (t1_h0:=t1_h0) (t1_h1:=t1_h1) (t1_h2:=t1_h2) hq2) (.ro 0 rfl (.ro 1 rfl (.ro 2 rfl (.ro 3 rfl .nil)))) (zdU rfl dc rfl zcy (zyN ?_))
         refine zyB rfl h (fun h => ?_) (fun h => ?_)
         ·
          refine zaJ (zyG (zyR 3 rfl ?_))
          obtain ⟨r2,hq3,h⟩:=zbg h
          refine zco (v:=zI r2) (vs:=[zP bt1,zI from3,zI to3]) hrd rfl dc rfl rfl rfl zs3 (zd9 (bt1:=bt1) (t1:=t1) (t1_h0:=t1_h0) (t1_h1:=t1_h1) (t1_h2:=t1_h2) hq3) (.ro 0 rfl (.ro 1 rfl (.ro 2 rfl (.ro 3 rfl .nil)))) (zyR 2 rfl ?_)
          obtain ⟨r3,hq4,h⟩:=zbg h
          refine zco (v:=zI r3) (vs:=[zP bt1,zI from3]) hrd rfl dc rfl rfl rfl zs0 (zeE (bt1:=bt1) (t1:=t1) (t1_h0:=t1_h0) (t1_h1:=t1_h1) (t1_h2:=t1_h2) hq4) (.ro 0 rfl (.ro 1 rfl (.ro 2 rfl (.ro 3 rfl .nil)))) (zaT rfl zcA (zyN ?_))
          refine zyB rfl h (fun h => ?_) (fun h => ?_)
          ·
           refine za2 (zam (zam (zct dc (zam (zam (zav (zdP (by simp) (zag ?_))))))))
           exact zak all8 h rfl (za0 rfl) (zae [0] kr rfl)
          refine zas (zaL (za2 (zam (zav ?_))))
          exact zak all8 h rfl (za0 rfl) (zae [0] kr rfl)
         refine zas (zaL ?_)
         obtain ⟨j4,hj4,h⟩:=zbK h
         refine zaX (β:=Int×Int×Nat) 1 rfl (fun b=>j4 b.1 b.2.1=some r) (fun b=>[]) (fun b=>[(0,zP bt1),(4,zI (t1.cells.length:Int)),(5,v2),(6,zI from3),(7,zI to3),(8,zP b.2.2)]) (fun b=>[zv8 v2 all8,cells b.2.2 [zI b.1,zI b.2.1,zI to3] 138]) (fun cut => ?_) ?_
         ·
          refine zyG (zyR 1 rfl ?_)
          refine za3 (v:=.agg #[zI 0,zI 1,zI to3]) (ps:=[(1,.const (zI 1)),(2,.tmp 50)]) rfl dc rfl (fun _=>by kernel_rfl) ?_
          refine zbt zkK rfl dc (fun b4 => ?_)
          refine zaY (k:=1) (vs:=[zI 0,zI 1,zI to3]) (l':=[zI 0,zI 1,zI to3]) zc2 rfl rfl rfl rfl rfl (show _≤_ by simp) rfl rfl ?_
          refine zyN (cut (zyG (zyR 2 rfl (zaT rfl zbf (zyN ?_)))))
          refine zyB rfl h (fun h => ?_) (fun h => ?_)
          ·
           refine zaJ (zyG (zyR 2 rfl ?_))
           obtain ⟨q2,hq5,h⟩:=zbg h
           refine zan (k:=0) hq5 Tryd.underlying136 zc2 rfl dc rfl rfl rfl rfl (zab zeZ rfl dc rfl (show _=((to3:Int).toNat)*3+1 from rfl) (zaB (i:=(to3:Int).toNat) (j:=1) (k:=0) (q:=q2) zbh zaW rfl dc rfl rfl (zaC hq5) rfl dc rfl (zaT rfl zbf (zyN ?_))))
           refine zyB rfl h (fun h => ?_) (fun h => ?_)
           ·
            refine za2 (zam (zam (zav ?_)))
            exact zak all8 h rfl (za0 rfl) (zae [0] kr rfl)
           refine zas (zaL ?_)
           obtain ⟨r4,hq6,h⟩:=zbg h
           obtain ⟨q3,hq7,h⟩:=zbg h
           obtain ⟨hg5,h⟩:=zbk h
           obtain ⟨hg6,h⟩:=zbk h
           refine zbu 17 [(0,61,zP bt1),(1,62,zI from3),(2,63,zI to3),(3,64,zI r4),(4,65,v2),(5,66,zI to3),(6,67,.pointer (some ⟨zb7 v2,(to3:Int).toNat*3,none⟩)),(7,68,.pointer (some ⟨zb7 v2,((to3:Int).toNat)*3,none⟩)),(8,69,zI q3.cost),(9,70,zI (r4+q3.cost)),(10,71,v2),(11,72,zI to3),(12,73,.pointer (some ⟨zb7 v2,(to3:Int).toNat*3,none⟩)),(13,74,.pointer (some ⟨zb7 v2,((to3:Int).toNat)*3+1,none⟩)),(14,75,zI q3.rows),(15,76,zI (q3.rows+1)),(16,77,zI to3)] mixed kr kr dc (by rfl) kr kr (zyP 3 0 rfl (zad ?_ (zyP 2 4 rfl (zad ?_ (zad ?_ (zad ?_ (zad ?_ (zyP 2 10 rfl (zad ?_ (zad ?_ (zad ?_ (zad ?_ (zyP 1 16 rfl DrawPre.nil))))))))))))) ?_
           · exact fun D n d c u i=>zco (v:=zI r4) (vs:=[zP bt1,zI from3,zI to3]) hrd rfl dc rfl (evL.cons (zaa (m:=0) u rfl (d 0 dc)) (evL.cons (zaa (m:=1) u rfl (d 1 dc)) (evL.cons (zaa (m:=2) u rfl (d 2 dc)) evL.nil))) rfl zvl (zhx (bt1:=bt1) (t1:=t1) (t1_h0:=t1_h0) (t1_h1:=t1_h1) (t1_h2:=t1_h2) hq6) (.ro 0 rfl (.ro 1 rfl (.ro 2 rfl (.ro 3 rfl .nil)))) (zaf 3 u i rfl)
           · exact fun D n d c u i=>zan (k:=0) hq7 Tryd.underlying136 zc2 rfl dc (zaa (m:=4) u rfl (d 4 dc)) (zaa (m:=5) u rfl (d 5 dc)) rfl rfl (zaf 6 u i rfl)
           · exact fun D n d c u i=>zab zez rfl dc (zaa (m:=6) u rfl (d 6 dc)) (show _=((to3:Int).toNat)*3 from rfl) (zaf 7 u i rfl)
           · exact fun D n d c u i=>zaB (i:=(to3:Int).toNat) (j:=0) (k:=0) (q:=q3) zbh zaW rfl dc (zaa (m:=7) u rfl (d 7 dc)) rfl (zaC hq7) rfl dc rfl (zaf 8 u i rfl)
           · exact fun D n d c u i=>zbM rfl dc (zaa (m:=3) u rfl (d 3 dc)) (zaa (m:=8) u rfl (d 8 dc)) (zaQ (r:=r4+q3.cost) (IntWalk.i64_in _ hg5)) (zaf 9 u i rfl)
           · exact fun D n d c u i=>zan (k:=0) hq7 Tryd.underlying136 zc2 rfl dc (zaa (m:=10) u rfl (d 10 dc)) (zaa (m:=11) u rfl (d 11 dc)) rfl rfl (zaf 12 u i rfl)
           · exact fun D n d c u i=>zab zeZ rfl dc (zaa (m:=12) u rfl (d 12 dc)) (show _=((to3:Int).toNat)*3+1 from rfl) (zaf 13 u i rfl)
           · exact fun D n d c u i=>zaB (i:=(to3:Int).toNat) (j:=1) (k:=0) (q:=q3) zbh zaW rfl dc (zaa (m:=13) u rfl (d 13 dc)) rfl (zaC hq7) rfl dc rfl (zaf 14 u i rfl)
           · exact fun D n d c u i=>zbM rfl dc (zaa (m:=14) u rfl (d 14 dc)) rfl (zaQ (r:=q3.rows+1) (IntWalk.i64_in _ hg6)) (zaf 15 u i rfl)
           refine za3 (v:=.agg #[zI (r4+q3.cost),zI (q3.rows+1),zI to3]) (ps:=[(0,.tmp 70),(1,.tmp 76),(2,.tmp 77)]) rfl dc rfl (fun _=>by kernel_rfl) ?_
           refine zaY (k:=1) (vs:=[zI (r4+q3.cost),zI (q3.rows+1),zI to3]) (l':=[zI (r4+q3.cost),zI (q3.rows+1),zI to3]) zc2 rfl rfl rfl rfl rfl (show _≤_ by simp) rfl rfl (zaR ?_)
           exact zak (r4+q3.cost,q3.rows+1,b4) h rfl (za0 rfl) (zae [0,1] kr rfl)
          refine zas ?_
          exact zak (0,1,b4) h rfl (za0 rfl) (zae [0,1] kr rfl)
         rintro ⟨b2,b3,b1⟩ h
         rw [hj4] at h
         refine zyG (zyR 2 rfl ?_)
         obtain ⟨q4,hq8,h⟩:=zbg h
         refine zan (k:=0) hq8 Tryd.underlying136 zc2 rfl dc rfl rfl rfl rfl (zei (i:=(from3:Int).toNat) (j:=0) (k:=0) (q:=q4) (cs:=(zr7 q4)) ziW zaW rfl dc rfl rfl (zaC hq8) rfl rfl rfl ?_)
         refine zbt zkK rfl dc (fun b5 => ?_)
         refine zaY (k:=2) (vs:=(zr7 q4)) (l':=(zr7 q4)) zc2 rfl rfl rfl rfl rfl (show _≤_ by simp) rfl rfl ?_
         refine zyH (zab zeZ rfl dc rfl (show _=1 from rfl) (zar (k:=2) zbh rfl dc rfl rfl rfl (zaT rfl zbf (zyR 1 rfl ?_))))
         refine zyS (s:=86) rfl h (fun h => ?_) (fun h => ?_)
         ·
          refine zyR 14 rfl ?_
          refine zyR 6 rfl (zyN (za7 rfl (zax (zyR 2 rfl (zba (k:=1) (cs:=[zI b2,zI b3,zI to3]) ziW rfl dc rfl rfl rfl rfl ?_)))))
          obtain ⟨q5,hq9,h⟩:=zbg h
          refine zan (k:=0) hq9 Tryd.underlying136 zc2 rfl dc rfl rfl rfl rfl ?_
          refine zeN (i:=(from3:Int).toNat) (j:=0) (k:=0) (q:=q5) (q':=(⟨b2,b3,to3⟩:Gpage_best)) (vs:=[zI b2,zI b3,zI to3]) zc2 zaW rfl rfl rfl rfl (zaC hq9) rfl dc rfl rfl (fun m=>[q5,(⟨b2,q5.rows,q5.to_⟩:Gpage_best),(⟨b2,b3,q5.to_⟩:Gpage_best),(⟨b2,b3,to3⟩:Gpage_best)].getD m q5) rfl rfl (by intro m hm; rcases m with _ | _ | _ | m <;> first | rfl | (exfalso; omega)) ?_
          refine zaR (zag ?_)
          exact zak (all8.set (from3:Int).toNat (⟨b2,b3,to3⟩:Gpage_best)) h rfl (za0 rfl) (zae [0] kr rfl)
         refine zab zez rfl dc rfl (show _=0 from rfl) (zar (k:=1) zbh rfl dc rfl rfl rfl (zab zez rfl dc rfl (show _=0 from rfl) (zar (k:=2) zbh rfl dc rfl rfl rfl (zaT rfl zbf (zyR 2 rfl ?_)))))
         refine zyS (s:=93) rfl h (fun h => ?_) (fun h => ?_)
         ·
          refine zyR 13 rfl (zaR ?_)
          refine zaL (za7 rfl (zax (zyR 2 rfl (zba (k:=1) (cs:=[zI b2,zI b3,zI to3]) ziW rfl dc rfl rfl rfl rfl ?_))))
          obtain ⟨q6,hq10,h⟩:=zbg h
          refine zan (k:=0) hq10 Tryd.underlying136 zc2 rfl dc rfl rfl rfl rfl ?_
          refine zeN (i:=(from3:Int).toNat) (j:=0) (k:=0) (q:=q6) (q':=(⟨b2,b3,to3⟩:Gpage_best)) (vs:=[zI b2,zI b3,zI to3]) zc2 zaW rfl rfl rfl rfl (zaC hq10) rfl dc rfl rfl (fun m=>[q6,(⟨b2,q6.rows,q6.to_⟩:Gpage_best),(⟨b2,b3,q6.to_⟩:Gpage_best),(⟨b2,b3,to3⟩:Gpage_best)].getD m q6) rfl rfl (by intro m hm; rcases m with _ | _ | _ | m <;> first | rfl | (exfalso; omega)) ?_
          refine zaR (zag ?_)
          exact zak (all8.set (from3:Int).toNat (⟨b2,b3,to3⟩:Gpage_best)) h rfl (za0 rfl) (zae [0] kr rfl)
         refine zab zez rfl dc rfl (show _=0 from rfl) (zar (k:=1) zbh rfl dc rfl rfl rfl (zab zez rfl dc rfl (show _=0 from rfl) (zar (k:=2) zbh rfl dc rfl rfl rfl (zaT rfl zaP (zyR 1 rfl ?_)))))
         refine zyS (s:=99) rfl h (fun h => ?_) (fun h => ?_)
         ·
          refine zab zeZ rfl dc rfl (show _=1 from rfl) (zar (k:=1) zbh rfl dc rfl rfl rfl (zab zeZ rfl dc rfl (show _=1 from rfl) (zar (k:=2) zbh rfl dc rfl rfl rfl (zaT rfl zc6 (zyR 2 rfl (zyN ?_))))))
          refine zyB rfl h (fun h => ?_) (fun h => ?_)
          ·
           refine zax (zyR 2 rfl (zba (k:=1) (cs:=[zI b2,zI b3,zI to3]) ziW rfl dc rfl rfl rfl rfl ?_))
           obtain ⟨q7,hq11,h⟩:=zbg h
           refine zan (k:=0) hq11 Tryd.underlying136 zc2 rfl dc rfl rfl rfl rfl ?_
           refine zeN (i:=(from3:Int).toNat) (j:=0) (k:=0) (q:=q7) (q':=(⟨b2,b3,to3⟩:Gpage_best)) (vs:=[zI b2,zI b3,zI to3]) zc2 zaW rfl rfl rfl rfl (zaC hq11) rfl dc rfl rfl (fun m=>[q7,(⟨b2,q7.rows,q7.to_⟩:Gpage_best),(⟨b2,b3,q7.to_⟩:Gpage_best),(⟨b2,b3,to3⟩:Gpage_best)].getD m q7) rfl rfl (by intro m hm; rcases m with _ | _ | _ | m <;> first | rfl | (exfalso; omega)) ?_
           refine zaR (zag ?_)
           exact zak (all8.set (from3:Int).toNat (⟨b2,b3,to3⟩:Gpage_best)) h rfl (za0 rfl) (zae [0] kr rfl)
          refine zas (zag ?_)
          exact zak all8 h rfl (za0 rfl) (zae [0] kr rfl)
         refine zyR 7 rfl (zyN (zaN rfl (zas (zag ?_))))
         exact zak all8 h rfl (za0 rfl) (zae [0] kr rfl)
        rintro all9 h
        rw [hj3] at h
        refine zax (zyR 1 rfl ?_)
        obtain ⟨hg7,h⟩:=zbk h
        refine zaT rfl (zaQ (r:=to3+1) (IntWalk.i64_in _ hg7)) (zyR 1 rfl (zaR ?_))
        subst hag2
        exact za4 (n2,all9,to3+1) h (Nat.lt_succ_self _) rfl (za0 rfl) (zae [0] kr rfl)
       refine za2 (zam (zam (zav (zdP (by simp) (zag ?_)))))
       exact zak all8 h rfl (za0 rfl) (zae [0] kr rfl)
     exact fun b hb=>hb.elim
    rintro all5 h
    rw [hj2] at h
    refine zax (zyR 1 rfl ?_)
    obtain ⟨hg8,h⟩:=zbk h
    refine zaT rfl (zbj (r:=from3 - 1) (IntWalk.i64_in _ hg8)) (zyR 1 rfl (zaR ?_))
    subst hag1
    exact za4 (n1,all5,from3 - 1) h (Nat.lt_succ_self _) rfl (za0 rfl) (zae [0] kr rfl)
   refine za2 (zam (zam (zav ?_)))
   exact zak (all4,v2) h rfl (za0 rfl) (zae [0] kr rfl)
 rintro ⟨all1,v1⟩ h
 rw [hj1] at h
 obtain ⟨j5,hj5,h⟩:=zbK h
 refine zaX (β:=(List Int)×Hd) 1 rfl (fun b=>j5 b.1=some r) (fun b=>[]) (fun b=>[(5,v1),(10,b.2.v)]) (fun b=>[zv8 v1 all1,zv0 b.2.v b.1]) (fun cut => ?_) ?_
 ·
  refine zyG (zyR 1 rfl (zyN (cut (zyG (zyR 1 rfl (zyN (zaE (zcX (enc:=(znE (.i64))) (e:=3) (size:=1) ?_))))))))
  refine zbn (β:=Nat×(List Int)×Int×Hd) (fun b=>zaF (fun _ _=>none) (zbD t1 all1 j5) b.1 b.2.1 b.2.2.1=some r) (fun b=>[]) (fun b=>[(4,zI (t1.cells.length:Int)),(5,v1),(10,b.2.2.2.v),(11,zI b.2.2.1)]) (fun b=>[zv8 v1 all1,zv0 b.2.2.2.v b.2.1]) (fun b=>b.1) (zbW,([]:List Int),0,Hd.nil) h rfl (za0 rfl) (zae [0,1] kr rfl) ?_
  rintro ⟨n3,out4,from6,hd4⟩ h
  cases n3 with
  | zero=>exact zdG h
  | succ n3 =>
   obtain ⟨ag3,hag3⟩:∃ ag,ag=zaF (fun _ _=>none) (zbD t1 all1 j5) n3:=⟨_,rfl⟩
   have h:zbD t1 all1 j5 ag3 out4 from6=some r:=by rw [hag3]; exact h
   unfold zbD at h
   refine zaJ (zyG (zyR 2 rfl (zaT rfl zbf (zyN ?_))))
   refine zyB rfl h (fun h => ?_) (fun h => ?_)
   ·
    refine zas (zaL (zaJ (zaE (zax (zyR 3 rfl ?_)))))
    obtain ⟨q8,hq12,h⟩:=zbg h
    refine zan (k:=0) hq12 Tryd.underlying136 zc2 rfl dc rfl rfl rfl rfl (zab zjl rfl dc rfl (show _=((from6:Int).toNat)*3+2 from rfl) (zaB (i:=(from6:Int).toNat) (j:=2) (k:=0) (q:=q8) zbh zaW rfl dc rfl rfl (zaC hq12) rfl dc rfl ?_))
    refine zaS (cs:=[zI q8.to_]) (te:=3) (ps:=[(0,.tmp 124)]) rfl dc rfl (fun _=>by kernel_rfl) (fun b6 => ?_)
    obtain ⟨hg9,h⟩:=zbk h
    refine za1 (k:=1) (k2:=2) (ys:=[q8.to_]) Tryd.underlying24 zqy za6 zgs rfl dc rfl rfl rfl rfl rfl rfl hg9 (fun v3 => ?_)
    refine zbL (k:=1) rfl (fun hd5 he1 => ?_)
    subst he1
    refine zyR 1 rfl (zaR (zag (zaL (zax (zyR 2 rfl ?_)))))
    obtain ⟨q9,hq13,h⟩:=zbg h
    refine zan (k:=0) hq13 Tryd.underlying136 zc2 rfl dc rfl rfl rfl rfl (zab zjl rfl dc rfl (show _=((from6:Int).toNat)*3+2 from rfl) (zaB (i:=(from6:Int).toNat) (j:=2) (k:=0) (q:=q9) zbh zaW rfl dc rfl rfl (zaC hq13) rfl dc rfl (zyR 1 rfl (zaR ?_))))
    subst hag3
    exact za4 (n3,out4++[q8.to_],q9.to_,hd5) h (Nat.lt_succ_self _) rfl (za0 rfl) (zae [0,1] kr rfl)
   refine za2 (zam (zam (zav ?_)))
   exact zak (out4,hd4) h rfl (za0 rfl) (zae [0,1] kr rfl)
 rintro ⟨out1,hd1⟩ h
 rw [hj5] at h
 refine zaJ ?_
 obtain ⟨q10,hq14,h⟩:=zbg h
 refine zbu 6 [(0,127,hd1.v),(1,128,v1),(2,129,.pointer (some ⟨zb7 v1,(0:Int).toNat*3,none⟩)),(3,130,.pointer (some ⟨zb7 v1,((0:Int).toNat)*3,none⟩)),(4,131,zI q10.cost),(5,2,hd1.v)] mixed kr kr dc (by rfl) kr kr (zyP 2 0 rfl (zad ?_ (zad ?_ (zad ?_ (zyP 1 5 rfl DrawPre.nil))))) ?_
 · exact fun D n d c u i=>zan (k:=0) hq14 Tryd.underlying136 zc2 rfl dc (zaa (m:=1) u rfl (d 1 dc)) rfl rfl rfl (zaf 2 u i rfl)
 · exact fun D n d c u i=>zab zez rfl dc (zaa (m:=2) u rfl (d 2 dc)) (show _=((0:Int).toNat)*3 from rfl) (zaf 3 u i rfl)
 · exact fun D n d c u i=>zaB (i:=(0:Int).toNat) (j:=0) (k:=0) (q:=q10) zbh zaW rfl dc (zaa (m:=3) u rfl (d 3 dc)) rfl (zaC hq14) rfl dc rfl (zaf 4 u i rfl)
 refine zyR 1 rfl (zyN (zaI ?_))
 cases h
 exact zaK (rs:=[.tmp 2,.tmp 3]) hd1.v (.inl rfl) Tryd.results54 (.cons (.tmp rfl) (.cons (.tmp rfl) .nil)) rfl (zae [1] kr rfl)
def zdq (t1:Gpage_turner) (from1:Int) (to1:Int):Option ByteArray :=
zal (zbF t1.cells from1) fun (q1:Gapi_Cell) =>
grd (I64 (to1 - 1)) <|
zal (zbF t1.cells (to1 - 1)) fun (q2:Gapi_Cell) =>
grd (0≤(q1.Span_From:Int)∧(q1.Span_From:Int)≤q2.Span_To∧(q2.Span_To:Int)≤(t1.s.size:Int)) <|
some (zbT t1.s q1.Span_From q2.Span_To)
theorem zhv {bt1:Nat} {t1:Gpage_turner} {t1_h0 t1_h1 t1_h2:Hd} {from1:Int} {to1:Int} {r:ByteArray} (h:zdq t1 from1 to1=some r):FnR Tryd.prog 55 [zP bt1,zI from1,zI to1] [cells bt1 [.string t1.s,t1_h0.v,t1_h1.v,t1_h2.v,zI t1.first,zI t1.rest] 163,zv2 t1_h0.v t1.cells,zv0 t1_h1.v t1.wide,zv0 t1_h2.v t1.ends] [] (fun _:Unit=>(.string r)) (fun _=>[]):=by
 unfold zdq at h
 refine FnR.intro Tryd.func55 rfl Tryd.ntmps55 (by simp) ?_
 intro w0 K hrd
 refine zyG (zyR 1 rfl (zyN (zaJ ?_)))
 obtain ⟨q1,hq1,h⟩:=zbg h
 obtain ⟨hg1,h⟩:=zbk h
 obtain ⟨q2,hq2,h⟩:=zbg h
 obtain ⟨hg2,h⟩:=zbk h
 refine zbu 23 [(0,7,zP bt1),(1,8,zP bt1),(2,9,zP bt1),(3,10,.string t1.s),(4,11,zP bt1),(5,12,zP bt1),(6,13,.pointer (some ⟨bt1,1,none⟩)),(7,14,t1_h0.v),(8,15,zI from1),(9,16,.pointer (some ⟨zb7 t1_h0.v,(0+(from1:Int).toNat)*3,none⟩)),(10,17,.pointer (some ⟨zb7 t1_h0.v,(0+(from1:Int).toNat)*3,none⟩)),(11,18,.pointer (some ⟨zb7 t1_h0.v,(0+(from1:Int).toNat)*3,none⟩)),(12,19,zI q1.Span_From),(13,20,zP bt1),(14,21,zP bt1),(15,22,.pointer (some ⟨bt1,1,none⟩)),(16,23,t1_h0.v),(17,24,zI to1),(18,25,zI (to1 - 1)),(19,26,.pointer (some ⟨zb7 t1_h0.v,(0+(to1 - 1:Int).toNat)*3,none⟩)),(20,27,.pointer (some ⟨zb7 t1_h0.v,(0+(to1 - 1:Int).toNat)*3,none⟩)),(21,28,.pointer (some ⟨zb7 t1_h0.v,(0+(to1 - 1:Int).toNat)*3+1,none⟩)),(22,29,zI q2.Span_To)] mixed kr kr dc (by rfl) kr kr (zyP 1 0 rfl (zad ?_ (zad ?_ (zad ?_ (zyP 1 4 rfl (zad ?_ (zad ?_ (zad ?_ (zyP 1 8 rfl (zad ?_ (zad ?_ (zad ?_ (zad ?_ (zyP 1 13 rfl (zad ?_ (zad ?_ (zad ?_ (zyP 1 17 rfl (zad ?_ (zad ?_ (zad ?_ (zad ?_ (zad ?_ DrawPre.nil))))))))))))))))))))))) ?_
 · exact fun D n d c u i=>zaA rfl dc (zaa (m:=0) u rfl (d 0 dc)) (zaf 1 u i rfl)
 · exact fun D n d c u i=>zab zod rfl dc (zaa (m:=1) u rfl (d 1 dc)) (show _=0 from rfl) (zaf 2 u i rfl)
 · exact fun D n d c u i=>zbx (i:=0) hrd rfl zoT rfl dc (zaa (m:=2) u rfl (d 2 dc)) rfl (zaf 3 u i rfl)
 · exact fun D n d c u i=>zaA rfl dc (zaa (m:=4) u rfl (d 4 dc)) (zaf 5 u i rfl)
 · exact fun D n d c u i=>zab zgq rfl dc (zaa (m:=5) u rfl (d 5 dc)) (show _=1 from rfl) (zaf 6 u i rfl)
 · exact fun D n d c u i=>zbx (i:=0) hrd rfl zkU rfl dc (zaa (m:=6) u rfl (d 6 dc)) rfl (zaf 7 u i rfl)
 · exact fun D n d c u i=>za8 (hrd.vw (i:=1) rfl) hq1 Tryd.underlying100 zfl rfl dc (zaa (m:=7) u rfl (d 7 dc)) (zaa (m:=8) u rfl (d 8 dc)) rfl (zaf 9 u i rfl)
 · exact fun D n d c u i=>zab zen rfl dc (zaa (m:=9) u rfl (d 9 dc)) (show _=(0+(from1:Int).toNat)*3 from rfl) (zaf 10 u i rfl)
 · exact fun D n d c u i=>zab zc5 rfl dc (zaa (m:=10) u rfl (d 10 dc)) (show _=(0+(from1:Int).toNat)*3 from rfl) (zaf 11 u i rfl)
 · exact fun D n d c u i=>zcu (n:=0+(from1:Int).toNat) (j:=0) (i:=1) (q:=q1) hrd rfl zbh zbp rfl dc (zaa (m:=11) u rfl (d 11 dc)) (Vw.get (hrd.vw (i:=1) rfl) hq1) rfl dc rfl (zaf 12 u i rfl)
 · exact fun D n d c u i=>zaA rfl dc (zaa (m:=13) u rfl (d 13 dc)) (zaf 14 u i rfl)
 · exact fun D n d c u i=>zab zgq rfl dc (zaa (m:=14) u rfl (d 14 dc)) (show _=1 from rfl) (zaf 15 u i rfl)
 · exact fun D n d c u i=>zbx (i:=0) hrd rfl zkU rfl dc (zaa (m:=15) u rfl (d 15 dc)) rfl (zaf 16 u i rfl)
 · exact fun D n d c u i=>zbM rfl dc (zaa (m:=17) u rfl (d 17 dc)) rfl (zbj (r:=to1 - 1) (IntWalk.i64_in _ hg1)) (zaf 18 u i rfl)
 · exact fun D n d c u i=>za8 (hrd.vw (i:=1) rfl) hq2 Tryd.underlying100 zfl rfl dc (zaa (m:=16) u rfl (d 16 dc)) (zaa (m:=18) u rfl (d 18 dc)) rfl (zaf 19 u i rfl)
 · exact fun D n d c u i=>zab zen rfl dc (zaa (m:=19) u rfl (d 19 dc)) (show _=(0+(to1 - 1:Int).toNat)*3 from rfl) (zaf 20 u i rfl)
 · exact fun D n d c u i=>zab zdD rfl dc (zaa (m:=20) u rfl (d 20 dc)) (show _=(0+(to1 - 1:Int).toNat)*3+1 from rfl) (zaf 21 u i rfl)
 · exact fun D n d c u i=>zcu (n:=0+(to1 - 1:Int).toNat) (j:=1) (i:=1) (q:=q2) hrd rfl zbh zbp rfl dc (zaa (m:=21) u rfl (d 21 dc)) (Vw.get (hrd.vw (i:=1) rfl) hq2) rfl dc rfl (zaf 22 u i rfl)
 refine zdx rfl dc rfl rfl rfl (zbZ (i:=q1.Span_From) (j:=q2.Span_To) Tryd.underlying9 (.inr rfl) (.inr rfl) hg2) (zyR 1 rfl (zyN (zaI ?_)))
 cases h
 exact zaK (rs:=[.tmp 6]) () (.inl rfl) Tryd.results55 (.cons (.tmp rfl) .nil) rfl Splits.nil
def zcs (s1:ByteArray) (indent1:Int) (l1:Gapi_Layout) (x1:Gapi_Cell) (ag1:(List Gapi_Cell)→(List Int)→(List Int)→Option Gpage_turner) (t10:List Gapi_Cell) (t11:List Int) (t12:List Int):Option Gpage_turner :=
zbl (fun (j2:(List Int)→Int→Option Gpage_turner) =>
grd (t10.length+1≤2147483648) <|
grd (I64 (((t10++[x1]).length:Int) - 1)) <|
zal (zbF t11 (((t10++[x1]).length:Int) - 1)) fun (q1:Int) =>
grd (I64 (q1+x1.Columns)) <|
grd (t11.length+1≤2147483648) <|
grd (I64 ((((t10++[x1]).length:Int) - 1)+1)) <|
zal (zbV (⟨s1,t10++[x1],t11++[q1+x1.Columns],t12,max 1 (l1.Width - indent1),l1.Width - l1.Turn⟩:Gpage_turner) (((t10++[x1]).length:Int) - 1)) fun (r2:Bool) =>
zaw (r2) (
zal (zbF t12 (((t10++[x1]).length:Int) - 1)) fun (q2:Int) =>
j2 (t11++[q1+x1.Columns]) q2
) (
j2 (t11++[q1+x1.Columns]) ((((t10++[x1]).length:Int) - 1)+1)
)
) (fun (t13:List Int) (end1:Int) =>
grd (t12.length+1≤2147483648) <|
ag1 (t10++[x1]) t13 (t12++[end1])
)
def zdX (s1:ByteArray) (indent1:Int) (l1:Gapi_Layout):Option Gpage_turner :=
zbl (fun (j1:(List Gapi_Cell)→(List Int)→(List Int)→Option Gpage_turner) =>
grd (I64 (l1.Width - indent1)) <|
grd (I64 (l1.Width - l1.Turn)) <|
zal (zf6 s1) fun (r1:ByteArray) =>
zal (zd2 r1) fun (its1:(List Gapi_Cell)) =>
zbl (fun (dn1:(List Gapi_Cell)→(List Int)→(List Int)→Option Gpage_turner) =>
zeL dn1 (zcs s1 indent1 l1) its1 ([]:List Gapi_Cell) ([0]:List Int) ([0]:List Int)
) (fun (t10:List Gapi_Cell) (t11:List Int) (t12:List Int) =>
j1 t10 t11 t12
)
) (fun (t1:List Gapi_Cell) (t2:List Int) (t3:List Int) =>
some (⟨s1,t1,t2,t3,max 1 (l1.Width - indent1),l1.Width - l1.Turn⟩:Gpage_turner)
)
theorem ziy {s1:ByteArray} {indent1:Int} {l1:Gapi_Layout} {r:Gpage_turner} (h:zdX s1 indent1 l1=some r):Fn Tryd.prog 53 [.string s1,zI indent1,.agg (zr0 l1).toArray] [] (fun b:Nat×Hd×Hd×Hd=>zP b.1) (fun b=>[cells b.1 [.string r.s,b.2.1.v,b.2.2.1.v,b.2.2.2.v,zI r.first,zI r.rest] 163,zv2 b.2.1.v r.cells,zv0 b.2.2.1.v r.wide,zv0 b.2.2.2.v r.ends]):=by
 unfold zdX at h
 refine Fn.intro Tryd.func53 rfl Tryd.ntmps53 (by simp) ?_
 intro w0 K
 refine zmb ?_
 obtain ⟨j1,hj1,h⟩:=zbK h
 refine zaX (β:=(List Gapi_Cell)×(List Int)×(List Int)×Nat×Nat×Hd×Hd×Hd×(List Nat)) 2 rfl (fun b=>j1 b.1 b.2.1 b.2.2.1=some r) (fun b=>zgM b.2.2.2.2.2.2.2.2) (fun b=>[(7,zP b.2.2.2.1)]) (fun b=>[cells b.2.2.2.1 [zP b.2.2.2.2.1] 121,cells b.2.2.2.2.1 [.string s1,b.2.2.2.2.2.1.v,b.2.2.2.2.2.2.1.v,b.2.2.2.2.2.2.2.1.v,zI (max 1 (l1.Width - indent1)),zI (l1.Width - l1.Turn)] 163,zv2 b.2.2.2.2.2.1.v b.1,zv0 b.2.2.2.2.2.2.1.v b.2.1,zv0 b.2.2.2.2.2.2.2.1.v b.2.2.1,zkp ((b.2.2.2.2.2.2.2.2:List Nat).map zn8)]) (fun cut => ?_) ?_
 ·
  refine zyG ?_
  refine zdQ rfl dc rfl (fun b3 => ?_)
  refine zyR 1 rfl (zyH (zyR 1 rfl ?_))
  refine zaS (cs:=[zI 0]) (te:=3) (ps:=[(0,.const (zI 0))]) rfl dc rfl (fun _=>by kernel_rfl) (fun b4 => ?_)
  refine zaS (cs:=[zI 0]) (te:=3) (ps:=[(0,.const (zI 0))]) rfl dc rfl (fun _=>by kernel_rfl) (fun b5 => ?_)
  refine zab zgo rfl dc rfl (show _=0 from rfl) (zar (k:=1) zbh rfl dc rfl rfl rfl (zyR 1 rfl ?_))
  obtain ⟨hg1,h⟩:=zbk h
  refine zaT rfl (zbj (r:=l1.Width - indent1) (IntWalk.i64_in _ hg1)) (zkf rfl dc rfl rfl (zab zgo rfl dc rfl (show _=0 from rfl) (zar (k:=1) zbh rfl dc rfl rfl rfl (zab zgn rfl dc rfl (show _=2 from rfl) (zar (k:=1) zbh rfl dc rfl rfl rfl ?_)))))
  obtain ⟨hg2,h⟩:=zbk h
  refine zaT rfl (zbj (r:=l1.Width - l1.Turn) (IntWalk.i64_in _ hg2)) ?_
  refine za3 (v:=.agg #[.string s1,.slice none 0 0,.slice (some ⟨b4,0,none⟩) 1 1,.slice (some ⟨b5,0,none⟩) 1 1,zI (max 1 (l1.Width - indent1)),zI (l1.Width - l1.Turn)]) (ps:=[(0,.tmp 11),(2,.tmp 12),(3,.tmp 13),(4,.tmp 18),(5,.tmp 23)]) rfl dc rfl (fun _=>by kernel_rfl) ?_
  refine zjq ([0]:List Int) (k:=2) rfl za6 rfl (show 1≤maxLen by decide) ?_
  refine zjq ([0]:List Int) (k:=3) rfl za6 rfl (show 1≤maxLen by decide) ?_
  refine zdQ rfl dc rfl (fun b6 => ?_)
  refine zbt ztz rfl dc (fun b7 => ?_)
  refine za5 (k:=5) (l':=[zP b6]) ztK rfl rfl rfl rfl rfl (fun _ _=>rfl) rfl ?_
  refine zyN (cut (zyG (zyR 1 rfl ?_)))
  obtain ⟨r1,hq1,h⟩:=zbg h
  refine zea (vs:=[.string s1]) rfl dc rfl rfl rfl zvn (zkc hq1) Splits.nil ?_
  rintro b8
  refine zd7 (L':=[zkp ((([]:List Nat):List Nat).map zn8),cells b3 (zr0 l1) 23,zv0 (.slice (some ⟨b4,0,none⟩) 1 1) ([0]:List Int),zv0 (.slice (some ⟨b5,0,none⟩) 1 1) ([0]:List Int),cells b6 [.string s1,.slice none 0 0,(.slice (some ⟨b4,0,none⟩) 1 1),(.slice (some ⟨b5,0,none⟩) 1 1),zI (max 1 (l1.Width - indent1)),zI (l1.Width - l1.Turn)] 163,cells b7 [zP b6] 121,cells b8 [.string r1] 9]) (zae [0,1,2,3,4,5,6] kr rfl) (zyN (zaE ?_))
  obtain ⟨its1,hq2,h⟩:=zbg h
  refine zcX (enc:=zeo) (e:=106) (size:=3) ?_
  obtain ⟨dn1,hdn1,h⟩:=zbK h
  refine zoo (α:=Gapi_Cell) (β:=(List Gapi_Cell)×(List Int)×(List Int)×Hd×Hd×Hd) (γ:=Unit) (δ:=Nat) (ps:=[28]) Ro.nil rfl zvi (zik hq2) (fun pre b=>∀ post,its1=pre++post→zeL dn1 (zcs s1 indent1 l1) post b.1 b.2.1 b.2.2.1=some r) (fun pre b=>[cells b7 [zP b6] 121,cells b6 [.string s1,b.2.2.2.1.v,b.2.2.2.2.1.v,b.2.2.2.2.2.v,zI (max 1 (l1.Width - indent1)),zI (l1.Width - l1.Turn)] 163,zv2 b.2.2.2.1.v b.1,zv0 b.2.2.2.2.1.v b.2.1,zv0 b.2.2.2.2.2.v b.2.2.1]) (fun c pre g=>False) (fun c pre g=>[]) (fun pre x b j=>[(6,.pointer none),(7,zP b7),(27,.func (.func 98) #[] #[zP b8]),(8,zP j)]) (fun pre x b j=>[cells b7 [zP b6] 121,cells b6 [.string s1,b.2.2.2.1.v,b.2.2.2.2.1.v,b.2.2.2.2.2.v,zI (max 1 (l1.Width - indent1)),zI (l1.Width - l1.Turn)] 163,zv2 b.2.2.2.1.v b.1,zv0 b.2.2.2.2.1.v b.2.1,zv0 b.2.2.2.2.2.v b.2.2.1,cells j (zr1 x) 106]) (([]:List Gapi_Cell),([0]:List Int),([0]:List Int),Hd.nil,(⟨some ⟨b4,0,none⟩,1,1⟩:Hd),(⟨some ⟨b5,0,none⟩,1,1⟩:Hd)) (fun post e=>by rw [List.nil_append] at e; subst e; exact h) (zae [5,4,7,2,3] kr rfl) ⟨.inl ⟨6,rfl⟩,trivial⟩ (fun _=>rfl) dc ?_ ?_ ?_ ?_
  ·
   rintro lp rc pre x1 post ⟨t10,t11,t12,hd10,hd11,hd12⟩ w1 K1 hxs1 hext hro hinv
   refine zax ?_
   refine zbt zo0 rfl dc (fun b9 => ?_)
   refine zaY (k:=5) (vs:=(zr1 x1)) (l':=(zr1 x1)) zfl rfl rfl rfl rfl rfl (show _≤_ by simp) rfl rfl ?_
   refine zaR ?_
   exact fun a w ha hw=>⟨b9,(za0 rfl) _ _ _ ha,hw.weaken (zae [0,1,2,3,4,5] kr rfl)⟩
  ·
   rintro lp rc pre x1 post1 ⟨t10,t11,t12,hd10,hd11,hd12⟩ jb1 w1 K1 hxs1 hext hro hinv
   have h:=hinv (x1::post1) hxs1
   obtain ⟨ag1,hag1⟩:∃ ag,ag=zeL dn1 (zcs s1 indent1 l1) post1:=⟨_,rfl⟩
   have h:zcs s1 indent1 l1 x1 ag1 t10 t11 t12=some r:=by rw [hag1]; exact h
   unfold zcs at h
   refine zaE ?_
   obtain ⟨j2,hj2,h⟩:=zbK h
   refine zaX (β:=(List Int)×Int×Hd×Hd) 4 rfl (fun b=>j2 b.1 b.2.1=some r) (fun b=>[]) (fun b=>[(6,.pointer none),(7,zP b7),(10,zI b.2.1),(27,.func (.func 98) #[] #[zP b8])]) (fun b=>[cells b7 [zP b6] 121,cells b6 [.string s1,b.2.2.1.v,b.2.2.2.v,hd12.v,zI (max 1 (l1.Width - indent1)),zI (l1.Width - l1.Turn)] 163,zv2 b.2.2.1.v (t10++[x1]),zv0 b.2.2.2.v b.1,zv0 hd12.v t12]) (fun cut => ?_) ?_
   ·
    refine zaJ ?_
    obtain ⟨hg3,h⟩:=zbk h
    refine zfU 1 ?_
    refine let vals1:(Nat×Hd)→List (Nat×Nat×Value):=fun b=>[(0,29,zP b6),(1,30,zP b6),(2,31,zP b6),(3,32,.pointer (some ⟨b6,1,none⟩)),(4,33,hd10.v),(5,34,.agg (zr1 x1).toArray),(6,35,.slice (some ⟨b.1,0,none⟩) 1 1),(7,36,b.2.v)]; let LL1:(Nat→Prop)→(Nat×Hd)→List Asn:=fun D b=>[cells b7 [zP b6] 121,cells b6 [.string s1,hd10.v,hd11.v,hd12.v,zI (max 1 (l1.Width - indent1)),zI (l1.Width - l1.Turn)] 163,eD D (zv2 hd10.v t10) [(7,zv2 b.2.v (t10++[x1]))],zv0 hd11.v t11,zv0 hd12.v t12,cells jb1 (zr1 x1) 106,eD D emp [(6,cells b.1 (zr1 x1) 106)]]; ?_
    have zhq:zyQ [6,7] LL1:=fun i h D b=>zac rfl (zac rfl (zac (zjd rfl h) (zac rfl (zac rfl (zac rfl (zac (zjd rfl h) rfl))))))
    refine zdI (β:=Nat×Hd) 8 ((0:Nat),Hd.nil) vals1 LL1 mixed kr kr dc (fun _=>rfl) (zcZ (zac zbS (zcw (zac zbS rfl)))) (ziq zhq rfl (fun _=>rfl) (fun _=>rfl) ?_ (ziq zhq rfl (fun _=>rfl) (fun _=>rfl) ?_ (zyq zhq rfl (fun _=>rfl) (fun _=>rfl) ?_ (zyq zhq rfl (fun _=>rfl) (fun _=>rfl) ?_ (ziq zhq rfl (fun _=>rfl) (fun _=>rfl) ?_ (ziq zhq rfl (fun _=>rfl) (fun _=>rfl) ?_ (zat ?_ (zat ?_ DrawG.nil)))))))) ?_
    · exact fun D ⟨b10,hd15⟩ n d c u i=>⟨_,(zuE rfl),zar (k:=0) zgL rfl dc (za9 (by rfl) rfl) rfl rfl (zaf 0 u i rfl)⟩
    · exact fun D ⟨b10,hd15⟩ n d c u i=>⟨_,(zcZ (zac (zai (fun hD=>n (c 2 _ rfl (c 3 _ rfl (c 4 _ rfl (c 7 _ rfl hD 4 dc) 3 dc) 2 dc) 1 dc)) zap) (zfk rfl))),zar (k:=0) zgL rfl dc (za9 (by rfl) rfl) rfl rfl (zaf 1 u i rfl)⟩
    · exact fun D ⟨b10,hd15⟩ n d c u i=>zaA rfl dc (zaa (m:=1) u rfl (d 1 dc)) (zaf 2 u i rfl)
    · exact fun D ⟨b10,hd15⟩ n d c u i=>zab zgq rfl dc (zaa (m:=2) u rfl (d 2 dc)) (show _=1 from rfl) (zaf 3 u i rfl)
    · exact fun D ⟨b10,hd15⟩ n d c u i=>⟨_,(zcZ (zac (zai (fun hD=>n (c 7 _ rfl hD 4 dc)) zap) (zfk rfl))),zar (k:=1) zkU rfl dc (zaa (m:=3) u rfl (d 3 dc)) rfl rfl (zaf 4 u i rfl)⟩
    · exact fun D ⟨b10,hd15⟩ n d c u i=>⟨_,(zcZ (zac (zai (fun hD=>n (c 6 _ rfl (c 7 _ rfl hD 6 dc) 5 dc)) zap) (zcw (zac (zai (fun hD=>n (c 6 _ rfl hD 5 dc)) zap) rfl)))),zba (k:=5) (cs:=(zr1 x1)) zfJ rfl dc (za9 (by rfl) rfl) rfl rfl rfl (zaf 5 u i rfl)⟩
    ·
     intro D b hn hd hcl
     obtain ⟨_,hd15⟩:=b
     refine zaG (zcZ (zac (zai (fun hD=>hn (hcl 7 _ rfl hD 6 dc)) zap) (zcw (zac (zai hn zap) rfl)))) ?_
     refine zaS (cs:=(zr1 x1)) (te:=106) (ps:=[(0,.tmp 34)]) rfl dc (evP.cons (zaa (m:=5) rfl rfl (hd 5 dc)) evP.nil) (fun _=>by kernel_rfl) (fun b10 => ?_)
     refine zcD 6 rfl rfl ?_
     exact zaO (b10,hd15) 6 (by rfl) (by rfl) rfl (zsc (zaq (fun hD=>absurd hD hn) (zaq (fun _=>rfl) rfl))) (zcZ (zac ((zao (by rfl)).trans (zai (fun hD=>hn (hcl 7 _ rfl hD 6 dc)) zap)) (zcw (zac (zaH (Or.inr rfl) rfl) rfl))))
    ·
     intro D b hn hd hcl
     obtain ⟨b10,_⟩:=b
     refine zaG (zcZ (zac (zai hn zap) (zcw (zac (zaH (hd 6 dc) rfl) rfl)))) ?_
     refine za1 (k:=2) (k2:=6) (ys:=[x1]) Tryd.underlying100 zrS zbp zge rfl dc (zaa (m:=4) rfl rfl (hd 4 dc)) (zaa (m:=6) rfl rfl (hd 6 dc)) rfl rfl rfl rfl hg3 (fun v1 => ?_)
     refine zbL (k:=2) rfl (fun hd15 he1 => ?_)
     subst he1
     exact zaO (b10,hd15) 7 (by rfl) (by rfl) rfl (zi4 (zaq (fun hD=>absurd hD hn) rfl)) (zcZ (zac (zaH (Or.inr rfl) rfl) (zcw (zac ((zao (by rfl)).trans (zaH (hd 6 dc) rfl)) rfl))))
    intro D b hall
    obtain ⟨b10,hd15⟩:=b
    refine zaG (zcZ (zac (zaH (hall 7 dc) rfl) (zcw (zac (zaH (hall 6 dc) rfl) rfl)))) (zaA rfl dc rfl (zab zgq rfl dc rfl (show _=1 from rfl) ?_))
    refine za5 (k:=1) (l':=[.string s1,hd15.v,hd11.v,hd12.v,zI (max 1 (l1.Width - indent1)),zI (l1.Width - l1.Turn)]) ztL rfl rfl rfl rfl rfl (fun _ _=>rfl) rfl ?_
    refine zyH (zar (k:=0) zgL rfl dc rfl rfl rfl (zaA rfl dc rfl (zab zgq rfl dc rfl (show _=1 from rfl) (zar (k:=1) zkU rfl dc rfl rfl rfl (zbd (k:=2) rfl dc rfl rfl Tryd.underlying100 ?_)))))
    obtain ⟨hg4,h⟩:=zbk h
    refine zaT rfl (zbj (r:=((t10++[x1]).length:Int) - 1) (IntWalk.i64_in _ hg4)) (zyR 1 rfl (zyN (zaJ ?_)))
    obtain ⟨q1,hq3,h⟩:=zbg h
    obtain ⟨hg5,h⟩:=zbk h
    obtain ⟨hg6,h⟩:=zbk h
    refine zfU 1 ?_
    refine let vals2:(Nat×Hd)→List (Nat×Nat×Value):=fun b=>[(0,45,zP b6),(1,46,zP b6),(2,47,zP b6),(3,48,.pointer (some ⟨b6,2,none⟩)),(4,49,hd11.v),(5,50,zP b6),(6,51,zP b6),(7,52,.pointer (some ⟨b6,2,none⟩)),(8,53,hd11.v),(9,54,zI (((t10++[x1]).length:Int) - 1)),(10,55,.pointer (some ⟨zb7 hd11.v,(((t10++[x1]).length:Int) - 1:Int).toNat*1,none⟩)),(11,56,zI q1),(12,57,.pointer (some ⟨jb1,2,none⟩)),(13,58,zI x1.Columns),(14,59,zI (q1+x1.Columns)),(15,60,.slice (some ⟨b.1,0,none⟩) 1 1),(16,61,b.2.v)]; let LL2:(Nat→Prop)→(Nat×Hd)→List Asn:=fun D b=>[cells b7 [zP b6] 121,cells b6 [.string s1,hd15.v,hd11.v,hd12.v,zI (max 1 (l1.Width - indent1)),zI (l1.Width - l1.Turn)] 163,zv2 hd15.v (t10++[x1]),eD D (zv0 hd11.v t11) [(16,zv0 b.2.v (t11++[q1+x1.Columns]))],zv0 hd12.v t12,cells jb1 (zr1 x1) 106,cells b10 (zr1 x1) 106,eD D emp [(15,cells b.1 [zI (q1+x1.Columns)] 3)]]; ?_
    refine zdI (β:=Nat×Hd) 17 ((0:Nat),Hd.nil) vals2 LL2 mixed kr kr dc (fun _=>rfl) (zcw (zac zbS (zcw (zac zbS rfl)))) (zat ?_ (zat ?_ (zat ?_ (zat ?_ (zat ?_ (zat ?_ (zat ?_ (zat ?_ (zat ?_ (zat ?_ (zat ?_ (zat ?_ (zat ?_ (zat ?_ (zat ?_ (zat ?_ (zat ?_ DrawG.nil))))))))))))))))) ?_
    ·
     intro D b hn hd hcl
     obtain ⟨b11,hd16⟩:=b
     refine zaG (zhG rfl) (zar (k:=0) zgL rfl dc (za9 (by rfl) rfl) rfl rfl ?_)
     exact zaO (b11,hd16) 0 (by rfl) (by rfl) rfl (zmg (zcx rfl)) (zcw (zac (zao (by rfl)) (zcw (zac (zao (by rfl)) rfl))))
    ·
     intro D b hn hd hcl
     obtain ⟨b11,hd16⟩:=b
     refine zaG (zcw (zac (zai (fun hD=>hn (hcl 2 _ rfl (hcl 3 _ rfl (hcl 4 _ rfl (hcl 16 _ rfl hD 4 dc) 3 dc) 2 dc) 1 dc)) zap) (zfk rfl))) ?_
     refine zar (k:=0) zgL rfl dc (za9 (by rfl) rfl) rfl rfl ?_
     exact zaO (b11,hd16) 1 (by rfl) (by rfl) rfl (zmg (zcx rfl)) (zcw (zac ((zao (by rfl)).trans (zai (fun hD=>hn (hcl 2 _ rfl (hcl 3 _ rfl (hcl 4 _ rfl (hcl 16 _ rfl hD 4 dc) 3 dc) 2 dc) 1 dc)) zap)) (zcw (zac (zao (by rfl)) rfl))))
    ·
     intro D b hn hd hcl
     obtain ⟨b11,hd16⟩:=b
     refine zaG (zcw (zac (zai (fun hD=>hn (hcl 3 _ rfl (hcl 4 _ rfl (hcl 16 _ rfl hD 4 dc) 3 dc) 2 dc)) zap) (zfk rfl))) ?_
     refine zaA rfl dc (zaa (m:=1) rfl rfl (hd 1 dc)) ?_
     exact zaO (b11,hd16) 2 (by rfl) (by rfl) rfl (zmg (zcx rfl)) (zcw (zac ((zao (by rfl)).trans (zai (fun hD=>hn (hcl 3 _ rfl (hcl 4 _ rfl (hcl 16 _ rfl hD 4 dc) 3 dc) 2 dc)) zap)) (zcw (zac (zao (by rfl)) rfl))))
    ·
     intro D b hn hd hcl
     obtain ⟨b11,hd16⟩:=b
     refine zaG (zcw (zac (zai (fun hD=>hn (hcl 4 _ rfl (hcl 16 _ rfl hD 4 dc) 3 dc)) zap) (zfk rfl))) ?_
     refine zab zh9 rfl dc (zaa (m:=2) rfl rfl (hd 2 dc)) (show _=2 from rfl) ?_
     exact zaO (b11,hd16) 3 (by rfl) (by rfl) rfl (zmg (zcx rfl)) (zcw (zac ((zao (by rfl)).trans (zai (fun hD=>hn (hcl 4 _ rfl (hcl 16 _ rfl hD 4 dc) 3 dc)) zap)) (zcw (zac (zao (by rfl)) rfl))))
    ·
     intro D b hn hd hcl
     obtain ⟨b11,hd16⟩:=b
     refine zaG (zcw (zac (zai (fun hD=>hn (hcl 16 _ rfl hD 4 dc)) zap) (zfk rfl))) ?_
     refine zar (k:=1) zgE rfl dc (zaa (m:=3) rfl rfl (hd 3 dc)) rfl rfl ?_
     exact zaO (b11,hd16) 4 (by rfl) (by rfl) rfl (zmg (zcx rfl)) (zcw (zac ((zao (by rfl)).trans (zai (fun hD=>hn (hcl 16 _ rfl hD 4 dc)) zap)) (zcw (zac (zao (by rfl)) rfl))))
    ·
     intro D b hn hd hcl
     obtain ⟨b11,hd16⟩:=b
     refine zaG (zcw (zac (zai (fun hD=>hn (hcl 6 _ rfl (hcl 7 _ rfl (hcl 8 _ rfl (hcl 10 _ rfl (hcl 11 _ rfl (hcl 14 _ rfl (hcl 15 _ rfl (hcl 16 _ rfl hD 15 dc) 14 dc) 11 dc) 10 dc) 8 dc) 7 dc) 6 dc) 5 dc)) zap) (zcw (zac (zai (fun hD=>hn (hcl 6 _ rfl (hcl 7 _ rfl (hcl 8 _ rfl (hcl 10 _ rfl (hcl 11 _ rfl (hcl 14 _ rfl (hcl 15 _ rfl hD 14 dc) 11 dc) 10 dc) 8 dc) 7 dc) 6 dc) 5 dc)) zap) rfl)))) ?_
     refine zar (k:=0) zgL rfl dc (za9 (by rfl) rfl) rfl rfl ?_
     exact zaO (b11,hd16) 5 (by rfl) (by rfl) rfl (zmg (zcx rfl)) (zcw (zac ((zao (by rfl)).trans (zai (fun hD=>hn (hcl 6 _ rfl (hcl 7 _ rfl (hcl 8 _ rfl (hcl 10 _ rfl (hcl 11 _ rfl (hcl 14 _ rfl (hcl 15 _ rfl (hcl 16 _ rfl hD 15 dc) 14 dc) 11 dc) 10 dc) 8 dc) 7 dc) 6 dc) 5 dc)) zap)) (zcw (zac ((zao (by rfl)).trans (zai (fun hD=>hn (hcl 6 _ rfl (hcl 7 _ rfl (hcl 8 _ rfl (hcl 10 _ rfl (hcl 11 _ rfl (hcl 14 _ rfl (hcl 15 _ rfl hD 14 dc) 11 dc) 10 dc) 8 dc) 7 dc) 6 dc) 5 dc)) zap)) rfl))))
    ·
     intro D b hn hd hcl
     obtain ⟨b11,hd16⟩:=b
     refine zaG (zcw (zac (zai (fun hD=>hn (hcl 7 _ rfl (hcl 8 _ rfl (hcl 10 _ rfl (hcl 11 _ rfl (hcl 14 _ rfl (hcl 15 _ rfl (hcl 16 _ rfl hD 15 dc) 14 dc) 11 dc) 10 dc) 8 dc) 7 dc) 6 dc)) zap) (zcw (zac (zai (fun hD=>hn (hcl 7 _ rfl (hcl 8 _ rfl (hcl 10 _ rfl (hcl 11 _ rfl (hcl 14 _ rfl (hcl 15 _ rfl hD 14 dc) 11 dc) 10 dc) 8 dc) 7 dc) 6 dc)) zap) rfl)))) ?_
     refine zaA rfl dc (zaa (m:=5) rfl rfl (hd 5 dc)) ?_
     exact zaO (b11,hd16) 6 (by rfl) (by rfl) rfl (zmg (zcx rfl)) (zcw (zac ((zao (by rfl)).trans (zai (fun hD=>hn (hcl 7 _ rfl (hcl 8 _ rfl (hcl 10 _ rfl (hcl 11 _ rfl (hcl 14 _ rfl (hcl 15 _ rfl (hcl 16 _ rfl hD 15 dc) 14 dc) 11 dc) 10 dc) 8 dc) 7 dc) 6 dc)) zap)) (zcw (zac ((zao (by rfl)).trans (zai (fun hD=>hn (hcl 7 _ rfl (hcl 8 _ rfl (hcl 10 _ rfl (hcl 11 _ rfl (hcl 14 _ rfl (hcl 15 _ rfl hD 14 dc) 11 dc) 10 dc) 8 dc) 7 dc) 6 dc)) zap)) rfl))))
    ·
     intro D b hn hd hcl
     obtain ⟨b11,hd16⟩:=b
     refine zaG (zcw (zac (zai (fun hD=>hn (hcl 8 _ rfl (hcl 10 _ rfl (hcl 11 _ rfl (hcl 14 _ rfl (hcl 15 _ rfl (hcl 16 _ rfl hD 15 dc) 14 dc) 11 dc) 10 dc) 8 dc) 7 dc)) zap) (zcw (zac (zai (fun hD=>hn (hcl 8 _ rfl (hcl 10 _ rfl (hcl 11 _ rfl (hcl 14 _ rfl (hcl 15 _ rfl hD 14 dc) 11 dc) 10 dc) 8 dc) 7 dc)) zap) rfl)))) ?_
     refine zab zh9 rfl dc (zaa (m:=6) rfl rfl (hd 6 dc)) (show _=2 from rfl) ?_
     exact zaO (b11,hd16) 7 (by rfl) (by rfl) rfl (zmg (zcx rfl)) (zcw (zac ((zao (by rfl)).trans (zai (fun hD=>hn (hcl 8 _ rfl (hcl 10 _ rfl (hcl 11 _ rfl (hcl 14 _ rfl (hcl 15 _ rfl (hcl 16 _ rfl hD 15 dc) 14 dc) 11 dc) 10 dc) 8 dc) 7 dc)) zap)) (zcw (zac ((zao (by rfl)).trans (zai (fun hD=>hn (hcl 8 _ rfl (hcl 10 _ rfl (hcl 11 _ rfl (hcl 14 _ rfl (hcl 15 _ rfl hD 14 dc) 11 dc) 10 dc) 8 dc) 7 dc)) zap)) rfl))))
    ·
     intro D b hn hd hcl
     obtain ⟨b11,hd16⟩:=b
     refine zaG (zcw (zac (zai (fun hD=>hn (hcl 10 _ rfl (hcl 11 _ rfl (hcl 14 _ rfl (hcl 15 _ rfl (hcl 16 _ rfl hD 15 dc) 14 dc) 11 dc) 10 dc) 8 dc)) zap) (zcw (zac (zai (fun hD=>hn (hcl 10 _ rfl (hcl 11 _ rfl (hcl 14 _ rfl (hcl 15 _ rfl hD 14 dc) 11 dc) 10 dc) 8 dc)) zap) rfl)))) ?_
     refine zar (k:=1) zgE rfl dc (zaa (m:=7) rfl rfl (hd 7 dc)) rfl rfl ?_
     exact zaO (b11,hd16) 8 (by rfl) (by rfl) rfl (zmg (zcx rfl)) (zcw (zac ((zao (by rfl)).trans (zai (fun hD=>hn (hcl 10 _ rfl (hcl 11 _ rfl (hcl 14 _ rfl (hcl 15 _ rfl (hcl 16 _ rfl hD 15 dc) 14 dc) 11 dc) 10 dc) 8 dc)) zap)) (zcw (zac ((zao (by rfl)).trans (zai (fun hD=>hn (hcl 10 _ rfl (hcl 11 _ rfl (hcl 14 _ rfl (hcl 15 _ rfl hD 14 dc) 11 dc) 10 dc) 8 dc)) zap)) rfl))))
    ·
     intro D b hn hd hcl
     obtain ⟨b11,hd16⟩:=b
     refine zaG (zcw (zac (zai (fun hD=>hn (hcl 10 _ rfl (hcl 11 _ rfl (hcl 14 _ rfl (hcl 15 _ rfl (hcl 16 _ rfl hD 15 dc) 14 dc) 11 dc) 10 dc) 9 dc)) zap) (zcw (zac (zai (fun hD=>hn (hcl 10 _ rfl (hcl 11 _ rfl (hcl 14 _ rfl (hcl 15 _ rfl hD 14 dc) 11 dc) 10 dc) 9 dc)) zap) rfl)))) ?_
     refine ze4 rfl dc (za9 (by rfl) rfl) ?_
     exact zaO (b11,hd16) 9 (by rfl) (by rfl) rfl (zmg (zcx rfl)) (zcw (zac ((zao (by rfl)).trans (zai (fun hD=>hn (hcl 10 _ rfl (hcl 11 _ rfl (hcl 14 _ rfl (hcl 15 _ rfl (hcl 16 _ rfl hD 15 dc) 14 dc) 11 dc) 10 dc) 9 dc)) zap)) (zcw (zac ((zao (by rfl)).trans (zai (fun hD=>hn (hcl 10 _ rfl (hcl 11 _ rfl (hcl 14 _ rfl (hcl 15 _ rfl hD 14 dc) 11 dc) 10 dc) 9 dc)) zap)) rfl))))
    ·
     intro D b hn hd hcl
     obtain ⟨b11,hd16⟩:=b
     refine zaG (zcw (zac (zai (fun hD=>hn (hcl 11 _ rfl (hcl 14 _ rfl (hcl 15 _ rfl (hcl 16 _ rfl hD 15 dc) 14 dc) 11 dc) 10 dc)) zap) (zcw (zac (zai (fun hD=>hn (hcl 11 _ rfl (hcl 14 _ rfl (hcl 15 _ rfl hD 14 dc) 11 dc) 10 dc)) zap) rfl)))) ?_
     refine zan (k:=3) hq3 Tryd.underlying24 zde rfl dc (zaa (m:=8) rfl rfl (hd 8 dc)) (zaa (m:=9) rfl rfl (hd 9 dc)) rfl rfl ?_
     exact zaO (b11,hd16) 10 (by rfl) (by rfl) rfl (zmg (zcx rfl)) (zcw (zac ((zao (by rfl)).trans (zai (fun hD=>hn (hcl 11 _ rfl (hcl 14 _ rfl (hcl 15 _ rfl (hcl 16 _ rfl hD 15 dc) 14 dc) 11 dc) 10 dc)) zap)) (zcw (zac ((zao (by rfl)).trans (zai (fun hD=>hn (hcl 11 _ rfl (hcl 14 _ rfl (hcl 15 _ rfl hD 14 dc) 11 dc) 10 dc)) zap)) rfl))))
    ·
     intro D b hn hd hcl
     obtain ⟨b11,hd16⟩:=b
     refine zaG (zcw (zac (zai (fun hD=>hn (hcl 14 _ rfl (hcl 15 _ rfl (hcl 16 _ rfl hD 15 dc) 14 dc) 11 dc)) zap) (zcw (zac (zai (fun hD=>hn (hcl 14 _ rfl (hcl 15 _ rfl hD 14 dc) 11 dc)) zap) rfl)))) ?_
     refine zaB (i:=(((t10++[x1]).length:Int) - 1:Int).toNat) (j:=0) (k:=3) (q:=q1) zbh za6 rfl dc (zaa (m:=10) rfl rfl (hd 10 dc)) rfl (zaC hq3) rfl dc rfl ?_
     exact zaO (b11,hd16) 11 (by rfl) (by rfl) rfl (zmg (zcx rfl)) (zcw (zac ((zao (by rfl)).trans (zai (fun hD=>hn (hcl 14 _ rfl (hcl 15 _ rfl (hcl 16 _ rfl hD 15 dc) 14 dc) 11 dc)) zap)) (zcw (zac ((zao (by rfl)).trans (zai (fun hD=>hn (hcl 14 _ rfl (hcl 15 _ rfl hD 14 dc) 11 dc)) zap)) rfl))))
    ·
     intro D b hn hd hcl
     obtain ⟨b11,hd16⟩:=b
     refine zaG (zcw (zac (zai (fun hD=>hn (hcl 13 _ rfl (hcl 14 _ rfl (hcl 15 _ rfl (hcl 16 _ rfl hD 15 dc) 14 dc) 13 dc) 12 dc)) zap) (zcw (zac (zai (fun hD=>hn (hcl 13 _ rfl (hcl 14 _ rfl (hcl 15 _ rfl hD 14 dc) 13 dc) 12 dc)) zap) rfl)))) ?_
     refine zab zf0 rfl dc (za9 (by rfl) rfl) (show _=2 from rfl) ?_
     exact zaO (b11,hd16) 12 (by rfl) (by rfl) rfl (zmg (zcx rfl)) (zcw (zac ((zao (by rfl)).trans (zai (fun hD=>hn (hcl 13 _ rfl (hcl 14 _ rfl (hcl 15 _ rfl (hcl 16 _ rfl hD 15 dc) 14 dc) 13 dc) 12 dc)) zap)) (zcw (zac ((zao (by rfl)).trans (zai (fun hD=>hn (hcl 13 _ rfl (hcl 14 _ rfl (hcl 15 _ rfl hD 14 dc) 13 dc) 12 dc)) zap)) rfl))))
    ·
     intro D b hn hd hcl
     obtain ⟨b11,hd16⟩:=b
     refine zaG (zcw (zac (zai (fun hD=>hn (hcl 14 _ rfl (hcl 15 _ rfl (hcl 16 _ rfl hD 15 dc) 14 dc) 13 dc)) zap) (zcw (zac (zai (fun hD=>hn (hcl 14 _ rfl (hcl 15 _ rfl hD 14 dc) 13 dc)) zap) rfl)))) ?_
     refine zar (k:=5) zbh rfl dc (zaa (m:=12) rfl rfl (hd 12 dc)) rfl rfl ?_
     exact zaO (b11,hd16) 13 (by rfl) (by rfl) rfl (zmg (zcx rfl)) (zcw (zac ((zao (by rfl)).trans (zai (fun hD=>hn (hcl 14 _ rfl (hcl 15 _ rfl (hcl 16 _ rfl hD 15 dc) 14 dc) 13 dc)) zap)) (zcw (zac ((zao (by rfl)).trans (zai (fun hD=>hn (hcl 14 _ rfl (hcl 15 _ rfl hD 14 dc) 13 dc)) zap)) rfl))))
    ·
     intro D b hn hd hcl
     obtain ⟨b11,hd16⟩:=b
     refine zaG (zcw (zac (zai (fun hD=>hn (hcl 15 _ rfl (hcl 16 _ rfl hD 15 dc) 14 dc)) zap) (zcw (zac (zai (fun hD=>hn (hcl 15 _ rfl hD 14 dc)) zap) rfl)))) ?_
     refine zbM rfl dc (zaa (m:=11) rfl rfl (hd 11 dc)) (zaa (m:=13) rfl rfl (hd 13 dc)) (zaQ (r:=q1+x1.Columns) (IntWalk.i64_in _ hg5)) ?_
     exact zaO (b11,hd16) 14 (by rfl) (by rfl) rfl (zmg (zcx rfl)) (zcw (zac ((zao (by rfl)).trans (zai (fun hD=>hn (hcl 15 _ rfl (hcl 16 _ rfl hD 15 dc) 14 dc)) zap)) (zcw (zac ((zao (by rfl)).trans (zai (fun hD=>hn (hcl 15 _ rfl hD 14 dc)) zap)) rfl))))
    ·
     intro D b hn hd hcl
     obtain ⟨_,hd16⟩:=b
     refine zaG (zcw (zac (zai (fun hD=>hn (hcl 16 _ rfl hD 15 dc)) zap) (zcw (zac (zai hn zap) rfl)))) ?_
     refine zaS (cs:=[zI (q1+x1.Columns)]) (te:=3) (ps:=[(0,.tmp 59)]) rfl dc (evP.cons (zaa (m:=14) rfl rfl (hd 14 dc)) evP.nil) (fun _=>by kernel_rfl) (fun b11 => ?_)
     refine zcD 7 rfl rfl ?_
     exact zaO (b11,hd16) 15 (by rfl) (by rfl) rfl (ztk (zcx (zaq (fun hD=>absurd hD hn) (zaq (fun _=>rfl) rfl)))) (zcw (zac ((zao (by rfl)).trans (zai (fun hD=>hn (hcl 16 _ rfl hD 15 dc)) zap)) (zcw (zac (zaH (Or.inr rfl) rfl) rfl))))
    ·
     intro D b hn hd hcl
     obtain ⟨b11,_⟩:=b
     refine zaG (zcw (zac (zai hn zap) (zcw (zac (zaH (hd 15 dc) rfl) rfl)))) ?_
     refine za1 (k:=3) (k2:=7) (ys:=[q1+x1.Columns]) Tryd.underlying24 zqy za6 zgs rfl dc (zaa (m:=4) rfl rfl (hd 4 dc)) (zaa (m:=15) rfl rfl (hd 15 dc)) rfl rfl rfl rfl hg6 (fun v2 => ?_)
     refine zbL (k:=3) rfl (fun hd16 he2 => ?_)
     subst he2
     exact zaO (b11,hd16) 16 (by rfl) (by rfl) rfl (zmf (zcx (zaq (fun hD=>absurd hD hn) rfl))) (zcw (zac (zaH (Or.inr rfl) rfl) (zcw (zac ((zao (by rfl)).trans (zaH (hd 15 dc) rfl)) rfl))))
    intro D b hall
    obtain ⟨b11,hd16⟩:=b
    refine zaG (zcw (zac (zaH (hall 16 dc) rfl) (zcw (zac (zaH (hall 15 dc) rfl) rfl)))) (zaA rfl dc rfl (zab zh9 rfl dc rfl (show _=2 from rfl) ?_))
    refine za5 (k:=1) (l':=[.string s1,hd15.v,hd16.v,hd12.v,zI (max 1 (l1.Width - indent1)),zI (l1.Width - l1.Turn)]) zpc rfl rfl rfl rfl rfl (fun _ _=>rfl) rfl ?_
    refine zyH (zyR 1 rfl ?_)
    obtain ⟨hg7,h⟩:=zbk h
    refine zaT rfl (zaQ (r:=(((t10++[x1]).length:Int) - 1)+1) (IntWalk.i64_in _ hg7)) (zyR 1 rfl (zyN (cut (zyG (zar (k:=0) zgL rfl dc rfl rfl rfl (zyR 1 rfl ?_))))))
    obtain ⟨r2,hq4,h⟩:=zbg h
    refine zco (v:=.bool r2) (vs:=[zP b6,zI (((t10++[x1]).length:Int) - 1)]) (Rd.nil:Rd _ _ []) rfl dc rfl rfl rfl zs4 (zer (bt1:=b6) (t1:=(⟨s1,t10++[x1],t11++[q1+x1.Columns],t12,max 1 (l1.Width - indent1),l1.Width - l1.Turn⟩:Gpage_turner)) (t1_h0:=hd15) (t1_h1:=hd16) (t1_h2:=hd12) hq4) (.own (zae [1] (by kernel_rfl) rfl) (fun _ _ h=>sepL.one1.1 h) (.own (zae [2] (by kernel_rfl) rfl) (fun _ _ h=>sepL.one1.1 h) (.own (zae [3] (by kernel_rfl) rfl) (fun _ _ h=>sepL.one1.1 h) (.own (zae [4] (by kernel_rfl) rfl) (fun _ _ h=>sepL.one1.1 h) .nil)))) ?_
    refine zyN ?_
    refine zyB rfl h (fun h => ?_) (fun h => ?_)
    ·
     refine zax (zar (k:=0) zgL rfl dc rfl rfl rfl (zaA rfl dc rfl (zab zh8 rfl dc rfl (show _=3 from rfl) (zar (k:=1) zgE rfl dc rfl rfl rfl (zyR 1 rfl ?_)))))
     obtain ⟨q2,hq5,h⟩:=zbg h
     refine zan (k:=4) hq5 Tryd.underlying24 zde rfl dc rfl rfl rfl rfl (zaB (i:=(((t10++[x1]).length:Int) - 1:Int).toNat) (j:=0) (k:=4) (q:=q2) zbh za6 rfl dc rfl rfl (zaC hq5) rfl dc rfl (zyR 1 rfl (zaR ?_)))
     exact zak (t11++[q1+x1.Columns],q2,hd15,hd16) h rfl (za0 rfl) (zae [0,1,2,3,4] kr rfl)
    refine zas ?_
    exact zak (t11++[q1+x1.Columns],(((t10++[x1]).length:Int) - 1)+1,hd15,hd16) h rfl (za0 rfl) (zae [0,1,2,3,4] kr rfl)
   rintro ⟨t13,end1,hd13,hd14⟩ h
   rw [hj2] at h
   obtain ⟨hg8,h⟩:=zbk h
   refine zfU 1 ?_
   refine let vals3:(Nat×Hd)→List (Nat×Nat×Value):=fun b=>[(0,76,zP b6),(1,77,zP b6),(2,78,zP b6),(3,79,.pointer (some ⟨b6,3,none⟩)),(4,80,hd12.v),(5,81,zI end1),(6,82,.slice (some ⟨b.1,0,none⟩) 1 1),(7,83,b.2.v)]; let LL3:(Nat→Prop)→(Nat×Hd)→List Asn:=fun D b=>[cells b7 [zP b6] 121,cells b6 [.string s1,hd13.v,hd14.v,hd12.v,zI (max 1 (l1.Width - indent1)),zI (l1.Width - l1.Turn)] 163,zv2 hd13.v (t10++[x1]),zv0 hd14.v t13,eD D (zv0 hd12.v t12) [(7,zv0 b.2.v (t12++[end1]))],eD D emp [(6,cells b.1 [zI end1] 3)]]; ?_
   refine zdI (β:=Nat×Hd) 8 ((0:Nat),Hd.nil) vals3 LL3 mixed kr kr dc (fun _=>rfl) (zfk (zac zbS (zac zbS rfl))) (zat ?_ (zat ?_ (zat ?_ (zat ?_ (zat ?_ (zat ?_ (zat ?_ (zat ?_ DrawG.nil)))))))) ?_
   ·
    intro D b hn hd hcl
    obtain ⟨b12,hd17⟩:=b
    refine zaG (zsa rfl) (zar (k:=0) zgL rfl dc (za9 (by rfl) rfl) rfl rfl ?_)
    exact zaO (b12,hd17) 0 (by rfl) (by rfl) rfl (zir rfl) (zfk (zac (zao (by rfl)) (zac (zao (by rfl)) rfl)))
   ·
    intro D b hn hd hcl
    obtain ⟨b12,hd17⟩:=b
    refine zaG (zfk (zac (zai (fun hD=>hn (hcl 2 _ rfl (hcl 3 _ rfl (hcl 4 _ rfl (hcl 7 _ rfl hD 4 dc) 3 dc) 2 dc) 1 dc)) zap) rfl)) ?_
    refine zar (k:=0) zgL rfl dc (za9 (by rfl) rfl) rfl rfl ?_
    exact zaO (b12,hd17) 1 (by rfl) (by rfl) rfl (zir rfl) (zfk (zac ((zao (by rfl)).trans (zai (fun hD=>hn (hcl 2 _ rfl (hcl 3 _ rfl (hcl 4 _ rfl (hcl 7 _ rfl hD 4 dc) 3 dc) 2 dc) 1 dc)) zap)) (zac (zao (by rfl)) rfl)))
   ·
    intro D b hn hd hcl
    obtain ⟨b12,hd17⟩:=b
    refine zaG (zfk (zac (zai (fun hD=>hn (hcl 3 _ rfl (hcl 4 _ rfl (hcl 7 _ rfl hD 4 dc) 3 dc) 2 dc)) zap) rfl)) ?_
    refine zaA rfl dc (zaa (m:=1) rfl rfl (hd 1 dc)) ?_
    exact zaO (b12,hd17) 2 (by rfl) (by rfl) rfl (zir rfl) (zfk (zac ((zao (by rfl)).trans (zai (fun hD=>hn (hcl 3 _ rfl (hcl 4 _ rfl (hcl 7 _ rfl hD 4 dc) 3 dc) 2 dc)) zap)) (zac (zao (by rfl)) rfl)))
   ·
    intro D b hn hd hcl
    obtain ⟨b12,hd17⟩:=b
    refine zaG (zfk (zac (zai (fun hD=>hn (hcl 4 _ rfl (hcl 7 _ rfl hD 4 dc) 3 dc)) zap) rfl)) ?_
    refine zab zh8 rfl dc (zaa (m:=2) rfl rfl (hd 2 dc)) (show _=3 from rfl) ?_
    exact zaO (b12,hd17) 3 (by rfl) (by rfl) rfl (zir rfl) (zfk (zac ((zao (by rfl)).trans (zai (fun hD=>hn (hcl 4 _ rfl (hcl 7 _ rfl hD 4 dc) 3 dc)) zap)) (zac (zao (by rfl)) rfl)))
   ·
    intro D b hn hd hcl
    obtain ⟨b12,hd17⟩:=b
    refine zaG (zfk (zac (zai (fun hD=>hn (hcl 7 _ rfl hD 4 dc)) zap) rfl)) ?_
    refine zar (k:=1) zgE rfl dc (zaa (m:=3) rfl rfl (hd 3 dc)) rfl rfl ?_
    exact zaO (b12,hd17) 4 (by rfl) (by rfl) rfl (zir rfl) (zfk (zac ((zao (by rfl)).trans (zai (fun hD=>hn (hcl 7 _ rfl hD 4 dc)) zap)) (zac (zao (by rfl)) rfl)))
   ·
    intro D b hn hd hcl
    obtain ⟨b12,hd17⟩:=b
    refine zaG (zfk (zac (zai (fun hD=>hn (hcl 6 _ rfl (hcl 7 _ rfl hD 6 dc) 5 dc)) zap) (zac (zai (fun hD=>hn (hcl 6 _ rfl hD 5 dc)) zap) rfl))) ?_
    refine ze4 rfl dc (za9 (by rfl) rfl) ?_
    exact zaO (b12,hd17) 5 (by rfl) (by rfl) rfl (zir rfl) (zfk (zac ((zao (by rfl)).trans (zai (fun hD=>hn (hcl 6 _ rfl (hcl 7 _ rfl hD 6 dc) 5 dc)) zap)) (zac ((zao (by rfl)).trans (zai (fun hD=>hn (hcl 6 _ rfl hD 5 dc)) zap)) rfl)))
   ·
    intro D b hn hd hcl
    obtain ⟨_,hd17⟩:=b
    refine zaG (zfk (zac (zai (fun hD=>hn (hcl 7 _ rfl hD 6 dc)) zap) (zac (zai hn zap) rfl))) ?_
    refine zaS (cs:=[zI end1]) (te:=3) (ps:=[(0,.tmp 81)]) rfl dc (evP.cons (zaa (m:=5) rfl rfl (hd 5 dc)) evP.nil) (fun _=>by kernel_rfl) (fun b12 => ?_)
    refine zcD 5 rfl rfl ?_
    exact zaO (b12,hd17) 6 (by rfl) (by rfl) rfl (zsc (zaq (fun hD=>absurd hD hn) (zaq (fun _=>rfl) rfl))) (zfk (zac ((zao (by rfl)).trans (zai (fun hD=>hn (hcl 7 _ rfl hD 6 dc)) zap)) (zac (zaH (Or.inr rfl) rfl) rfl)))
   ·
    intro D b hn hd hcl
    obtain ⟨b12,_⟩:=b
    refine zaG (zfk (zac (zai hn zap) (zac (zaH (hd 6 dc) rfl) rfl))) ?_
    refine za1 (k:=4) (k2:=5) (ys:=[end1]) Tryd.underlying24 zqy za6 zgs rfl dc (zaa (m:=4) rfl rfl (hd 4 dc)) (zaa (m:=6) rfl rfl (hd 6 dc)) rfl rfl rfl rfl hg8 (fun v3 => ?_)
    refine zbL (k:=4) rfl (fun hd17 he3 => ?_)
    subst he3
    exact zaO (b12,hd17) 7 (by rfl) (by rfl) rfl (zi4 (zaq (fun hD=>absurd hD hn) rfl)) (zfk (zac (zaH (Or.inr rfl) rfl) (zac ((zao (by rfl)).trans (zaH (hd 6 dc) rfl)) rfl)))
   intro D b hall
   obtain ⟨b12,hd17⟩:=b
   refine zaG (zfk (zac (zaH (hall 7 dc) rfl) (zac (zaH (hall 6 dc) rfl) rfl))) (zaA rfl dc rfl (zab zh8 rfl dc rfl (show _=3 from rfl) ?_))
   refine za5 (k:=1) (l':=[.string s1,hd13.v,hd14.v,hd17.v,zI (max 1 (l1.Width - indent1)),zI (l1.Width - l1.Turn)]) zpc rfl rfl rfl rfl rfl (fun _ _=>rfl) rfl ?_
   refine zaR (zag ?_)
   exact zg9 (t10++[x1],t13,t12++[end1],hd13,hd14,hd17) (fun post2 e2=>by have e9:=zga hxs1 e2; subst e9; subst hag1; exact h) (zae [0,1,2,3,4] kr rfl)
  ·
   rintro dm1 ⟨t10,t11,t12,hd10,hd11,hd12⟩ hinv
   have h:dn1 t10 t11 t12=some r:=hinv [] (List.append_nil _).symm
   rw [hdn1] at h
   refine zhE (k:=13) (j:=0) rfl rfl dc ?_
   refine zag ?_
   exact zak (t10,t11,t12,b7,b6,hd10,hd11,hd12,dm1::([]:List Nat)) h rfl (za0 rfl) (zae [8,9,10,11,12,0] kr rfl)
  rintro dm1 c pre x1 post g hxs hX
  exact (show False from hX).elim
 rintro ⟨t1,t2,t3,b1,b2,hd1,hd2,hd3,ds1⟩ h
 rw [hj1] at h
 refine zyG (zar (k:=0) zgL rfl dc rfl rfl rfl (zyR 1 rfl (zyN (zaI ?_))))
 cases h
 exact zql (rs:=[.tmp 6]) ds1 (b2,hd1,hd2,hd3) (.inl rfl) (zeO (k:=5) rfl) Tryd.results53 (.cons (.tmp rfl) .nil) rfl (zae [1,2,3,4] kr rfl)
def zdb (j1:Int→(List ByteArray)→Option ((List ByteArray)×Int)) (r1:Gpage_turner) (r2:((List Int)×Int)) (ag1:(List ByteArray)→Int→Int→Option ((List ByteArray)×Int)) (out4:List ByteArray) (from3:Int) (x3:Int):Option ((List ByteArray)×Int) :=
zaw (decide ((x3:Int)<(r2.1.length:Int))) (
zal (zbF r2.1 x3) fun (q1:Int) =>
zal (zdq r1 from3 q1) fun (r3:ByteArray) =>
grd (out4.length+1≤2147483648) <|
grd (I64 (x3+1)) <|
ag1 (out4++[r3]) q1 (x3+1)
) (
j1 r2.2 out4
)
def zeF (s1:ByteArray) (indent1:Int) (l1:Gapi_Layout):Option ((List ByteArray)×Int) :=
zbl (fun (j1:Int→(List ByteArray)→Option ((List ByteArray)×Int)) =>
zal (zdX s1 indent1 l1) fun (r1:Gpage_turner) =>
zal (zdr r1) fun (r2:((List Int)×Int)) =>
zaF (fun _ _ _=>none) (zdb j1 r1 r2) zbW ([]:List ByteArray) 0 0
) (fun (cost1:Int) (out1:List ByteArray) =>
some (out1,cost1)
)
theorem ziX {s1:ByteArray} {indent1:Int} {l1:Gapi_Layout} {r:((List ByteArray)×Int)} (h:zeF s1 indent1 l1=some r):Fn Tryd.prog 30 [.string s1,zI indent1,.agg (zr0 l1).toArray] [] (fun v0:Value=>.tuple #[v0,zI r.2]) (fun v0=>[zv5 v0 r.1]):=by
 unfold zeF at h
 refine Fn.intro Tryd.func30 rfl Tryd.ntmps30 (by simp) ?_
 intro w0 K
 obtain ⟨j1,hj1,h⟩:=zbK h
 refine zaX (β:=Int×(List ByteArray)×Hd) 5 rfl (fun b=>j1 b.1 b.2.1=some r) (fun b=>[]) (fun b=>[(10,zI b.1),(11,b.2.2.v)]) (fun b=>[zv5 b.2.2.v b.2.1]) (fun cut => ?_) ?_
 ·
  refine zyG ?_
  refine zdQ rfl dc rfl (fun b1 => ?_)
  refine zyR 2 rfl (zyH (zyR 2 rfl (zba (k:=0) (cs:=(zr0 l1)) ziv rfl dc rfl rfl rfl rfl ?_)))
  obtain ⟨r1,hq1,h⟩:=zbg h
  refine zea (vs:=[.string s1,zI indent1,.agg (zr0 l1).toArray]) rfl dc rfl rfl rfl zvx (ziy (l1:=l1) hq1) Splits.nil ?_
  rintro ⟨b2,hd2,hd3,hd4⟩
  refine zd7 (L':=[cells b1 (zr0 l1) 23,cells b2 [.string r1.s,hd2.v,hd3.v,hd4.v,zI r1.first,zI r1.rest] 163,zv2 hd2.v r1.cells,zv0 hd3.v r1.wide,zv0 hd4.v r1.ends]) (zae [0,1,2,3,4] kr rfl) (zyR 1 rfl (zyH (zyR 1 rfl ?_)))
  obtain ⟨r2,hq2,h⟩:=zbg h
  refine zhc (vs:=[zP b2]) (Rd.nil:Rd _ _ []) rfl dc rfl rfl rfl zvw (zhw (bt1:=b2) (t1:=r1) (t1_h0:=hd2) (t1_h1:=hd3) (t1_h2:=hd4) hq2) Splits.nil (.own (zae [1] (by kernel_rfl) rfl) (fun _ _ h=>sepL.one1.1 h) (.own (zae [2] (by kernel_rfl) rfl) (fun _ _ h=>sepL.one1.1 h) (.own (zae [3] (by kernel_rfl) rfl) (fun _ _ h=>sepL.one1.1 h) (.own (zae [4] (by kernel_rfl) rfl) (fun _ _ h=>sepL.one1.1 h) .nil)))) ?_
  rintro v1
  refine zbL (k:=5) rfl (fun hd5 he1 => ?_)
  subst he1
  refine zyR 1 rfl (zaU rfl dc rfl rfl (zaU rfl dc rfl rfl (zyR 2 rfl (zyH (zyR 1 rfl (zyH ?_))))))
  refine zyR 1 rfl (zyN (cut (zyG (zyR 1 rfl (zbd (k:=5) rfl dc rfl rfl Tryd.underlying24 (zyR 1 rfl (zyN (zaE (zcX (enc:=zoV) (e:=9) (size:=1) ?_)))))))))
  refine zbn (β:=Nat×(List ByteArray)×Int×Int×Hd) (fun b=>zaF (fun _ _ _=>none) (zdb j1 r1 r2) b.1 b.2.1 b.2.2.1 b.2.2.2.1=some r) (fun b=>[]) (fun b=>[(8,zP b2),(10,zI r2.2),(11,b.2.2.2.2.v),(12,zI b.2.2.1),(24,hd5.v),(25,zI (r2.1.length:Int)),(26,zI b.2.2.2.1)]) (fun b=>[cells b2 [.string r1.s,hd2.v,hd3.v,hd4.v,zI r1.first,zI r1.rest] 163,zv2 hd2.v r1.cells,zv0 hd3.v r1.wide,zv0 hd4.v r1.ends,zv5 b.2.2.2.2.v b.2.1,zv0 hd5.v r2.1]) (fun b=>b.1) (zbW,([]:List ByteArray),0,0,Hd.nil) h rfl (za0 rfl) (zae [1,2,3,4,6,5] kr rfl) ?_
  rintro ⟨n1,out4,from3,x3,hd8⟩ h
  cases n1 with
  | zero=>exact zdG h
  | succ n1 =>
   obtain ⟨ag1,hag1⟩:∃ ag,ag=zaF (fun _ _ _=>none) (zdb j1 r1 r2) n1:=⟨_,rfl⟩
   have h:zdb j1 r1 r2 ag1 out4 from3 x3=some r:=by rw [hag1]; exact h
   unfold zdb at h
   refine zyG (zaT rfl zbf (zyN (zaJ ?_)))
   refine zyB rfl h (fun h => ?_) (fun h => ?_)
   ·
    refine zas (zaL (zaJ (zaE (zyG ?_))))
    obtain ⟨q1,hq3,h⟩:=zbg h
    refine zan (k:=5) hq3 Tryd.underlying24 zde rfl dc rfl rfl rfl rfl (zaB (i:=(x3:Int).toNat) (j:=0) (k:=5) (q:=q1) zbh za6 rfl dc rfl rfl (zaC hq3) rfl dc rfl (zyR 1 rfl (zyH (zyR 4 rfl ?_))))
    obtain ⟨r3,hq4,h⟩:=zbg h
    refine zco (v:=.string r3) (vs:=[zP b2,zI from3,zI q1]) (Rd.nil:Rd _ _ []) rfl dc rfl rfl rfl zvv (zhv (bt1:=b2) (t1:=r1) (t1_h0:=hd2) (t1_h1:=hd3) (t1_h2:=hd4) hq4) (.own (zae [0] (by kernel_rfl) rfl) (fun _ _ h=>sepL.one1.1 h) (.own (zae [1] (by kernel_rfl) rfl) (fun _ _ h=>sepL.one1.1 h) (.own (zae [2] (by kernel_rfl) rfl) (fun _ _ h=>sepL.one1.1 h) (.own (zae [3] (by kernel_rfl) rfl) (fun _ _ h=>sepL.one1.1 h) .nil)))) ?_
    refine zaS (cs:=[.string r3]) (te:=9) (ps:=[(0,.tmp 34)]) rfl dc rfl (fun _=>by kernel_rfl) (fun b3 => ?_)
    obtain ⟨hg1,h⟩:=zbk h
    refine za1 (k:=4) (k2:=6) (ys:=[r3]) Tryd.underlying49 zvW zgr zlV rfl dc rfl rfl rfl rfl rfl rfl hg1 (fun v2 => ?_)
    refine zbL (k:=4) rfl (fun hd9 he2 => ?_)
    subst he2
    refine zyR 1 rfl (zyN (zax (zyR 2 rfl (zaR (zag (zaL (zax ?_)))))))
    obtain ⟨hg2,h⟩:=zbk h
    refine zaT rfl (zaQ (r:=x3+1) (IntWalk.i64_in _ hg2)) (zyR 1 rfl (zaR ?_))
    subst hag1
    exact za4 (n1,out4++[r3],q1,x3+1,hd9) h (Nat.lt_succ_self _) rfl (za0 rfl) (zae [0,1,2,3,4,5] kr rfl)
   refine za2 (zam (zam (zav ?_)))
   exact zak (r2.2,out4,hd8) h rfl (za0 rfl) (zae [4] kr rfl)
 rintro ⟨cost1,out1,hd1⟩ h
 rw [hj1] at h
 refine zyG (zyR 4 rfl (zyN (zaI ?_)))
 cases h
 exact zaK (rs:=[.tmp 6,.tmp 7]) hd1.v (.inl rfl) Tryd.results30 (.cons (.tmp rfl) (.cons (.tmp rfl) .nil)) rfl (zae [0] kr rfl)
def zhy (text1:ByteArray) (indent1:Int) (l1:Gapi_Layout):Option ((List ByteArray)×Int×Int) :=
zal (zfB l1) fun (r1:Bool) =>
zaw (!r1) (
some (([]:List ByteArray),0,2)
) (
zaw (decide ((indent1:Int)<0)) (
some (([]:List ByteArray),0,2)
) (
zaw (decide ((1024:Int)<indent1)) (
some (([]:List ByteArray),0,2)
) (
zaw (decide ((1024:Int)<(text1.size:Int))) (
some (([]:List ByteArray),0,2)
) (
zal (zeF text1 indent1 l1) fun (r2:((List ByteArray)×Int)) =>
some (r2.1,r2.2,0)
)
)
)
)
theorem zmG {text1:ByteArray} {indent1:Int} {l1:Gapi_Layout} {r:((List ByteArray)×Int×Int)} (h:zhy text1 indent1 l1=some r):Fn Tryd.prog 16 [.string text1,zI indent1,.agg (zr0 l1).toArray] [] (fun v0:Value=>.tuple #[v0,zI r.2.1,zI r.2.2]) (fun v0=>[zv5 v0 r.1]):=by
 unfold zhy at h
 refine Fn.intro Tryd.func16 rfl Tryd.ntmps16 (by simp) ?_
 intro w0 K
 refine zyG ?_
 refine zdQ rfl dc rfl (fun b1 => ?_)
 refine zyR 3 rfl (zyN (zaJ (zyG (zba (k:=0) (cs:=(zr0 l1)) ziv rfl dc rfl rfl rfl rfl ?_))))
 obtain ⟨r1,hq1,h⟩:=zbg h
 refine zbq (v:=.bool r1) (vs:=[.agg (zr0 l1).toArray]) rfl dc rfl rfl rfl zul (zjL (l1:=l1) hq1) (zdU rfl dc rfl zcy (zyR 1 rfl ?_))
 refine zyS (s:=14) rfl h (fun h => ?_) (fun h => ?_)
 ·
  refine zyR 12 rfl (zyN ?_)
  refine za7 rfl (zyG (zyR 3 rfl (zyN (zaI (zau (zdw (enc:=zoV) (e:=9) (size:=1) ?_))))))
  cases h
  exact zaK (rs:=[.tmp 6,.tmp 7,.tmp 8]) (.slice none 0 0) (.inl rfl) Tryd.results16 (.cons (.tmp rfl) (.cons (.tmp rfl) (.cons (.tmp rfl) .nil))) rfl (zae [1] kr rfl)
 refine zyR 1 rfl (zaT rfl zbf (zyR 2 rfl ?_))
 refine zyS (s:=18) rfl h (fun h => ?_) (fun h => ?_)
 ·
  refine zyR 8 rfl (zyN (za7 rfl (zyG (zyR 1 rfl ?_))))
  refine zyR 2 rfl (zyN (zaI (zau (zdw (enc:=zoV) (e:=9) (size:=1) ?_))))
  cases h
  exact zaK (rs:=[.tmp 6,.tmp 7,.tmp 8]) (.slice none 0 0) (.inl rfl) Tryd.results16 (.cons (.tmp rfl) (.cons (.tmp rfl) (.cons (.tmp rfl) .nil))) rfl (zae [1] kr rfl)
 refine zyR 1 rfl (zaT rfl zcA (zyR 2 rfl ?_))
 refine zyS (s:=22) rfl h (fun h => ?_) (fun h => ?_)
 ·
  refine zyR 4 rfl (zyN (za7 rfl (zyG (zyR 3 rfl (zyN ?_)))))
  refine zaI (zau (zdw (enc:=zoV) (e:=9) (size:=1) ?_))
  cases h
  exact zaK (rs:=[.tmp 6,.tmp 7,.tmp 8]) (.slice none 0 0) (.inl rfl) Tryd.results16 (.cons (.tmp rfl) (.cons (.tmp rfl) (.cons (.tmp rfl) .nil))) rfl (zae [1] kr rfl)
 refine zyR 1 rfl (zb6 rfl dc rfl Tryd.underlying9 (zaT rfl zcA (zyR 1 rfl (zyN ?_))))
 refine zyB rfl h (fun h => ?_) (fun h => ?_)
 ·
  refine zyG (zyR 3 rfl (zyN (zaI (zau (zdw (enc:=zoV) (e:=9) (size:=1) ?_)))))
  cases h
  exact zaK (rs:=[.tmp 6,.tmp 7,.tmp 8]) (.slice none 0 0) (.inl rfl) Tryd.results16 (.cons (.tmp rfl) (.cons (.tmp rfl) (.cons (.tmp rfl) .nil))) rfl (zae [1] kr rfl)
 refine zas (zaL (zyG (zyR 2 rfl (zba (k:=0) (cs:=(zr0 l1)) ziv rfl dc rfl rfl rfl rfl ?_))))
 obtain ⟨r2,hq2,h⟩:=zbg h
 refine zea (vs:=[.string text1,zI indent1,.agg (zr0 l1).toArray]) rfl dc rfl rfl rfl zuk (ziX (l1:=l1) hq2) Splits.nil ?_
 rintro v1
 refine zyR 1 rfl (zaU rfl dc rfl rfl (zaU rfl dc rfl rfl (zyR 2 rfl (zyH (zyR 5 rfl ?_)))))
 refine zyN (zaI ?_)
 cases h
 exact zaK (rs:=[.tmp 6,.tmp 7,.tmp 8]) v1 (.inl rfl) Tryd.results16 (.cons (.tmp rfl) (.cons (.tmp rfl) (.cons (.tmp rfl) .nil))) rfl (zae [1] kr rfl)
end Go.Proofs.YtbempdelckaccaaDoor

namespace Go.Proofs.YtbempdelckaccaaDoor
open Go.RowKit Go.Lib
set_option linter.unusedVariables false
set_option linter.unusedSimpArgs false
abbrev zeb:=Gapi_Cell
def spB (s:ByteArray) (c:zeb):Bool:=if c.Span_To=c.Span_From+1 then ziA s c.Span_From==some 32 else false
def zdj (l:List zeb):Int:=(l.map (·.Columns)).sum
theorem zg6 (a b:List zeb):zdj (a++b)=zdj a+zdj b:=by unfold zdj; rw [List.map_append,List.sum_append]
theorem zk7 (c:zeb):zdj [c]=c.Columns:=by simp [zdj]
def eN (sp:zeb→Bool) (l:List zeb):Nat:=(l.reverse.dropWhile sp).length
theorem zrT (sp:zeb→Bool):eN sp []=0:=rfl
theorem zgV (sp:zeb→Bool) (l:List zeb) (x:zeb):eN sp (l++[x])=if sp x then eN sp l else l.length+1:=by
 unfold eN
 rw [List.reverse_append,List.reverse_singleton,List.singleton_append,List.dropWhile_cons]
 split
 ·rfl
 ·simp
theorem zm3 (sp:zeb→Bool) (l:List zeb):eN sp l≤l.length:=by
 unfold eN
 have:=(List.dropWhile_suffix sp (l:=l.reverse)).length_le
 rwa [List.length_reverse] at this
theorem zf9 {α:Type} {l:List α} {k:Nat} {x:α} (h:l[k]?=some x):l.take (k+1)=l.take k++[x]:=by
 rw [List.take_add_one,h]; rfl
theorem znF (sp:zeb→Bool) (C:List zeb):∀ (d k:Nat),eN sp (C.take k)≤eN sp (C.take (k+d))
 | 0,k=>Nat.le_refl _
 | d+1,k=>by
  refine Nat.le_trans (znF sp C d k) ?_
  by_cases h:k+d<C.length
  ·rw [show k+(d+1)=k+d+1 by omega,zf9 (List.getElem?_eq_getElem h),zgV]
   split
   ·exact Nat.le_refl _
   ·have:=zm3 sp (C.take (k+d)); omega
  ·rw [List.take_of_length_le (by omega),List.take_of_length_le (by omega)]; exact Nat.le_refl _
def wl (P:List zeb):List Int:=(List.range (P.length+1)).map fun k=>zdj (P.take k)
def el (sp:zeb→Bool) (P:List zeb):List Int:=(List.range (P.length+1)).map fun k=>((eN sp (P.take k):Nat):Int)
theorem zo1 (P:List zeb) (k:Nat) (h:k≤P.length):(wl P)[k]?=some (zdj (P.take k)):=by
 unfold wl; rw [List.getElem?_map,List.getElem?_range (by omega)]; rfl
theorem zp6 (sp:zeb→Bool) (P:List zeb) (k:Nat) (h:k≤P.length):(el sp P)[k]?=some ((eN sp (P.take k):Nat):Int):=by
 unfold el; rw [List.getElem?_map,List.getElem?_range (by omega)]; rfl
theorem ztA (P:List zeb):(wl P).length=P.length+1:=by unfold wl; simp
theorem zuq (sp:zeb→Bool) (P:List zeb):(el sp P).length=P.length+1:=by unfold el; simp
theorem znX {β:Type} (f:List zeb→β) (P:List zeb) (x:zeb):(List.range ((P++[x]).length+1)).map (fun k=>f ((P++[x]).take k))=(List.range (P.length+1)).map (fun k=>f (P.take k))++[f (P++[x])]:=by
 rw [show (P++[x]).length+1=(P.length+1)+1 by simp,List.range_succ,List.map_append,List.map_singleton]
 congr 1
 ·refine List.map_congr_left fun k hk => ?_
  rw [List.take_append_of_le_length (by have:=List.mem_range.1 hk; omega)]
 ·rw [List.take_of_length_le (by simp)]
theorem zsh (P:List zeb) (x:zeb):wl (P++[x])=wl P++[zdj P+x.Columns]:=by
 unfold wl; rw [znX zdj,zg6,zk7]
theorem zs7 (sp:zeb→Bool) (P:List zeb) (x:zeb):el sp (P++[x])=el sp P++[(((if sp x then eN sp P else P.length+1):Nat):Int)]:=by
 unfold el; rw [znX (fun l=>((eN sp l:Nat):Int)),zgV]
theorem Cov.mem:∀ {cs:List zeb} {a b:Int},Cov a cs b→∀ c∈cs,a≤c.Span_From∧c.Span_From<c.Span_To∧c.Span_To≤b∧0≤c.Columns∧c.Columns≤2
 | [],a,b,_,c,hc=>by cases hc
 | d::cs,a,b,h,c,hc=>by
  obtain ⟨h1,h2,h3,h4⟩:=h
  have hle:∀ (cs:List zeb) (a b:Int),Cov a cs b→a≤b:=by
   intro cs
   induction cs with
   | nil=>intro a b h; have:a=b:=h; omega
   | cons e es ih=>intro a b h; have:=ih _ _ h.2.2.2; have:=h.2.1; omega
  have:=hle _ _ _ h4
  rcases List.mem_cons.1 hc with rfl | hc
  ·exact ⟨by omega,by omega,this,h3.1,h3.2⟩
  ·have:=Cov.mem h4 c hc; omega
theorem zgg:∀ {l:List zeb},(∀ c∈l,0≤c.Columns∧c.Columns≤2)→0≤zdj l∧zdj l≤2*l.length
 | [],_=>⟨Int.le_refl _,by simp [zdj]⟩
 | c::l,h=>by
  have h1:=h c (List.mem_cons_self ..)
  have h2:=zgg (l:=l) fun d hd=>h d (List.mem_cons_of_mem _ hd)
  have e:zdj (c::l)=c.Columns+zdj l:=by simp [zdj]
  rw [e,List.length_cons]; omega
theorem zpg (t:Gpage_turner) (k:Nat) (c:zeb) (hc:t.cells[k]?=some c) (h0:0≤c.Span_From) (h1:c.Span_From<t.s.size) (hs:t.s.size≤100000):zbV t (k:Int)=some (spB t.s c):=by
 unfold zbV spB
 refine zaM (zch hc) (zbm ⟨by omega,by omega⟩ ?_)
 by_cases h:c.Span_To=c.Span_From+1
 ·rw [if_pos h]
  obtain ⟨m,hm⟩:∃ m:Nat,c.Span_From=m:=⟨c.Span_From.toNat,by omega⟩
  have hg:=zlL hm (show m<t.s.size by omega)
  refine zaz (zfV h) (zaM hg ?_)
  rw [hg]
  show some _=some _
  congr 1
 ·rw [if_neg h]; exact zay (zfW h) rfl
def ze7 (s:ByteArray) (first rest:Int):Gpage_turner:=⟨s,zaj s,wl (zaj s),el (spB s) (zaj s),first,rest⟩
theorem zpK (s:ByteArray) (hs:s.size≤100000) (ind:Int) (l:Gapi_Layout) (C:List zeb) (hC:∀ c∈C,0≤c.Span_From∧c.Span_From<(s.size:Int)∧0≤c.Columns∧c.Columns≤2) (hl:C.length≤100000) (d:List zeb→List Int→List Int→Option Gpage_turner) :
  ∀ (xs P:List zeb),C=P++xs→zeL d (zcs s ind l) xs P (wl P) (el (spB s) P)=d C (wl C) (el (spB s) C)
 | [],P,h=>by rw [List.append_nil] at h; subst h; rfl
 | x::xs,P,h=>by
  have ih:=zpK s hs ind l C hC hl d xs (P++[x]) (by rw [h]; simp)
  obtain ⟨c1,c2,c3,c4⟩:=hC x (by rw [h]; simp)
  have hPl:P.length+1+xs.length=C.length:=by rw [h]; simp; omega
  have hPs:=zgg (l:=P) fun c hc=>by have:=hC c (by rw [h]; simp [hc]); omega
  rw [zht]
  generalize zeL d (zcs s ind l) xs=ag at ih ⊢
  unfold zcs
  have e1:((P++[x]).length:Int) - 1=(P.length:Int):=by simp
  have hg1:zbF (wl P) (P.length:Int)=some (zdj P):=by
   have:=zch (zo1 P P.length (Nat.le_refl _)); rwa [List.take_length] at this
  have hg2:zbF (el (spB s) P) (P.length:Int)=some ((eN (spB s) P:Nat):Int):=by
   have:=zch (zp6 (spB s) P P.length (Nat.le_refl _)); rwa [List.take_length] at this
  have hwl:=ztA P
  have hel:=zuq (spB s) P
  refine zbE (zbm (by omega) ?_)
  rw [e1]
  refine zbm ⟨by omega,by omega⟩ (zaM hg1 (zbm ⟨by omega,by omega⟩ (zbm (by omega) (zbm ⟨by omega,by omega⟩ ?_))))
  refine zaM (zpg ⟨s,P++[x],wl P++[zdj P+x.Columns],el (spB s) P,max 1 (l.Width - ind),l.Width - l.Turn⟩ P.length x (by simp) c1 c2 hs) ?_
  rw [← ih,zsh,zs7]
  show zaw (spB s x) _ _=_
  cases hsp:spB s x with
  | true=>exact zaz rfl (zaM hg2 (zbm (by omega) rfl))
  | false=>exact zay rfl (zbm (by omega) rfl)
theorem znv (s:ByteArray) (hs:s.size≤100000) (ind:Int) (l:Gapi_Layout) (h1:I64 (l.Width - ind)) (h2:I64 (l.Width - l.Turn)):zdX s ind l=some (ze7 s (max 1 (l.Width - ind)) (l.Width - l.Turn)):=by
 unfold zdX
 refine zbE (zbm h1 (zbm h2 (zaM rfl (zaM (zuu s (by omega)) (zbE ?_)))))
 have hl:=zg7 s
 have hm:=(zep s).mem
 have:=zpK s hs ind l (zaj s) (fun c hc=>by have:=hm c hc; omega) (by omega) (fun t10 t11 t12=>some (⟨s,t10,t11,t12,max 1 (l.Width - ind),l.Width - l.Turn⟩:Gpage_turner)) (zaj s) [] rfl
 exact this
def ziN (sp:zeb→Bool) (C:List zeb) (f t:Nat):Int:=zdj (C.take (max f (eN sp (C.take t)))) - zdj (C.take f)
def zeB (a b:Int) (f:Nat):Int:=if f=0 then a else b
def ziS (sp:zeb→Bool) (C:List zeb) (k:Nat):Bool:=match C[k]? with | some c=>sp c | none=>false
def zmv (sp:zeb→Bool) (C:List zeb) (a b:Int) (f t:Nat):Bool:=!(decide (0<f)&&ziS sp C f)&&(decide (ziN sp C f t≤zeB a b f)||decide (eN sp (C.take t)≤f+1))
def zm7 (sp:zeb→Bool) (C:List zeb) (a b:Int) (f t:Nat):Int:=(if 0<zeB a b f - ziN sp C f t then (zeB a b f - ziN sp C f t)*(zeB a b f - ziN sp C f t) else 0)+(if ziS sp C (t - 1) then 0 else 1000)
theorem znr {s:ByteArray} {a b:Int} (f:Nat):zcg (ze7 s a b) (f:Int)=some (zeB a b f):=by
 unfold zcg zeB
 by_cases h:f=0
 ·rw [if_pos h]; exact zaz (zfV (by omega)) rfl
 ·rw [if_neg h]; exact zay (zfW (by omega)) rfl
theorem zlw {a b:Int} (ha:0≤a∧a≤1000000) (hb:0≤b∧b≤1000000) (f:Nat):0≤zeB a b f∧zeB a b f≤1000000:=by unfold zeB; split <;> omega
section
variable {s:ByteArray} {a b:Int} (hs:s.size≤100000) (ha:0≤a∧a≤1000000) (hb:0≤b∧b≤1000000)
include hs
theorem zhl:(zaj s).length≤100000:=Nat.le_trans (zg7 s) hs
theorem zol (k:Nat):0≤zdj ((zaj s).take k)∧zdj ((zaj s).take k)≤200000:=by
 have hm:=(zep s).mem
 have hl:=zhl hs
 have:=zgg (l:=(zaj s).take k) fun c hc=>by have:=hm c (List.mem_of_mem_take hc); omega
 have hk:((zaj s).take k).length≤(zaj s).length:=by rw [List.length_take]; omega
 omega
theorem ziM (f t:Nat) (hf:f≤t) (ht:t≤(zaj s).length):zbU (ze7 s a b) (f:Int) (t:Int)=some (ziN (spB s) (zaj s) f t):=by
 unfold zbU
 have he:=zm3 (spB s) ((zaj s).take t)
 rw [List.length_take] at he
 have h1:=zol hs (max f (eN (spB s) ((zaj s).take t)))
 have h2:=zol hs f
 refine zaM (zch (zp6 (spB s) (zaj s) t ht)) (zaM (zdm (n:=max f (eN (spB s) ((zaj s).take t))) (by omega) (zo1 _ _ (by omega))) (zaM (zch (zo1 _ f (by omega))) (zbm ⟨by omega,by omega⟩ rfl)))
theorem zn0 (k:Nat) (hk:k<(zaj s).length):zbV (ze7 s a b) (k:Int)=some (ziS (spB s) (zaj s) k):=by
 have hx:(zaj s)[k]?=some (zaj s)[k]:=List.getElem?_eq_getElem hk
 have:=(zep s).mem _ (List.mem_of_getElem? hx)
 unfold ziS
 rw [hx]
 exact zpg (ze7 s a b) k _ hx (by omega) (by show _<(s.size:Int); omega) hs
theorem ztW (f t:Nat) (hf:f<t) (ht:t≤(zaj s).length):zdK (ze7 s a b) (f:Int) (t:Int)=some (zmv (spB s) (zaj s) a b f t):=by
 unfold zdK zmv
 have hle:=zhl hs
 have tail:(zal (zbU (ze7 s a b) (f:Int) (t:Int)) fun (r2:Int)=>zal (zcg (ze7 s a b) (f:Int)) fun (r3:Int)=>zaw (decide ((r2:Int)≤r3)) (some true) (zal (zbF (ze7 s a b).ends (t:Int)) fun (q1:Int)=>grd (I64 ((f:Int)+1))<|some (decide ((q1:Int)≤((f:Int)+1))))) =
   some (decide (ziN (spB s) (zaj s) f t≤zeB a b f)||decide (eN (spB s) ((zaj s).take t)≤f+1)):=by
  refine zaM (ziM hs f t (by omega) ht) (zaM (znr f) ?_)
  by_cases h:ziN (spB s) (zaj s) f t≤zeB a b f
  ·rw [decide_eq_true h]; exact zaz rfl rfl
  ·rw [decide_eq_false h]
   refine zay rfl (zaM (zch (zp6 (spB s) (zaj s) t ht)) (zbm ⟨by omega,by omega⟩ ?_))
   rw [Bool.false_or]
   congr 1
   by_cases h2:eN (spB s) ((zaj s).take t)≤f+1
   ·rw [decide_eq_true h2,decide_eq_true (by omega)]
   ·rw [decide_eq_false h2,decide_eq_false (by omega)]
 refine zbE ?_
 by_cases h0:0<f
 ·rw [decide_eq_true h0]
  refine zaz (decide_eq_true (by omega)) (zaM (zn0 hs f (by omega)) ?_)
  cases ziS (spB s) (zaj s) f with
  | true=>exact zaz rfl rfl
  | false=>exact zay rfl tail
 ·rw [decide_eq_false h0]
  exact zay (decide_eq_false (by omega)) tail
theorem zl4 (f t:Nat) : -200000≤ziN (spB s) (zaj s) f t∧ziN (spB s) (zaj s) f t≤200000:=by
 have h1:=zol hs (max f (eN (spB s) ((zaj s).take t)))
 have h2:=zol hs f
 unfold ziN; omega
include ha hb
theorem zfr (f t:Nat):0≤zm7 (spB s) (zaj s) a b f t∧zm7 (spB s) (zaj s) a b f t≤2000000000000:=by
 have h1:=zlw ha hb f
 have h2:=zl4 hs f t
 have hz:zeB a b f - ziN (spB s) (zaj s) f t≤1200000:=by omega
 have hq:(if ziS (spB s) (zaj s) (t - 1) then (0:Int) else 1000)≤1000∧0≤(if ziS (spB s) (zaj s) (t - 1) then (0:Int) else 1000):=by split <;> omega
 unfold zm7
 generalize zeB a b f - ziN (spB s) (zaj s) f t=z at *
 by_cases h:0<z
 ·rw [if_pos h]
  have g1:0≤z*z:=Int.mul_nonneg (by omega) (by omega)
  have g2:z*z≤1200000*1200000:=Int.mul_le_mul hz hz (by omega) (by omega)
  omega
 ·rw [if_neg h]; omega
theorem zs8 (f t:Nat) (hf:f<t) (ht:t≤(zaj s).length):zds (ze7 s a b) (f:Int) (t:Int)=some (zm7 (spB s) (zaj s) a b f t):=by
 have h1:=zlw ha hb f
 have h2:=zl4 hs f t
 have h3:=zfr hs ha hb f t
 have hle:=zhl hs
 unfold zds
 refine zbE (zaM (znr f) (zaM (ziM hs f t (by omega) ht) (zbm ⟨by omega,by omega⟩ ?_)))
 have tail:∀ n:Int,0≤n→n≤2000000000000→zbl (fun (j2:Int→Option Int)=>grd (I64 ((t:Int) - 1))<|zal (zbV (ze7 s a b) ((t:Int) - 1)) fun (r3:Bool)=>zaw (!r3) (grd (I64 (n+1000))<|j2 (n+1000)) (j2 n)) (fun (n2:Int)=>some n2)=some (n+(if ziS (spB s) (zaj s) (t - 1) then 0 else 1000)):=by
  intro n hn1 hn2
  have hsp:=zn0 (a:=a) (b:=b) hs (t - 1) (by omega)
  rw [show (((t - 1:Nat)):Int)=(t:Int) - 1 by omega] at hsp
  refine zbE (zbm ⟨by omega,by omega⟩ (zaM hsp ?_))
  cases ziS (spB s) (zaj s) (t - 1) with
  | true=>exact zay rfl (congrArg some (Int.add_zero n).symm)
  | false=>exact zaz rfl (zbm ⟨by omega,by omega⟩ rfl)
 unfold zm7 at h3 ⊢
 have hq:(if ziS (spB s) (zaj s) (t - 1) then (0:Int) else 1000)≤1000∧0≤(if ziS (spB s) (zaj s) (t - 1) then (0:Int) else 1000):=by split <;> omega
 by_cases h:0<zeB a b f - ziN (spB s) (zaj s) f t
 ·rw [if_pos h] at h3 ⊢
  have hm:0≤(zeB a b f - ziN (spB s) (zaj s) f t)*(zeB a b f - ziN (spB s) (zaj s) f t):=Int.mul_nonneg (by omega) (by omega)
  refine zaz (decide_eq_true h) (zbm ⟨by omega,by omega⟩ (tail _ hm (by omega)))
 ·rw [if_neg h]
  exact zay (decide_eq_false h) (tail 0 (by omega) (by omega))
end
end Go.Proofs.YtbempdelckaccaaDoor

namespace Go.Proofs.YtbempdelckaccaaDoor
open Go.RowKit Go.Lib
set_option linter.unusedVariables false
set_option linter.unusedSimpArgs false
abbrev Bst:=Gpage_best
def b0:Bst:=⟨0,0,0⟩
def bm:Bst:=⟨0,-1,0⟩
section
variable (R:Nat→Nat→Bool) (K:Nat→Nat→Int) (n:Nat)
def zft (T:Nat→Bst) (f t:Nat):Option Bst :=
 if R f t then (if t<n then (if (T t).rows<0 then none else some ⟨K f t+(T t).cost,(T t).rows+1,(t:Int)⟩) else some ⟨0,1,(t:Int)⟩) else none
def znk (x:Bst):Option Bst→Bst
 | none=>x
 | some y=>if x.rows<0∨y.cost<x.cost∨(y.cost=x.cost∧y.rows≤x.rows) then y else x
def zem (T:Nat→Bst) (f:Nat):Nat→Nat→Bst→Bst
 | 0,_,x=>x
 | d+1,t,x=>zem T f d (t+1) (znk x (zft R K n T f t))
def Bf:Nat→Nat→Bst
 | 0,_=>b0
 | k+1,f=>if f+(k+1)=n then zem R K n (Bf k) f (n - f) (f+1) bm else Bf k f
end
section
variable {R:Nat→Nat→Bool} {K:Nat→Nat→Int} {n:Nat}
theorem ziB {T:Nat→Bst} {f:Nat}:∀ (d t:Nat) (x:Bst),(∀ t',t≤t'→t'<t+d→zft R K n T f t'=none)→zem R K n T f d t x=x
 | 0,t,x,_=>rfl
 | d+1,t,x,h=>by
  unfold zem
  rw [h t (Nat.le_refl _) (by omega)]
  exact ziB d (t+1) x fun t' h1 h2=>h t' (by omega) (by omega)
theorem zf7 (x y:Bst):znk x (some y)=if x.rows<0∨y.cost<x.cost∨(y.cost=x.cost∧y.rows≤x.rows) then y else x:=rfl
theorem zsi (x:Bst) (c:Option Bst):znk x c=x∨c=some (znk x c):=by
 cases c with
 | none=>exact .inl rfl
 | some y =>
  rw [zf7]
  split
  ·exact .inr rfl
  ·exact .inl rfl
theorem zjW {T:Nat→Bst} {f:Nat}:∀ (d t:Nat) (x:Bst),zem R K n T f d t x=x∨∃ t',t≤t'∧t'<t+d∧zft R K n T f t'=some (zem R K n T f d t x)
 | 0,t,x=>.inl rfl
 | d+1,t,x=>by
  unfold zem
  rcases zjW (T:=T) (f:=f) d (t+1) (znk x (zft R K n T f t)) with h | ⟨t',h1,h2,h3⟩
  ·rw [h]
   rcases zsi x (zft R K n T f t) with h' | h'
   ·exact .inl h'
   ·exact .inr ⟨t,Nat.le_refl _,by omega,h'⟩
  ·exact .inr ⟨t',by omega,by omega,h3⟩
def le1 (x y:Bst):Prop:=0≤x.rows∧x.cost≤y.cost
theorem zsj {x y:Bst} (h:0≤x.rows) {c:Option Bst} (hc:∀ y,c=some y→0≤y.rows):le1 (znk x c) x:=by
 cases c with
 | none=>exact ⟨h,Int.le_refl _⟩
 | some y =>
  have hy:=hc y rfl
  rw [zf7]
  split
  ·exact ⟨hy,by omega⟩
  ·exact ⟨h,Int.le_refl _⟩
theorem zqF {x y:Bst} (hy:0≤y.rows):le1 (znk x (some y)) y:=by
 rw [zf7]
 split
 ·exact ⟨hy,Int.le_refl _⟩
 ·exact ⟨by omega,by omega⟩
theorem zlM {T:Nat→Bst} {f:Nat} (hT:∀ t y,zft R K n T f t=some y→0≤y.rows):∀ (d t:Nat) (x:Bst),(0≤x.rows→le1 (zem R K n T f d t x) x)∧∀ t' y,t≤t'→t'<t+d→zft R K n T f t'=some y→le1 (zem R K n T f d t x) y
 | 0,t,x=>⟨fun h=>⟨h,Int.le_refl _⟩,fun t' y h1 h2=>by omega⟩
 | d+1,t,x=>by
  have ih:=zlM hT d (t+1) (znk x (zft R K n T f t))
  unfold zem
  refine ⟨fun h => ?_,fun t' y h1 h2 hc => ?_⟩
  ·have h1:=zsj (y:=x) h (hT t)
   have h2:=ih.1 h1.1
   exact ⟨h2.1,Int.le_trans h2.2 h1.2⟩
  ·by_cases e:t'=t
   ·subst e
    have hy:=hT t' y hc
    have h1:le1 (znk x (zft R K n T f t')) y:=by rw [hc]; exact zqF hy
    have h2:=ih.1 h1.1
    exact ⟨h2.1,Int.le_trans h2.2 h1.2⟩
   ·exact ih.2 t' y (by omega) (by omega) hc
theorem zff (k f:Nat):Bf R K n (k+1) f=if f+(k+1)=n then zem R K n (Bf R K n k) f (n - f) (f+1) bm else Bf R K n k f:=rfl
theorem zrt:∀ (k f:Nat),f+k<n→Bf R K n k f=b0
 | 0,f,_=>rfl
 | k+1,f,h=>by rw [zff,if_neg (by omega)]; exact zrt k f (by omega)
theorem zmd:∀ (k j f:Nat),n≤f+k→Bf R K n (k+j) f=Bf R K n k f
 | k,0,f,_=>rfl
 | k,j+1,f,h=>by
  rw [show k+(j+1)=(k+j)+1 by omega,zff,if_neg (by omega)]
  exact zmd k j f h
def BB (R:Nat→Nat→Bool) (K:Nat→Nat→Int) (n:Nat):Nat→Bst:=Bf R K n n
theorem zoP {T T':Nat→Bst} {f t:Nat} (h:T t=T' t):zft R K n T f t=zft R K n T' f t:=by unfold zft; rw [h]
theorem zjX {T T':Nat→Bst} {f:Nat}:∀ (d t:Nat) (x:Bst),(∀ t',t≤t'→t'<t+d→T t'=T' t')→zem R K n T f d t x=zem R K n T' f d t x
 | 0,t,x,_=>rfl
 | d+1,t,x,h=>by
  unfold zem
  rw [zoP (h t (Nat.le_refl _) (by omega))]
  exact zjX d (t+1) _ fun t' h1 h2=>h t' (by omega) (by omega)
theorem zwu:BB R K n n=b0:=by
 unfold BB
 cases n with
 | zero=>rfl
 | succ m=>rw [zff,if_neg (by omega)]; have:=zmd (R:=R) (K:=K) (n:=m+1) 0 m (m+1) (by omega); rw [Nat.zero_add] at this; exact this
theorem zuC {f:Nat} (h:f<n):BB R K n f=zem R K n (BB R K n) f (n - f) (f+1) bm:=by
 have h1:Bf R K n n f=Bf R K n (n - f) f:=by
  have:=zmd (R:=R) (K:=K) (n:=n) (n - f) f f (by omega)
  rwa [show n - f+f=n by omega] at this
 unfold BB
 rw [h1]
 obtain ⟨k,hk⟩:∃ k,n - f=k+1:=⟨n - f - 1,by omega⟩
 rw [hk]
 rw [zff,if_pos (by omega),hk]
 refine zjX _ _ _ fun t' h1 h2 => ?_
 have:=zmd (R:=R) (K:=K) (n:=n) k (n - k) t' (by omega)
 rw [show k+(n - k)=n by omega] at this
 exact this.symm
def okB (k:Nat) (x:Bst):Prop:=0≤x.cost∧x.cost≤2000000000000*k∧-1≤x.rows∧x.rows≤k
theorem zgX {T:Nat→Bst} {f t k:Nat} {y:Bst} (hK:∀ f t,0≤K f t∧K f t≤2000000000000) (hT:∀ t,okB k (T t)) (h:zft R K n T f t=some y):okB (k+1) y∧0≤y.rows:=by
 unfold zft at h
 have h1:=hK f t
 obtain ⟨t1,t2,t3,t4⟩:=hT t
 split at h
 ·split at h
  ·split at h
   ·cases h
   ·cases h
    refine ⟨⟨?_,?_,?_,?_⟩,?_⟩ <;> (try simp only) <;> (try push_cast) <;> (try omega)
  ·cases h
   refine ⟨⟨?_,?_,?_,?_⟩,?_⟩ <;> (try simp only) <;> (try push_cast) <;> (try omega)
 ·cases h
theorem zpH (k:Nat):okB k bm:=⟨Int.le_refl _,by show (0:Int)≤_; omega,Int.le_refl _,by show (-1:Int)≤_; omega⟩
theorem zq0 {k j:Nat} {x:Bst} (h:okB k x) (hj:k≤j):okB j x:=by obtain ⟨h1,h2,h3,h4⟩:=h; exact ⟨h1,by omega,h3,by omega⟩
theorem zra {T:Nat→Bst} {f k:Nat} (hK:∀ f t,0≤K f t∧K f t≤2000000000000) (hT:∀ t,okB k (T t)) (d t:Nat) {x:Bst} (hx:okB (k+1) x):okB (k+1) (zem R K n T f d t x):=by
 rcases zjW (R:=R) (K:=K) (n:=n) (T:=T) (f:=f) d t x with h | ⟨t',_,_,h⟩
 ·rw [h]; exact hx
 ·exact (zgX hK hT h).1
theorem zkJ (hK:∀ f t,0≤K f t∧K f t≤2000000000000):∀ (k f:Nat),okB k (Bf R K n k f)
 | 0,f=>by show okB 0 b0; unfold okB b0; simp
 | k+1,f=>by
  rw [zff]
  split
  ·exact zra hK (zkJ hK k) _ _ (zpH _)
  ·exact zq0 (zkJ hK k f) (by omega)
theorem ztj (hK:∀ f t,0≤K f t∧K f t≤2000000000000) {f t:Nat} {y:Bst} (h:zft R K n (BB R K n) f t=some y):0≤y.rows:=(zgX hK (zkJ hK n) h).2
theorem zuB (hK:∀ f t,0≤K f t∧K f t≤2000000000000) {f:Nat} (hf:f<n) (hr:0≤(BB R K n f).rows):∃ t:Nat,(BB R K n f).to_=(t:Int)∧f<t∧t≤n∧R f t=true∧(t<n→0≤(BB R K n t).rows∧(BB R K n f).cost=K f t+(BB R K n t).cost)∧(t=n→(BB R K n f).cost=0):=by
 have he:=zuC (R:=R) (K:=K) hf
 rcases zjW (R:=R) (K:=K) (n:=n) (T:=BB R K n) (f:=f) (n - f) (f+1) bm with h | ⟨t,h1,h2,h3⟩
 ·rw [← he] at h; rw [h] at hr; exact absurd hr (by decide)
 ·rw [← he] at h3
  generalize BB R K n f=x at h3 hr ⊢
  refine ⟨t,?_⟩
  unfold zft at h3
  by_cases hR:R f t=true
  ·rw [if_pos hR] at h3
   by_cases ht:t<n
   ·rw [if_pos ht] at h3
    by_cases hn:(BB R K n t).rows<0
    ·rw [if_pos hn] at h3; cases h3
    ·rw [if_neg hn] at h3
     cases h3
     exact ⟨rfl,by omega,by omega,hR,fun _=>⟨by omega,rfl⟩,fun h=>by omega⟩
   ·rw [if_neg ht] at h3
    cases h3
    exact ⟨rfl,by omega,by omega,hR,fun h=>absurd h ht,fun _=>rfl⟩
  ·rw [if_neg hR] at h3; cases h3
theorem zr9 (hK:∀ f t,0≤K f t∧K f t≤2000000000000) {f t:Nat} (hf:f<t) (ht:t≤n) (hR:R f t=true):(t=n→0≤(BB R K n f).rows∧(BB R K n f).cost≤0)∧(t<n→0≤(BB R K n t).rows→0≤(BB R K n f).rows∧(BB R K n f).cost≤K f t+(BB R K n t).cost):=by
 have he:=zuC (R:=R) (K:=K) (show f<n by omega)
 have hl:=(zlM (R:=R) (K:=K) (n:=n) (T:=BB R K n) (f:=f) (fun t y h=>ztj hK h) (n - f) (f+1) bm).2
 rw [← he] at hl
 refine ⟨fun e => ?_,fun h hr => ?_⟩
 ·have hc:zft R K n (BB R K n) f t=some ⟨0,1,(t:Int)⟩:=by unfold zft; rw [if_pos hR,if_neg (by omega)]
  exact hl t _ (by omega) (by omega) hc
 ·have hc:zft R K n (BB R K n) f t=some ⟨K f t+(BB R K n t).cost,(BB R K n t).rows+1,(t:Int)⟩:=by unfold zft; rw [if_pos hR,if_pos h,if_neg (by omega)]
  exact hl t _ (by omega) (by omega) hc
end
theorem zub {R T:Type} {t:T→Option R} {k:T} {x:Option R} (Q:T→Prop) (hk:Q k) (h:∀ j,Q j→t j=x):zbl t k=x:=h k hk
section
variable {s:ByteArray} {a b:Int} (hs:s.size≤100000) (ha:0≤a∧a≤1000000) (hb:0≤b∧b≤1000000)
abbrev Rs (s:ByteArray) (a b:Int):Nat→Nat→Bool:=zmv (spB s) (zaj s) a b
abbrev Ks (s:ByteArray) (a b:Int):Nat→Nat→Int:=zm7 (spB s) (zaj s) a b
def zeR (T:Nat→Bst) (n:Nat):List Bst:=(List.range (n+1)).map T
theorem zej (T:Nat→Bst) (n k:Nat) (h:k≤n):(zeR T n)[k]?=some (T k):=by unfold zeR; rw [List.getElem?_map,List.getElem?_range (by omega)]; rfl
theorem zfY (T:Nat→Bst) (n:Nat):(zeR T n).length=n+1:=by unfold zeR; simp
theorem zqc (sp:zeb→Bool) (C:List zeb) (hC:∀ c∈C,0≤c.Columns∧c.Columns≤2) (f t d:Nat):ziN sp C f t≤ziN sp C f (t+d):=by
 have he:=znF sp C d t
 unfold ziN
 have key:∀ i j:Nat,i≤j→zdj (C.take i)≤zdj (C.take j):=by
  intro i j h
  have:C.take j=C.take i++(C.take j).drop i:=by
   have:=(List.take_append_drop i (C.take j)).symm
   rwa [List.take_take,show min i j=i by omega] at this
  rw [this,zg6]
  have:=zgg (l:=(C.take j).drop i) fun c hc=>hC c (List.mem_of_mem_take (List.mem_of_mem_drop hc))
  omega
 have:=key (max f (eN sp (C.take t))) (max f (eN sp (C.take (t+d)))) (by omega)
 omega
theorem zsx (sp:zeb→Bool) (C:List zeb) (hC:∀ c∈C,0≤c.Columns∧c.Columns≤2) {f t:Nat} (h:zmv sp C a b f t=false) (h2:zeB a b f<ziN sp C f t) (d:Nat):zmv sp C a b f (t+d)=false:=by
 have hm:=zqc sp C hC f t d
 have he:=znF sp C d t
 unfold zmv at h ⊢
 cases h0:(decide (0<f)&&ziS sp C f) with
 | true=>rfl
 | false =>
  rw [h0] at h
  simp only [Bool.not_false,Bool.true_and,Bool.or_eq_false_iff,decide_eq_false_iff_not] at h ⊢
  omega
theorem zqM {α:Type} {l:List α} {i:Nat} {x:α} (h:l[i]?=some x):l.set i x=l:=by
 apply List.ext_getElem?
 intro j
 by_cases e:i=j
 ·subst e; rw [List.getElem?_set_self (List.getElem?_eq_some_iff.1 h).1,h]
 ·rw [List.getElem?_set_ne e]
include hs ha hb
theorem zsv (k f:Nat) (hf:f<(zaj s).length) (hk:k≤100000) (j2:List Bst→Option ((List Int)×Int)) :
  ∀ (d t m:Nat) (x:Bst),f<t→t+d=(zaj s).length+1→d<m→okB (k+1) x→zaF (fun _ _=>none) (zbN (ze7 s a b) (f:Int) j2) m ((zeR (Bf (Rs s a b) (Ks s a b) (zaj s).length k) (zaj s).length).set f x) (t:Int) =
   j2 ((zeR (Bf (Rs s a b) (Ks s a b) (zaj s).length k) (zaj s).length).set f (zem (Rs s a b) (Ks s a b) (zaj s).length (Bf (Rs s a b) (Ks s a b) (zaj s).length k) f d t x)):=by
 have hle:=zhl hs
 have hK:=zfr hs ha hb
 have hcol:∀ c∈zaj s,0≤c.Columns∧c.Columns≤2:=fun c hc=>by have:=(zep s).mem c hc; omega
 have hok:=zkJ (R:=Rs s a b) (K:=Ks s a b) (n:=(zaj s).length) hK k
 intro d
 induction d with
 | zero =>
  intro t m x hft htd hm hx
  obtain ⟨m,rfl⟩:∃ q,m=q+1:=⟨m - 1,by omega⟩
  rw [zcv]
  generalize zaF (fun _ _=>none) (zbN (ze7 s a b) (f:Int) j2) m=ag
  unfold zbN
  exact zay (decide_eq_false (by show ¬ ((t:Int)≤((zaj s).length:Int)); omega)) rfl
 | succ d ih =>
  intro t m x hft htd hm hx
  obtain ⟨m,rfl⟩:∃ q,m=q+1:=⟨m - 1,by omega⟩
  have ih':=fun y hy=>ih (t+1) m y (by omega) (by omega) (by omega) hy
  rw [zcv]
  generalize zaF (fun _ _=>none) (zbN (ze7 s a b) (f:Int) j2) m=ag at ih' ⊢
  have hn1:((t+1:Nat):Int)=(t:Int)+1:=by omega
  rw [hn1] at ih'
  unfold zbN
  have htl:=zfY (Bf (Rs s a b) (Ks s a b) (zaj s).length k) (zaj s).length
  have hgt:∀ y:Bst,zbF ((zeR (Bf (Rs s a b) (Ks s a b) (zaj s).length k) (zaj s).length).set f y) (t:Int)=some (Bf (Rs s a b) (Ks s a b) (zaj s).length k t):=fun y=>zch (by rw [List.getElem?_set_ne (by omega)]; exact zej _ _ _ (by omega))
  have hgf:∀ y:Bst,zbF ((zeR (Bf (Rs s a b) (Ks s a b) (zaj s).length k) (zaj s).length).set f y) (f:Int)=some y:=fun y=>zch (by rw [List.getElem?_set_self (by omega)])
  have hnext:∀ y,okB (k+1) y→(grd (I64 ((t:Int)+1))<|ag ((zeR (Bf (Rs s a b) (Ks s a b) (zaj s).length k) (zaj s).length).set f y) ((t:Int)+1))=j2 ((zeR (Bf (Rs s a b) (Ks s a b) (zaj s).length k) (zaj s).length).set f (zem (Rs s a b) (Ks s a b) (zaj s).length (Bf (Rs s a b) (Ks s a b) (zaj s).length k) f d (t+1) y)):=fun y hy=>zbm ⟨by omega,by omega⟩ (ih' y hy)
  refine zaz (decide_eq_true (by show (t:Int)≤((zaj s).length:Int); omega)) (zbE (zaM (ztW hs f t hft (by omega)) ?_))
  unfold zem
  cases hR:zmv (spB s) (zaj s) a b f t with
  | false =>
   have hc:zft (Rs s a b) (Ks s a b) (zaj s).length (Bf (Rs s a b) (Ks s a b) (zaj s).length k) f t=none:=by unfold zft; rw [if_neg (by show ¬ (zmv (spB s) (zaj s) a b f t=true); rw [hR]; decide)]
   rw [hc]
   refine zaz rfl (zaM (ziM hs f t (by omega) (by omega)) (zaM (znr f) ?_))
   by_cases hw:zeB a b f<ziN (spB s) (zaj s) f t
   ·refine zaz (decide_eq_true hw) ?_
    rw [ziB d (t+1) (znk x none) (fun t' h1 h2=>by
     have:=zsx (a:=a) (b:=b) (spB s) (zaj s) hcol hR hw (t' - t)
     rw [show t+(t' - t)=t' by omega] at this
     unfold zft; rw [if_neg (by show ¬ (zmv (spB s) (zaj s) a b f t'=true); rw [this]; decide)])]
    rfl
   ·exact zay (decide_eq_false hw) (hnext x hx)
  | true =>
   refine zay rfl (zub (fun j4=>∀ y:Bst,okB (k+1) y→y.to_=(t:Int)→j4 y.cost y.rows=j2 ((zeR (Bf (Rs s a b) (Ks s a b) (zaj s).length k) (zaj s).length).set f (zem (Rs s a b) (Ks s a b) (zaj s).length (Bf (Rs s a b) (Ks s a b) (zaj s).length k) f d (t+1) (znk x (some y))))) ?_ ?_)
   ·intro y hy hto
    have ey:(⟨y.cost,y.rows,(t:Int)⟩:Gpage_best)=y:=by rw [← hto]
    have hput:(grd (I64 ((t:Int)+1))<|ag (((zeR (Bf (Rs s a b) (Ks s a b) (zaj s).length k) (zaj s).length).set f x).set (f:Int).toNat (⟨y.cost,y.rows,(t:Int)⟩:Gpage_best)) ((t:Int)+1))=j2 ((zeR (Bf (Rs s a b) (Ks s a b) (zaj s).length k) (zaj s).length).set f (zem (Rs s a b) (Ks s a b) (zaj s).length (Bf (Rs s a b) (Ks s a b) (zaj s).length k) f d (t+1) y)):=by
     rw [ey,Int.toNat_natCast,List.set_set]; exact hnext y hy
    have hkeep:=hnext x hx
    refine zaM (hgf x) ?_
    rw [zf7]
    by_cases h1:x.rows<0
    ·rw [if_pos (.inl h1)]; exact zaz (decide_eq_true h1) (zaM (hgf x) hput)
    refine zay (decide_eq_false h1) ?_
    by_cases h2:y.cost<x.cost
    ·rw [if_pos (.inr (.inl h2))]; exact zaz (decide_eq_true h2) (zaM (hgf x) hput)
    refine zay (decide_eq_false h2) ?_
    by_cases h3:y.cost=x.cost
    ·refine zaz (zfV h3) ?_
     by_cases h4:y.rows≤x.rows
     ·rw [if_pos (.inr (.inr ⟨h3,h4⟩))]; exact zaz (decide_eq_true h4) (zaM (hgf x) hput)
     ·rw [if_neg (by omega)]; exact zay (decide_eq_false h4) hkeep
    ·rw [if_neg (by omega)]; exact zay (zfW h3) hkeep
   intro j4 held
   by_cases ht:t<(zaj s).length
   ·refine zaz (decide_eq_true (by show (t:Int)<((zaj s).length:Int); omega)) (zaM (hgt x) ?_)
    obtain ⟨o1,o2,o3,o4⟩:=hok t
    have hk2:=hK f t
    by_cases hn:(Bf (Rs s a b) (Ks s a b) (zaj s).length k t).rows<0
    ·have hc:zft (Rs s a b) (Ks s a b) (zaj s).length (Bf (Rs s a b) (Ks s a b) (zaj s).length k) f t=none:=by unfold zft; rw [if_pos hR,if_pos ht,if_pos hn]
     rw [hc]
     exact zaz (decide_eq_true hn) (hnext x hx)
    ·have hc:zft (Rs s a b) (Ks s a b) (zaj s).length (Bf (Rs s a b) (Ks s a b) (zaj s).length k) f t=some ⟨Ks s a b f t+(Bf (Rs s a b) (Ks s a b) (zaj s).length k t).cost,(Bf (Rs s a b) (Ks s a b) (zaj s).length k t).rows+1,(t:Int)⟩:=by unfold zft; rw [if_pos hR,if_pos ht,if_neg hn]
     have hyok:=(zgX hK hok hc).1
     rw [hc]
     refine zay (decide_eq_false hn) (zaM (zs8 hs ha hb f t hft (by omega)) (zaM (hgt x) (zbm ⟨by omega,by omega⟩ (zbm ⟨by omega,by omega⟩ ?_))))
     exact held _ hyok rfl
   ·have hc:zft (Rs s a b) (Ks s a b) (zaj s).length (Bf (Rs s a b) (Ks s a b) (zaj s).length k) f t=some ⟨0,1,(t:Int)⟩:=by unfold zft; rw [if_pos hR,if_neg ht]
    have hyok:=(zgX hK hok hc).1
    rw [hc]
    refine zay (decide_eq_false (by show ¬ ((t:Int)<((zaj s).length:Int)); omega)) ?_
    exact held _ hyok rfl
end
end Go.Proofs.YtbempdelckaccaaDoor

namespace Go.Proofs.YtbempdelckaccaaDoor
open Go.RowKit Go.Lib
set_option linter.unusedVariables false
set_option linter.unusedSimpArgs false
theorem zpJ (sp:zeb→Bool) (C:List zeb):∀ (d f:Nat),f+d=C.length→f<C.length→∃ t,f<t∧t≤C.length∧(t=C.length∨ziS sp C t=false)∧∀ j,f<j→j<t→ziS sp C j=true
 | 0,f,h,hf=>by omega
 | d+1,f,h,hf=>by
  by_cases h1:f+1=C.length
  ·exact ⟨f+1,by omega,by omega,.inl h1,fun j a b=>by omega⟩
  ·cases h2:ziS sp C (f+1) with
   | false=>exact ⟨f+1,by omega,by omega,.inr h2,fun j a b=>by omega⟩
   | true =>
    obtain ⟨t,g1,g2,g3,g4⟩:=zpJ sp C d (f+1) (by omega) (by omega)
    refine ⟨t,by omega,g2,g3,fun j a b => ?_⟩
    by_cases e:j=f+1
    ·rw [e]; exact h2
    ·exact g4 j (by omega) b
theorem zm2 (sp:zeb→Bool) (C:List zeb) (f:Nat):∀ (i:Nat),f+1+i≤C.length→(∀ j,f<j→j<f+1+i→ziS sp C j=true)→eN sp (C.take (f+1+i))≤f+1
 | 0,h,_=>by have:=zm3 sp (C.take (f+1)); rw [List.length_take] at this; show eN sp (C.take (f+1))≤_; omega
 | i+1,h,hsp=>by
  have hx:C[f+1+i]?=some C[f+1+i]:=List.getElem?_eq_getElem (by omega)
  have h1:=hsp (f+1+i) (by omega) (by omega)
  unfold ziS at h1
  rw [hx] at h1
  rw [show f+1+(i+1)=f+1+i+1 by omega,zf9 hx,zgV,if_pos h1]
  exact zm2 sp C f i (by omega) fun j a b=>hsp j a (by omega)
theorem zwo {sp:zeb→Bool} {C:List zeb} {a b:Int} {K:Nat→Nat→Int} (hK:∀ f t,0≤K f t∧K f t≤2000000000000):∀ (d f:Nat),C.length≤f+d→f<C.length→(f=0∨ziS sp C f=false)→0≤(BB (zmv sp C a b) K C.length f).rows
 | 0,f,h,hf,_=>by omega
 | d+1,f,h,hf,h0=>by
  obtain ⟨t,g1,g2,g3,g4⟩:=zpJ sp C (C.length - f) f (by omega) hf
  have he:=zm2 sp C f (t - (f+1)) (by omega) (fun j x y=>g4 j x (by omega))
  rw [show f+1+(t - (f+1))=t by omega] at he
  have hR:zmv sp C a b f t=true:=by
   unfold zmv
   have:(decide (0<f)&&ziS sp C f)=false:=by
    rcases h0 with h0 | h0
    ·subst h0; rfl
    ·rw [h0,Bool.and_false]
   rw [this,decide_eq_true he,Bool.or_true]; rfl
  have hm:=zr9 (R:=zmv sp C a b) (K:=K) (n:=C.length) hK g1 g2 hR
  by_cases e:t=C.length
  ·exact (hm.1 e).1
  ·have:=zwo (a:=a) (b:=b) hK d t (by omega) (by omega) (.inr (g3.resolve_left e))
   exact (hm.2 (by omega) this).1
section
variable {s:ByteArray} {a b:Int} (hs:s.size≤100000) (ha:0≤a∧a≤1000000) (hb:0≤b∧b≤1000000)
abbrev TT (s:ByteArray) (a b:Int):Nat→Bst:=BB (Rs s a b) (Ks s a b) (zaj s).length
def znC (s:ByteArray) (a b:Int) (f:Nat):Prop:=f=(zaj s).length∨f<(zaj s).length∧0≤(TT s a b f).rows
def zkH (s:ByteArray) (a b:Int):Nat→Nat→List Nat
 | 0,_=>[]
 | m+1,f=>if f<(zaj s).length then (TT s a b f).to_.toNat::zkH s a b m (TT s a b f).to_.toNat else []
theorem zlk {T T':Nat→Bst} {n f:Nat} (hf:f≤n) (h1:∀ j,j≠f→T' j=T j):(zeR T n).set f (T' f)=zeR T' n:=by
 apply List.ext_getElem?
 intro j
 by_cases hj:j≤n
 ·rw [zej T' n j hj]
  by_cases e:f=j
  ·subst e; rw [List.getElem?_set_self (by rw [zfY]; omega)]
  ·rw [List.getElem?_set_ne e,zej T n j hj,h1 j (fun h=>e h.symm)]
 ·rw [List.getElem?_eq_none (by rw [List.length_set,zfY]; omega),List.getElem?_eq_none (by rw [zfY]; omega)]
include hs ha hb
theorem zqS (j1:List Bst→Option ((List Int)×Int)):∀ (d k m:Nat),k+d=(zaj s).length→d<m→zaF (fun _ _=>none) (zbO (ze7 s a b) j1) m (zeR (Bf (Rs s a b) (Ks s a b) (zaj s).length k) (zaj s).length) (((zaj s).length:Int) - 1 - (k:Int)) =
  j1 (zeR (TT s a b) (zaj s).length):=by
 have hle:=zhl hs
 intro d
 induction d with
 | zero =>
  intro k m hk hm
  obtain ⟨m,rfl⟩:∃ q,m=q+1:=⟨m - 1,by omega⟩
  rw [zcv]
  generalize zaF (fun _ _=>none) (zbO (ze7 s a b) j1) m=ag
  unfold zbO
  refine zay (decide_eq_false (by omega)) ?_
  rw [show k=(zaj s).length by omega]; rfl
 | succ d ih =>
  intro k m hk hm
  obtain ⟨m,rfl⟩:∃ q,m=q+1:=⟨m - 1,by omega⟩
  have ih':=ih (k+1) m (by omega) (by omega)
  rw [zcv]
  generalize zaF (fun _ _=>none) (zbO (ze7 s a b) j1) m=ag at ih' ⊢
  obtain ⟨f,hf⟩:∃ f:Nat,f+(k+1)=(zaj s).length:=⟨d,by omega⟩
  rw [show ((zaj s).length:Int) - 1 - (k:Int)=(f:Int) by omega]
  rw [show ((zaj s).length:Int) - 1 - ((k+1:Nat):Int)=(f:Int) - 1 by omega] at ih'
  unfold zbO
  have hg:zbF (zeR (Bf (Rs s a b) (Ks s a b) (zaj s).length k) (zaj s).length) (f:Int)=some b0:=by
   rw [zch (zej _ _ f (by omega)),zrt k f (by omega)]
  refine zaz (decide_eq_true (by omega)) (zbE (zaM hg (zbm ⟨by omega,by omega⟩ ?_)))
  have hin:=zsv hs ha hb k f (by omega) (by omega) (fun (all5:List Gpage_best)=>grd (I64 ((f:Int) - 1))<|ag all5 ((f:Int) - 1)) ((zaj s).length - f) (f+1) zbW bm (by omega) (by omega) (by have:=zb5 (n:=(zaj s).length) (by omega); omega) (zpH _)
  rw [show ((f+1:Nat):Int)=(f:Int)+1 by omega] at hin
  have et:(zeR (Bf (Rs s a b) (Ks s a b) (zaj s).length k) (zaj s).length).set f (zem (Rs s a b) (Ks s a b) (zaj s).length (Bf (Rs s a b) (Ks s a b) (zaj s).length k) f ((zaj s).length - f) (f+1) bm)=zeR (Bf (Rs s a b) (Ks s a b) (zaj s).length (k+1)) (zaj s).length:=by
   have e1:Bf (Rs s a b) (Ks s a b) (zaj s).length (k+1) f=zem (Rs s a b) (Ks s a b) (zaj s).length (Bf (Rs s a b) (Ks s a b) (zaj s).length k) f ((zaj s).length - f) (f+1) bm:=by rw [zff,if_pos hf]
   rw [← e1]
   exact zlk (by omega) fun j hj=>by rw [zff,if_neg (by omega)]
  rw [et] at hin
  refine hin.trans (zbm ⟨by omega,by omega⟩ ih')
theorem zlT {f:Nat} (h:znC s a b f) (hf:f<(zaj s).length):∃ t:Nat,(TT s a b f).to_=(t:Int)∧f<t∧t≤(zaj s).length∧Rs s a b f t=true∧znC s a b t∧(t<(zaj s).length→(TT s a b f).cost=Ks s a b f t+(TT s a b t).cost)∧(t=(zaj s).length→(TT s a b f).cost=0):=by
 have hr:0≤(TT s a b f).rows:=by
  rcases h with h | h
  ·omega
  ·exact h.2
 obtain ⟨t,h1,h2,h3,h4,h5,h6⟩:=zuB (zfr hs ha hb) hf hr
 refine ⟨t,h1,h2,h3,h4,?_,fun h=>(h5 h).2,h6⟩
 by_cases e:t=(zaj s).length
 ·exact .inl e
 ·exact .inr ⟨by omega,(h5 (by omega)).1⟩
theorem zqT (j5:List Int→Option ((List Int)×Int)):∀ (m f N:Nat) (out:List Int),znC s a b f→(zaj s).length≤f+m→m<N→out.length≤f→f≤(zaj s).length→zaF (fun _ _=>none) (zbD (ze7 s a b) (zeR (TT s a b) (zaj s).length) j5) N out (f:Int)=j5 (out++(zkH s a b m f).map (fun t=>((t:Nat):Int))):=by
 have hle:=zhl hs
 intro m
 induction m with
 | zero =>
  intro f N out hfe hm hN ho hf
  obtain ⟨N,rfl⟩:∃ q,N=q+1:=⟨N - 1,by omega⟩
  rw [zcv]
  generalize zaF (fun _ _=>none) (zbD (ze7 s a b) (zeR (TT s a b) (zaj s).length) j5) N=ag
  unfold zbD
  refine zay (decide_eq_false (by show ¬ ((f:Int)<((zaj s).length:Int)); omega)) ?_
  show j5 out=j5 (out++[])
  rw [List.append_nil]
 | succ m ih =>
  intro f N out hfe hm hN ho hf
  obtain ⟨N,rfl⟩:∃ q,N=q+1:=⟨N - 1,by omega⟩
  rw [zcv]
  have ih':=fun t out=>ih t N out
  generalize zaF (fun _ _=>none) (zbD (ze7 s a b) (zeR (TT s a b) (zaj s).length) j5) N=ag at ih' ⊢
  unfold zbD zkH
  by_cases h:f<(zaj s).length
  ·obtain ⟨t,h1,h2,h3,h4,h5,_⟩:=zlT hs ha hb hfe h
   have hg:zbF (zeR (TT s a b) (zaj s).length) (f:Int)=some (TT s a b f):=zch (zej _ _ f (by omega))
   rw [if_pos h,h1,Int.toNat_natCast]
   refine zaz (decide_eq_true (by show (f:Int)<((zaj s).length:Int); omega)) (zaM hg (zbm (by omega) (zaM hg ?_)))
   rw [h1]
   rw [ih' t (out++[(t:Int)]) h5 (by omega) (by omega) (by rw [List.length_append]; simp; omega) h3,List.append_assoc]; rfl
  ·rw [if_neg h]
   refine zay (decide_eq_false (by show ¬ ((f:Int)<((zaj s).length:Int)); omega)) ?_
   show j5 out=j5 (out++[])
   rw [List.append_nil]
theorem zoN:znC s a b 0:=by
 by_cases h:0<(zaj s).length
 ·exact .inr ⟨h,zwo (zfr hs ha hb) (zaj s).length 0 (by omega) h (.inl rfl)⟩
 ·exact .inl (by omega)
abbrev zj3 (s:ByteArray) (a b:Int):List Nat:=zkH s a b (zaj s).length 0
theorem zsw:zdr (ze7 s a b)=some ((zj3 s a b).map (fun t=>((t:Nat):Int)),(TT s a b 0).cost):=by
 have hle:=zhl hs
 unfold zdr
 refine zbE (zbm ⟨by show _≤((zaj s).length:Int)+1; omega,by show ((zaj s).length:Int)+1≤_; omega⟩ (zbm ⟨by show _≤((zaj s).length:Int)+1; omega,by show ((zaj s).length:Int)+1≤_; omega⟩ (zbm ⟨by show _≤((zaj s).length:Int) - 1; omega,by show ((zaj s).length:Int) - 1≤_; omega⟩ ?_)))
 have e0:List.replicate (((ze7 s a b).cells.length:Int)+1:Int).toNat (⟨0,0,0⟩:Gpage_best)=zeR (Bf (Rs s a b) (Ks s a b) (zaj s).length 0) (zaj s).length:=by
  show List.replicate (((zaj s).length:Int)+1:Int).toNat b0=_
  rw [show (((zaj s).length:Int)+1:Int).toNat=(zaj s).length+1 by omega]
  apply List.ext_getElem?
  intro j
  by_cases hj:j≤(zaj s).length
  ·rw [zej _ _ j hj,List.getElem?_replicate,if_pos (by omega)]; rfl
  ·rw [List.getElem?_eq_none (by rw [List.length_replicate]; omega),List.getElem?_eq_none (by rw [zfY]; omega)]
 rw [e0]
 have ho:=zqS hs ha hb (fun (all1:List Gpage_best)=>zbl (fun (j5:(List Int)→Option ((List Int)×Int))=>zaF (fun _ _=>none) (zbD (ze7 s a b) all1 j5) zbW ([]:List Int) 0) (fun (out1:List Int)=>zal (zbF all1 0) fun (q10:Gpage_best)=>some (out1,q10.cost))) (zaj s).length 0 zbW (by omega) (by have:=zb5 (n:=(zaj s).length) (by omega); omega)
 rw [show ((zaj s).length:Int) - 1 - ((0:Nat):Int)=((zaj s).length:Int) - 1 by omega] at ho
 refine ho.trans (zbE ?_)
 have he:=zqT hs ha hb (fun (out1:List Int)=>zal (zbF (zeR (TT s a b) (zaj s).length) 0) fun (q10:Gpage_best)=>some (out1,q10.cost)) (zaj s).length 0 zbW [] (zoN hs ha hb) (by omega) (by have:=zb5 (n:=(zaj s).length) (by omega); omega) (Nat.zero_le _) (Nat.zero_le _)
 rw [show ((0:Nat):Int)=0 from rfl,List.nil_append] at he
 refine he.trans (zaM (zdm (n:=0) rfl (zej _ _ 0 (Nat.zero_le _))) rfl)
end
def stN (s:ByteArray) (k:Nat):Int:=match (zaj s)[k]? with | some c=>c.Span_From | none=>(s.size:Int)
theorem zom:∀ (cs:List zeb) (a b:Int),Cov a cs b→∀ (k:Nat) (c:zeb),cs[k]?=some c→c.Span_To=(match cs[k+1]? with | some d=>d.Span_From | none=>b)
 | [],_,_,_,k,c,h=>by simp at h
 | d::cs,a,b,hc,k,c,h=>by
  obtain ⟨h1,h2,h3,h4⟩:=hc
  cases k with
  | zero =>
   have e:d=c:=by simpa using h
   subst e
   cases cs with
   | nil=>exact h4
   | cons e es=>exact h4.1.symm
  | succ k =>
   have:=zom cs _ b h4 k c (by simpa using h)
   simpa using this
theorem zml (s:ByteArray) {k:Nat} {c:zeb} (h:(zaj s)[k]?=some c):stN s k=c.Span_From∧stN s (k+1)=c.Span_To∧0≤c.Span_From∧c.Span_From<c.Span_To∧c.Span_To≤(s.size:Int):=by
 have hm:=(zep s).mem c (List.mem_of_getElem? h)
 refine ⟨by unfold stN; rw [h],?_,hm.1,hm.2.1,hm.2.2.1⟩
 have:=zom _ _ _ (zep s) k c h
 unfold stN; exact this.symm
theorem zjB (s:ByteArray):∀ (d f:Nat),f+d≤(zaj s).length→stN s f+d≤stN s (f+d)
 | 0,f,h=>by show stN s f+(0:Int)≤stN s f; omega
 | d+1,f,h=>by
  have ih:=zjB s d f (by omega)
  have hx:(zaj s)[f+d]?=some (zaj s)[f+d]:=List.getElem?_eq_getElem (by omega)
  obtain ⟨h1,h2,h3,h4,h5⟩:=zml s hx
  rw [show f+(d+1)=f+d+1 by omega,h2]
  rw [h1] at ih
  push_cast; omega
theorem ztN (s:ByteArray):stN s 0=0:=by
 have h:=zep s
 unfold stN
 cases hc:zaj s with
 | nil=>rw [hc] at h; exact (show (0:Int)=_ from h).symm
 | cons c cs=>rw [hc] at h; exact h.1
theorem ztM (s:ByteArray):stN s (zaj s).length=(s.size:Int):=by
 unfold stN; rw [List.getElem?_eq_none (Nat.le_refl _)]
theorem zpd (s:ByteArray) {k:Nat} (h:k≤(zaj s).length):0≤stN s k∧stN s k≤(s.size:Int):=by
 have h1:=zjB s k 0 (by omega)
 have h2:=zjB s ((zaj s).length - k) k (by omega)
 rw [Nat.zero_add,ztN] at h1
 rw [show k+((zaj s).length - k)=(zaj s).length by omega,ztM] at h2
 omega
def zqJ (s:ByteArray) (f t:Nat):ByteArray:=zbT s (stN s f) (stN s t)
theorem zsm {s:ByteArray} {a b:Int} (hs:s.size≤100000) (f t:Nat) (hf:f<t) (ht:t≤(zaj s).length):zdq (ze7 s a b) (f:Int) (t:Int)=some (zqJ s f t):=by
 have hle:=zhl hs
 unfold zdq zqJ
 have hx:(zaj s)[f]?=some (zaj s)[f]:=List.getElem?_eq_getElem (by omega)
 have hy:(zaj s)[t - 1]?=some (zaj s)[t - 1]:=List.getElem?_eq_getElem (by omega)
 obtain ⟨h1,h2,h3,h4,h5⟩:=zml s hx
 obtain ⟨g1,g2,g3,g4,g5⟩:=zml s hy
 rw [show t - 1+1=t by omega] at g2
 have hl:=zjB s (t - f) f (by omega)
 rw [show f+(t - f)=t by omega] at hl
 refine zaM (zch hx) (zbm ⟨by omega,by omega⟩ (zaM (zdm (n:=t - 1) (by omega) hy) (zbm ?_ ?_)))
 ·show 0≤(zaj s)[f].Span_From∧(zaj s)[f].Span_From≤(zaj s)[t - 1].Span_To∧(zaj s)[t - 1].Span_To≤(s.size:Int)
  rw [← h1,← g2]; omega
 ·show some (zbT s (zaj s)[f].Span_From (zaj s)[t - 1].Span_To)=_
  rw [h1,g2]
def zf8 (s:ByteArray):Nat→List Nat→List ByteArray
 | _,[]=>[]
 | f,t::ts=>zqJ s f t::zf8 s t ts
def ztr (n:Nat):Nat→List Nat→Prop
 | _,[]=>True
 | f,t::ts=>f<t∧t≤n∧ztr n t ts
section
variable {s:ByteArray} {a b:Int} (hs:s.size≤100000) (ha:0≤a∧a≤1000000) (hb:0≤b∧b≤1000000)
include hs ha hb
theorem zih:∀ (m f:Nat),znC s a b f→f≤(zaj s).length→ztr (zaj s).length f (zkH s a b m f)
 | 0,f,_,_=>trivial
 | m+1,f,hfe,hf=>by
  unfold zkH
  split
  ·rename_i h
   obtain ⟨t,h1,h2,h3,h4,h5,_⟩:=zlT hs ha hb hfe h
   rw [h1,Int.toNat_natCast]
   exact ⟨h2,h3,zih m t h5 h3⟩
  ·trivial
end
theorem zo7 (s:ByteArray) (hs:s.size≤100000) (a b:Int) (c:Int) (j1:Int→List ByteArray→Option ((List ByteArray)×Int)) (E:List Nat):∀ (ts pre:List Nat) (f m:Nat) (out:List ByteArray),E=pre++ts→ztr (zaj s).length f ts→ts.length<m→out.length≤pre.length→E.length≤100000 →
  zaF (fun _ _ _=>none) (zdb j1 (ze7 s a b) (E.map (fun t=>((t:Nat):Int)),c)) m out (f:Int) (pre.length:Int)=j1 c (out++zf8 s f ts)
 | [],pre,f,m,out,hE,_,hm,_,_=>by
  obtain ⟨m,rfl⟩:∃ q,m=q+1:=⟨m - 1,by simp at hm; omega⟩
  rw [zcv]
  generalize zaF (fun _ _ _=>none) (zdb j1 (ze7 s a b) (E.map (fun t=>((t:Nat):Int)),c)) m=ag
  unfold zdb
  refine zay (decide_eq_false (by rw [List.length_map,hE]; simp)) ?_
  show j1 c out=j1 c (out++[])
  rw [List.append_nil]
 | t::ts,pre,f,m,out,hE,hr,hm,ho,hl=>by
  obtain ⟨m,rfl⟩:∃ q,m=q+1:=⟨m - 1,by simp at hm; omega⟩
  obtain ⟨r1,r2,r3⟩:=hr
  have ih:=zo7 s hs a b c j1 E ts (pre++[t]) t m (out++[zqJ s f t]) (by rw [hE]; simp) r3 (by simp at hm; omega) (by simp; omega) hl
  have hpl:pre.length<E.length:=by rw [hE]; simp
  rw [zcv]
  generalize zaF (fun _ _ _=>none) (zdb j1 (ze7 s a b) (E.map (fun t=>((t:Nat):Int)),c)) m=ag at ih ⊢
  have hg:(E.map (fun t=>((t:Nat):Int)))[pre.length]?=some (t:Int):=by rw [List.getElem?_map,hE]; simp
  rw [show (((pre++[t]).length:Nat):Int)=(pre.length:Int)+1 by simp] at ih
  unfold zdb
  refine zaz (znw hg) (zaM (zch hg) (zaM (zsm hs f t r1 r2) (zbm (by omega) (zbm ⟨by omega,by omega⟩ ?_))))
  rw [ih,List.append_assoc]; rfl
theorem zlx {n:Nat}:∀ {ts:List Nat} {f:Nat},ztr n f ts→f+ts.length≤max n f
 | [],f,_=>by simp; omega
 | t::ts,f,h=>by
  obtain ⟨h1,h2,h3⟩:=h
  have:=zlx h3
  rw [List.length_cons]; omega
theorem ztD (s:ByteArray) (hs:s.size≤100000) (ind:Int) (l:Gapi_Layout) (h1:I64 (l.Width - ind)) (ha:0≤max 1 (l.Width - ind)∧max 1 (l.Width - ind)≤1000000) (hb:0≤l.Width - l.Turn∧l.Width - l.Turn≤1000000) :
  zeF s ind l=some (zf8 s 0 (zj3 s (max 1 (l.Width - ind)) (l.Width - l.Turn)),(TT s (max 1 (l.Width - ind)) (l.Width - l.Turn) 0).cost):=by
 unfold zeF
 refine zbE (zaM (znv s hs ind l h1 ⟨by omega,by omega⟩) (zaM (zsw hs ha hb) ?_))
 have hr:=zih hs ha hb (zaj s).length 0 (zoN hs ha hb) (Nat.zero_le _)
 have hl:0+(zj3 s (max 1 (l.Width - ind)) (l.Width - l.Turn)).length≤max (zaj s).length 0:=zlx hr
 have hle:=zhl hs
 have:=zo7 s hs (max 1 (l.Width - ind)) (l.Width - l.Turn) (TT s (max 1 (l.Width - ind)) (l.Width - l.Turn) 0).cost (fun (cost1:Int) (out1:List ByteArray)=>some (out1,cost1)) (zj3 s (max 1 (l.Width - ind)) (l.Width - l.Turn)) (zj3 s (max 1 (l.Width - ind)) (l.Width - l.Turn)) [] 0 zbW [] rfl hr (by have:=zb5 (n:=(zaj s).length) (by omega); omega) (Nat.le_refl _) (by omega)
 exact this
end Go.Proofs.YtbempdelckaccaaDoor

namespace Go.Proofs.YtbempdelckaccaaDoor
open Go.RowKit Go.Lib
set_option linter.unusedVariables false
set_option linter.unusedSimpArgs false
def zuN:List ByteArray→ByteArray
 | []=>⟨#[]⟩
 | x::xs=>x++zuN xs
section
variable {s:ByteArray} {a b:Int} (hs:s.size≤100000) (ha:0≤a∧a≤1000000) (hb:0≤b∧b≤1000000)
include hs ha hb
end
end Go.Proofs.YtbempdelckaccaaDoor
