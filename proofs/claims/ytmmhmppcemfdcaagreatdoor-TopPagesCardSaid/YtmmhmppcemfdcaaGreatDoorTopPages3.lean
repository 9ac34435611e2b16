/-
  Texts laid together: LfA, PlA, Ql, PlB, LpR, LfR, Qr, LpC, Pa, LpT, Pb, Pc, Pd, LpJ, LpK, Pe, Pf, Pk, PgA, Pn. Nothing is assumed.
-/
import Derived.Test.YtmmhmppcemfdcaaGreatDoorTopPages2
set_option maxRecDepth 100000
set_option maxHeartbeats 4000000
namespace Go.Proofs.YtmmhmppcemfdcaaGreatDoor
abbrev zI (x : Int) : Value := .int .i64 x
abbrev zP (x : Nat) : Value := .pointer (some ⟨x, 0, none⟩)
end Go.Proofs.YtmmhmppcemfdcaaGreatDoor
namespace Go.Proofs.YtmmhmppcemfdcaaGreatDoor
open Go.RowKit Go.Lib
open Tryz
set_option linter.unusedVariables false
set_option linter.unusedSimpArgs false
end Go.Proofs.YtmmhmppcemfdcaaGreatDoor


namespace Go.Proofs.YtmmhmppcemfdcaaGreatDoor
open Go.RowKit Go.Lib
open Tryz
set_option linter.unusedVariables false
set_option linter.unusedSimpArgs false
section
variable {R S:Type} {c:Prop} [Decidable c] {o x z:Option R} {p:Option S} {f:S→Option R} {b:Bool} {y:Option R}
theorem zcm (h:c) (ho:o=x):grd c o=x:=(zxp h).trans ho
theorem za7 {a:S} (h:p=some a) (hf:f a=x):zan p f=x:=(zvH h).trans hf
theorem zaR (hb:b=true) (h:x=z):zaB b x y=z:=(zxX hb).trans h
theorem zaK (hb:b=false) (h:y=z):zaB b x y=z:=(zxY hb).trans h
theorem zcj {T:Type} {t:T→Option R} {k:T} (h:t k=x):zbE t k=x:=h
theorem zen {T:Type} {bot:T} {step:T→T} {n:Nat}:za1 bot step (n+1)=step (za1 bot step n):=rfl
theorem zqy (k:Nat) (h:k≤1000):∃ n,zcD=n+k∧18446744073709550000≤n:=⟨18446744073709551616 - k,by unfold zcD; omega,by omega⟩
end
def vr (r:Int):Prop:=(0≤r∧r<55296)∨(57343<r∧r≤1114111)
instance (r:Int):Decidable (vr r):=by unfold vr; infer_instance
def wd (r:Int):Int:=if vr r then (if r<128 then 1 else if r<2048 then 2 else if r<65536 then 3 else 4) else 0
theorem u8w (x:Int) (h:0≤x∧x≤255):IntKind.u8.wrap x=x:=IntWalk.u8_in x h
section
variable {R X A B:Type} {xs:List X}
theorem zeD {k:Nat} {x:X} (h:xs[k]?=some x):zdf xs (k:Int)=some x:=zcY h
theorem zss {k:Nat} {x:X} (h:xs[k]?=some x):decide ((k:Int)<(xs.length:Int))=true:=decide_eq_true (by have:=(List.getElem?_eq_some_iff.1 h).1; omega)
theorem zxg:decide ((xs.length:Int)<(xs.length:Int))=false:=decide_eq_false (by omega)
theorem zrv {k:Nat} {x:X} (h:xs[k]?=some x):k<xs.length:=(List.getElem?_eq_some_iff.1 h).1
end
theorem zdI {n:Nat} (h:n≤4611686018427387904):n<zcD:=by unfold zcD; omega
def byI (l:List UInt8) (i:Nat):Int:=((l.getD i 0).toNat:Int)
def zA3 (l:List UInt8):Nat→Int
 | 1=>byI l 0
 | 2=>(byI l 0 - 192)*64+byI l 1 - 128
 | 3=>((byI l 0 - 224)*64+byI l 1 - 128)*64+byI l 2 - 128
 | 4=>(((byI l 0 - 240)*64+byI l 1 - 128)*64+byI l 2 - 128)*64+byI l 3 - 128
 | _=>0
def acc (s:zBA) (a n:Nat):Prop:=vr (zA3 (s.data.toList.drop a) n)∧wd (zA3 (s.data.toList.drop a) n)=n∧Utf8.encode (zA3 (s.data.toList.drop a) n)=zdR s a ((a:Int)+n)
theorem zgD (s:zBA) (a n:Nat):(zdR s a ((a:Int)+n)).data.toList=(s.data.toList.drop a).take n:=by
 unfold zdR
 rw [extract_data]
 simp only [Int.toNat_natCast,show ((a:Int)+(n:Int)).toNat=a+n by omega]
 rw [show a+n - a=n by omega]
def pcG (p:Pc):zaX:=⟨p.i,p.w,p.r,p.broken⟩
abbrev unC (x:Un):List Value:=[zI x.k,.int .i32 (x.r:Int),zI (x.f:Int),zI (x.t:Int),.bool x.al]
abbrev scC (v:Int) (s:Sc):List Value:=[zI v,zI s.tk.k,zI (s.tk.f:Int),zI (s.tk.t:Int),zI s.h.k,.int .i32 (s.h.r:Int),zI (s.h.f:Int),zI (s.h.t:Int),.bool s.h.al]
theorem zar {F:Fence} {P:Program} {w0:World} {K:Nat→Prop} {N:Nat} {dfs:List Deferred} {Q:Exit→Act→World→Prop} {σ:List (Nat×Value)} {L:List Asn} {ops:Array Oper} {vals:List (Nat×Nat×Value)} {D:Nat→Prop} (m:Nat) {i t:Nat} {v:Value} (hu:zdl (vals.map (fun p=>p.2.1))=true) (hi:zdl (vals.map (fun p=>p.1))=true) (hm:vals[m]?=some (i,t,v):=by exact rfl) :
    TO F P w0 K N dfs ops (Exit.then (fun a w=>At N dfs (Go.Proofs.YtmmhmppcemfdcaaGreatDoor.dl (fun j=>D j∨j=i) vals++σ) a∧Holds w0 K L w) Q) [] ((t,v)::(Go.Proofs.YtmmhmppcemfdcaaGreatDoor.dl D vals++σ)) L:=zko m hu hi hm
theorem za2 {P:Program} {F:Fence} {w0:World} {K:Nat→Prop} {N:Nat} {σ:List (Nat×Value)} {L:List Asn} {fn:Func} {V:Unit→Value} {Bs:Unit→List Asn} {v:Value} (n:Nat) (hrs:fn.results=#[.tmp n]) (hσ:σ.lookup n=some v:=by rfl) (hv:v=V ():=by rfl) (hB:Bs ()=[]:=by rfl) :
    TX w0 K N [] (bodyPostM F 0 P fn (FR P V Bs w0 K)) .ret σ L :=
  zbt (rs:=[.tmp n]) () (.inl rfl) hrs (.cons (.tmp hσ) .nil) hv (by rw [hB]; exact Splits.nil)
theorem zBw {R RD0 RD:List Asn} {A:Asn} (k:Nat) (h:RdS R RD0 RD) (hs:zgJ R [k]=some [A]:=by kernel_rfl):RdS R RD0 (A::RD):=.own (zab [k] hs rfl) (fun _ _ h=>sepL.one1.1 h) h
theorem zam {D:Nat→Prop} {S:Nat→Prop} [DecidablePred S] {σ:List (Nat×Value)} {vals:List (Nat×Nat×Value)} {i t:Nat} {v:Value} (m:Nat) (hu:zdl (vals.map (fun p=>p.2.1))=true) (hd:∀ j,S j→D j) (hm:vals[m]?=some (i,t,v):=by exact rfl) (hs:decide (S i)=true:=by exact rfl):(dl D vals++σ).lookup t=some v:=zaI hu hm (hd i (of_decide_eq_true hs))
theorem zbf {σ:List (Nat×Value)}:∀ {σ':List (Nat×Value)},σ'.map (fun p=>σ.lookup p.1)=σ'.map (fun p=>some p.2)→Sbs σ σ'
  | [],_=>ziU
  | (t,v)::σ',h=>zoR (List.cons.inj h).1 (zbf (List.cons.inj h).2)
theorem zez {α:Type} {a0 a1:α} {l l':List α} (h:l=l'):a0::a1::l=a0::a1::l':=by rw [h]
theorem zcK {α:Type} {a0 a1 a2:α} {l l':List α} (h:l=l'):a0::a1::a2::l=a0::a1::a2::l':=by rw [h]
theorem zfu {α:Type} {a0 a1 a2 a3:α} {l l':List α} (h:l=l'):a0::a1::a2::a3::l=a0::a1::a2::a3::l':=by rw [h]
theorem zp7 {α:Type} {a0 a1 a2 a3 a4:α} {l l':List α} (h:l=l'):a0::a1::a2::a3::a4::l=a0::a1::a2::a3::a4::l':=by rw [h]
theorem zwK {α:Type} {a0 a1 a2 a3 a4 a5:α} {l l':List α} (h:l=l'):a0::a1::a2::a3::a4::a5::l=a0::a1::a2::a3::a4::a5::l':=by rw [h]
theorem zp3 {α:Type} {a0 a1 a2 a3 a4 a5 a6:α} {l l':List α} (h:l=l'):a0::a1::a2::a3::a4::a5::a6::l=a0::a1::a2::a3::a4::a5::a6::l':=by rw [h]
theorem zjE {α:Type} {a0 a1 a2 a3 a4 a5 a6 a7:α} {l l':List α} (h:l=l'):a0::a1::a2::a3::a4::a5::a6::a7::l=a0::a1::a2::a3::a4::a5::a6::a7::l':=by rw [h]
theorem zzP {α:Type} {a0 a1 a2 a3 a4 a5 a6 a7 a8:α} {l l':List α} (h:l=l'):a0::a1::a2::a3::a4::a5::a6::a7::a8::l=a0::a1::a2::a3::a4::a5::a6::a7::a8::l':=by rw [h]
theorem zn6 {α:Type} {a0 a1 a2 a3 a4 a5 a6 a7 a8 a9:α} {l l':List α} (h:l=l'):a0::a1::a2::a3::a4::a5::a6::a7::a8::a9::l=a0::a1::a2::a3::a4::a5::a6::a7::a8::a9::l':=by rw [h]
theorem zzV {α:Type} {a0 a1 a2 a3 a4 a5 a6 a7 a8 a9 a10:α} {l l':List α} (h:l=l'):a0::a1::a2::a3::a4::a5::a6::a7::a8::a9::a10::l=a0::a1::a2::a3::a4::a5::a6::a7::a8::a9::a10::l':=by rw [h]
theorem zyh {α:Type} {a0 a1 a2 a3 a4 a5 a6 a7 a8 a9 a10 a11:α} {l l':List α} (h:l=l'):a0::a1::a2::a3::a4::a5::a6::a7::a8::a9::a10::a11::l=a0::a1::a2::a3::a4::a5::a6::a7::a8::a9::a10::a11::l':=by rw [h]
theorem zx7 {D:Nat→Prop} {i0 t0 i1 t1:Nat} {v0 v1:Value} {r r':List (Nat×Nat×Value)} (h:dl D r=dl D r'):dl D ((i0,t0,v0)::(i1,t1,v1)::r)=dl D ((i0,t0,v0)::(i1,t1,v1)::r'):=zaz (fun _=>rfl) (zaz (fun _=>rfl) h)
theorem zuT {D:Nat→Prop} {i0 t0 i1 t1 i2 t2:Nat} {v0 v1 v2:Value} {r r':List (Nat×Nat×Value)} (h:dl D r=dl D r'):dl D ((i0,t0,v0)::(i1,t1,v1)::(i2,t2,v2)::r)=dl D ((i0,t0,v0)::(i1,t1,v1)::(i2,t2,v2)::r'):=zaz (fun _=>rfl) (zaz (fun _=>rfl) (zaz (fun _=>rfl) h))
theorem zzQ {D:Nat→Prop} {i0 t0 i1 t1 i2 t2 i3 t3:Nat} {v0 v1 v2 v3:Value} {r r':List (Nat×Nat×Value)} (h:dl D r=dl D r'):dl D ((i0,t0,v0)::(i1,t1,v1)::(i2,t2,v2)::(i3,t3,v3)::r)=dl D ((i0,t0,v0)::(i1,t1,v1)::(i2,t2,v2)::(i3,t3,v3)::r'):=zaz (fun _=>rfl) (zaz (fun _=>rfl) (zaz (fun _=>rfl) (zaz (fun _=>rfl) h)))
theorem zn7 {D:Nat→Prop} {i0 t0 i1 t1 i2 t2 i3 t3 i4 t4:Nat} {v0 v1 v2 v3 v4:Value} {r r':List (Nat×Nat×Value)} (h:dl D r=dl D r'):dl D ((i0,t0,v0)::(i1,t1,v1)::(i2,t2,v2)::(i3,t3,v3)::(i4,t4,v4)::r)=dl D ((i0,t0,v0)::(i1,t1,v1)::(i2,t2,v2)::(i3,t3,v3)::(i4,t4,v4)::r'):=zaz (fun _=>rfl) (zaz (fun _=>rfl) (zaz (fun _=>rfl) (zaz (fun _=>rfl) (zaz (fun _=>rfl) h))))
theorem zvM {D:Nat→Prop} {i0 t0 i1 t1 i2 t2 i3 t3 i4 t4 i5 t5:Nat} {v0 v1 v2 v3 v4 v5:Value} {r r':List (Nat×Nat×Value)} (h:dl D r=dl D r'):dl D ((i0,t0,v0)::(i1,t1,v1)::(i2,t2,v2)::(i3,t3,v3)::(i4,t4,v4)::(i5,t5,v5)::r)=dl D ((i0,t0,v0)::(i1,t1,v1)::(i2,t2,v2)::(i3,t3,v3)::(i4,t4,v4)::(i5,t5,v5)::r'):=zaz (fun _=>rfl) (zaz (fun _=>rfl) (zaz (fun _=>rfl) (zaz (fun _=>rfl) (zaz (fun _=>rfl) (zaz (fun _=>rfl) h)))))
theorem zls {D:Nat→Prop} {i0 t0 i1 t1 i2 t2 i3 t3 i4 t4 i5 t5 i6 t6:Nat} {v0 v1 v2 v3 v4 v5 v6:Value} {r r':List (Nat×Nat×Value)} (h:dl D r=dl D r'):dl D ((i0,t0,v0)::(i1,t1,v1)::(i2,t2,v2)::(i3,t3,v3)::(i4,t4,v4)::(i5,t5,v5)::(i6,t6,v6)::r)=dl D ((i0,t0,v0)::(i1,t1,v1)::(i2,t2,v2)::(i3,t3,v3)::(i4,t4,v4)::(i5,t5,v5)::(i6,t6,v6)::r'):=zaz (fun _=>rfl) (zaz (fun _=>rfl) (zaz (fun _=>rfl) (zaz (fun _=>rfl) (zaz (fun _=>rfl) (zaz (fun _=>rfl) (zaz (fun _=>rfl) h))))))
theorem zks {D:Nat→Prop} {i0 t0 i1 t1 i2 t2 i3 t3 i4 t4 i5 t5 i6 t6 i7 t7:Nat} {v0 v1 v2 v3 v4 v5 v6 v7:Value} {r r':List (Nat×Nat×Value)} (h:dl D r=dl D r'):dl D ((i0,t0,v0)::(i1,t1,v1)::(i2,t2,v2)::(i3,t3,v3)::(i4,t4,v4)::(i5,t5,v5)::(i6,t6,v6)::(i7,t7,v7)::r)=dl D ((i0,t0,v0)::(i1,t1,v1)::(i2,t2,v2)::(i3,t3,v3)::(i4,t4,v4)::(i5,t5,v5)::(i6,t6,v6)::(i7,t7,v7)::r'):=zaz (fun _=>rfl) (zaz (fun _=>rfl) (zaz (fun _=>rfl) (zaz (fun _=>rfl) (zaz (fun _=>rfl) (zaz (fun _=>rfl) (zaz (fun _=>rfl) (zaz (fun _=>rfl) h)))))))
theorem zBj {D:Nat→Prop} {i0 t0 i1 t1 i2 t2 i3 t3 i4 t4 i5 t5 i6 t6 i7 t7 i8 t8:Nat} {v0 v1 v2 v3 v4 v5 v6 v7 v8:Value} {r r':List (Nat×Nat×Value)} (h:dl D r=dl D r'):dl D ((i0,t0,v0)::(i1,t1,v1)::(i2,t2,v2)::(i3,t3,v3)::(i4,t4,v4)::(i5,t5,v5)::(i6,t6,v6)::(i7,t7,v7)::(i8,t8,v8)::r)=dl D ((i0,t0,v0)::(i1,t1,v1)::(i2,t2,v2)::(i3,t3,v3)::(i4,t4,v4)::(i5,t5,v5)::(i6,t6,v6)::(i7,t7,v7)::(i8,t8,v8)::r'):=zaz (fun _=>rfl) (zaz (fun _=>rfl) (zaz (fun _=>rfl) (zaz (fun _=>rfl) (zaz (fun _=>rfl) (zaz (fun _=>rfl) (zaz (fun _=>rfl) (zaz (fun _=>rfl) (zaz (fun _=>rfl) h))))))))
theorem zwL {D:Nat→Prop} {i0 t0 i1 t1 i2 t2 i3 t3 i4 t4 i5 t5 i6 t6 i7 t7 i8 t8 i9 t9:Nat} {v0 v1 v2 v3 v4 v5 v6 v7 v8 v9:Value} {r r':List (Nat×Nat×Value)} (h:dl D r=dl D r'):dl D ((i0,t0,v0)::(i1,t1,v1)::(i2,t2,v2)::(i3,t3,v3)::(i4,t4,v4)::(i5,t5,v5)::(i6,t6,v6)::(i7,t7,v7)::(i8,t8,v8)::(i9,t9,v9)::r)=dl D ((i0,t0,v0)::(i1,t1,v1)::(i2,t2,v2)::(i3,t3,v3)::(i4,t4,v4)::(i5,t5,v5)::(i6,t6,v6)::(i7,t7,v7)::(i8,t8,v8)::(i9,t9,v9)::r'):=zaz (fun _=>rfl) (zaz (fun _=>rfl) (zaz (fun _=>rfl) (zaz (fun _=>rfl) (zaz (fun _=>rfl) (zaz (fun _=>rfl) (zaz (fun _=>rfl) (zaz (fun _=>rfl) (zaz (fun _=>rfl) (zaz (fun _=>rfl) h)))))))))
theorem zkw {D:Nat→Prop} {i0 t0 i1 t1 i2 t2 i3 t3 i4 t4 i5 t5 i6 t6 i7 t7 i8 t8 i9 t9 i10 t10:Nat} {v0 v1 v2 v3 v4 v5 v6 v7 v8 v9 v10:Value} {r r':List (Nat×Nat×Value)} (h:dl D r=dl D r'):dl D ((i0,t0,v0)::(i1,t1,v1)::(i2,t2,v2)::(i3,t3,v3)::(i4,t4,v4)::(i5,t5,v5)::(i6,t6,v6)::(i7,t7,v7)::(i8,t8,v8)::(i9,t9,v9)::(i10,t10,v10)::r)=dl D ((i0,t0,v0)::(i1,t1,v1)::(i2,t2,v2)::(i3,t3,v3)::(i4,t4,v4)::(i5,t5,v5)::(i6,t6,v6)::(i7,t7,v7)::(i8,t8,v8)::(i9,t9,v9)::(i10,t10,v10)::r'):=zaz (fun _=>rfl) (zaz (fun _=>rfl) (zaz (fun _=>rfl) (zaz (fun _=>rfl) (zaz (fun _=>rfl) (zaz (fun _=>rfl) (zaz (fun _=>rfl) (zaz (fun _=>rfl) (zaz (fun _=>rfl) (zaz (fun _=>rfl) (zaz (fun _=>rfl) h))))))))))
theorem zd5 {D:Nat→Prop} {i0 t0 i1 t1 i2 t2 i3 t3 i4 t4 i5 t5 i6 t6 i7 t7 i8 t8 i9 t9 i10 t10 i11 t11:Nat} {v0 v1 v2 v3 v4 v5 v6 v7 v8 v9 v10 v11:Value} {r r':List (Nat×Nat×Value)} (h:dl D r=dl D r'):dl D ((i0,t0,v0)::(i1,t1,v1)::(i2,t2,v2)::(i3,t3,v3)::(i4,t4,v4)::(i5,t5,v5)::(i6,t6,v6)::(i7,t7,v7)::(i8,t8,v8)::(i9,t9,v9)::(i10,t10,v10)::(i11,t11,v11)::r)=dl D ((i0,t0,v0)::(i1,t1,v1)::(i2,t2,v2)::(i3,t3,v3)::(i4,t4,v4)::(i5,t5,v5)::(i6,t6,v6)::(i7,t7,v7)::(i8,t8,v8)::(i9,t9,v9)::(i10,t10,v10)::(i11,t11,v11)::r'):=zaz (fun _=>rfl) (zaz (fun _=>rfl) (zaz (fun _=>rfl) (zaz (fun _=>rfl) (zaz (fun _=>rfl) (zaz (fun _=>rfl) (zaz (fun _=>rfl) (zaz (fun _=>rfl) (zaz (fun _=>rfl) (zaz (fun _=>rfl) (zaz (fun _=>rfl) (zaz (fun _=>rfl) h)))))))))))
def zx8 (lk:Nat→Option Value):Operand→Option Value
  | .tmp t=>lk t
  | .const v=>some v
  | .func f=>some (.func (.func f) #[] #[])
  | .global _=>none
def zzR (lk:Nat→Option Value) (ops:Array Oper):Option (Nat×Bool)→Option Bool
  | none=>some true
  | some (j,b)=>match (ops[j]?).bind (·.dst) with
    | some t=>match lk t with
      | some (.bool c)=>some (c==b)
      | some (.tuple _)=>some false
      | _=>none
    | none=>none
def zyi (lk:Nat→Option Value) (N:Nat) (ops:Array Oper) (o:Oper):Option (Nat×Value) :=
  match o.dst with
  | none=>none
  | some d=>match Nat.blt d N with
    | false=>none
    | true=>match zzR lk ops o.guard with
      | none=>none
      | some false=>some (d,undef)
      | some true=>match o.op with
        | .move x=>match zx8 lk x with
          | some v=>some (d,v)
          | none=>none
        | .assign x=>match zx8 lk x with
          | some v=>some (d,v)
          | none=>none
        | .pick x y z=>match zx8 lk x with
          | some (.bool true)=>match zx8 lk y with
            | some v=>some (d,v)
            | none=>none
          | some (.bool false)=>match zx8 lk z with
            | some v=>some (d,v)
            | none=>none
          | _=>none
        | _=>none
theorem zkx {lk:Nat→Option Value} {S:List (Nat×Value)} (hl:∀ t v,lk t=some v→S.lookup t=some v) {x:Operand} {v:Value} (h:zx8 lk x=some v):ev S x=some v:=by
  cases x with
  | tmp t=>exact hl t v h
  | const c=>exact h
  | func f=>exact h
  | global g=>exact h
theorem zwM {lk:Nat→Option Value} {S:List (Nat×Value)} {ops:Array Oper} (hl:∀ t v,lk t=some v→S.lookup t=some v) {g:Option (Nat×Bool)} {r:Bool} (h:zzR lk ops g=some r):gd ops S g=some r:=by
  cases g with
  | none=>exact h
  | some p =>
    obtain ⟨j,b⟩:=p
    unfold zzR at h; unfold gd
    dsimp only at h ⊢
    cases ht:(ops[j]?).bind (·.dst) with
    | none=>rw [ht] at h; cases h
    | some t =>
      rw [ht] at h; dsimp only at h ⊢
      cases hk:lk t with
      | none=>rw [hk] at h; cases h
      | some v=>rw [hk] at h; rw [hl t v hk]; exact h
theorem zn8 {F:Fence} [WideF F] {P:Program} {w0:World} {K:Nat→Prop} {N:Nat} {dfs:List Deferred} {ops:Array Oper} {Q:Exit→Act→World→Prop} {rest:List Oper} {lk:Nat→Option Value} {S:List (Nat×Value)} {L:List Asn} {o:Oper} {t:Nat} {v:Value}
    (hl:∀ t v,lk t=some v→S.lookup t=some v) (e:zyi lk N ops o=some (t,v)) (h:TO F P w0 K N dfs ops Q rest ((t,v)::S) L):TO F P w0 K N dfs ops Q (o::rest) S L:=by
  obtain ⟨dst,op,ty,pos,aft,g⟩:=o
  unfold zyi at e
  cases dst with
  | none=>cases e
  | some d =>
    dsimp only at e
    cases hb:Nat.blt d N with
    | false=>rw [hb] at e; cases e
    | true =>
    have hd:d<N:=Nat.lt_of_lt_of_le (Nat.lt_succ_self d) (Nat.le_of_ble_eq_true hb)
    rw [hb] at e; dsimp only at e
    cases hg:zzR lk ops g with
    | none=>rw [hg] at e; cases e
    | some gb =>
      rw [hg] at e
      have hg':=zwM hl hg
      cases gb with
      | false=>cases e; exact zx0 hg' hd h
      | true =>
        cases op <;> dsimp only at e <;> first | (cases e; done) | skip
        · split at e
          · cases e; exact zgq hg' hd (zkx hl (by assumption)) h
          · cases e
        · split at e
          · cases e; exact zhj hg' hd (zkx hl (by assumption)) h
          · cases e
        · split at e
          · split at e
            · cases e; exact zuE (b:=true) hg' hd (zkx hl (by assumption)) (zkx hl (by assumption)) h
            · cases e
          · split at e
            · cases e; exact zuE (b:=false) hg' hd (zkx hl (by assumption)) (zkx hl (by assumption)) h
            · cases e
          · cases e
def zzW (N:Nat) (ops:Array Oper):Nat→List Oper→List (Nat×Value)→Option (List Oper×List (Nat×Value))
  | 0,r,σ=>some (r,σ)
  | n+1,o::r,σ=>match zyi (fun t=>σ.lookup t) N ops o with
    | some p=>zzW N ops n r (p::σ)
    | none=>none
  | _+1,[],_=>none
theorem zyR {F:Fence} [WideF F] {P:Program} {w0:World} {K:Nat→Prop} {N:Nat} {dfs:List Deferred} {ops:Array Oper} {Q:Exit→Act→World→Prop} {L:List Asn} (n:Nat):∀ {rest rest':List Oper} {σ σ':List (Nat×Value)},
    zzW N ops n rest σ=some (rest',σ')→TO F P w0 K N dfs ops Q rest' σ' L→TO F P w0 K N dfs ops Q rest σ L:=by
  induction n with
  | zero=>intro rest rest' σ σ' e h; cases e; exact h
  | succ n ih =>
    intro rest rest' σ σ' e h
    cases rest with
    | nil=>cases e
    | cons o r =>
      simp only [zzW] at e
      split at e
      · exact zn8 (fun _ _ h=>h) (by assumption) (ih e h)
      · cases e
def zyj (deps:List Nat) (σ:List (Nat×Value)) (t:Nat):List (Nat×Nat×Value)→Option Value
  | []=>σ.lookup t
  | (i,t',v)::r=>match Nat.beq t t' with
    | true=>match deps.contains i with
      | true=>some v
      | false=>none
    | false=>zyj deps σ t r
theorem zn9 {D:Nat→Prop} {deps:List Nat} {σ:List (Nat×Value)} (hd:∀ j∈deps,D j) (t:Nat) (v:Value):∀ {vals:List (Nat×Nat×Value)},zyj deps σ t vals=some v→(dl D vals++σ).lookup t=some v
  | [],h=>h
  | (i,t',v')::r,h=>by
    unfold zyj at h
    cases hb:Nat.beq t t' with
    | true =>
      rw [hb] at h; dsimp only at h
      have e:t=t':=Nat.eq_of_beq_eq_true hb
      subst e
      split at h
      · cases h
        have hD:D i:=hd i (by simpa using (by assumption:deps.contains i=true))
        simp only [dl]
        rw [if_pos hD]
        simp
      · cases h
    | false =>
      rw [hb] at h; dsimp only at h
      have ih:=zn9 (σ:=σ) hd t v h
      have hn:(t==t')=false:=by
        have:t≠t':=Nat.ne_of_beq_eq_false hb
        simpa using this
      simp only [dl]
      split
      · simp only [List.cons_append,List.lookup,hn]; exact ih
      · exact ih
def zuU (N:Nat) (ops:Array Oper) (σ:List (Nat×Value)) (vals:List (Nat×Nat×Value)):Nat→List Oper→Nat→Option (List Oper×Nat×List (Nat×Nat×Value))
  | 0,r,i=>some (r,i,[])
  | n+1,o::r,i=>match zyi (fun t=>zyj (zdD o) σ t vals) N ops o with
    | some p=>match zuU N ops σ vals n r (i+1) with
      | some q=>some (q.1,q.2.1,(i,p.1,p.2)::q.2.2)
      | none=>none
    | none=>none
  | _+1,[],_=>none
section
variable {F:Fence} {P:Program} {w0:World} {K:Nat→Prop} {N:Nat} {dfs:List Deferred} {Q:Exit→Act→World→Prop} {σ:List (Nat×Value)} {L:List Asn} {ops:Array Oper}
theorem zjF {vals:List (Nat×Nat×Value)} {n m i i':Nat} {o:Oper} {r rest':List Oper} (e:zuU N ops σ vals (n+1) (o::r) i=some (rest',i',(vals.drop m).take (n+1))) :
    ∃ t v,zyi (fun t=>zyj (zdD o) σ t vals) N ops o=some (t,v)∧vals[m]?=some (i,t,v)∧zuU N ops σ vals n r (i+1)=some (rest',i',(vals.drop (m+1)).take n):=by
  simp only [zuU] at e
  split at e
  · rename_i p hp
    split at e
    · rename_i q hq
      obtain ⟨q1,q2,q3⟩:=q
      simp only [Option.some.injEq,Prod.mk.injEq] at e
      obtain ⟨rfl,rfl,e⟩:=e
      cases hdr:vals.drop m with
      | nil=>rw [hdr] at e; simp at e
      | cons x xs =>
        rw [hdr,List.take_succ_cons,List.cons.injEq] at e
        have hm:vals[m]?=some x:=by
          have:(vals.drop m)[0]?=some x:=by rw [hdr]; rfl
          simpa using this
        refine ⟨p.1,p.2,hp,by rw [hm,← e.1],?_⟩
        have:vals.drop (m+1)=xs:=by rw [← List.drop_drop,hdr]; rfl
        rw [this,← e.2]; exact hq
    · cases e
  · cases e
theorem zyP [WideF F] {vals:List (Nat×Nat×Value)} (n m:Nat):∀ {l rest':List Oper} {i i':Nat},zuU N ops σ vals n l i=some (rest',i',(vals.drop m).take n) →
    DrawPre F P w0 K N dfs Q ops σ L vals rest' i'→DrawPre F P w0 K N dfs Q ops σ L vals l i:=by
  induction n generalizing m with
  | zero=>intro l rest' i i' e h; cases e; exact h
  | succ n ih =>
    intro l rest' i i' e h
    cases l with
    | nil=>cases e
    | cons o r =>
      obtain ⟨t,v,h1,h2,h3⟩:=zjF e
      exact zad (fun D hn hd hcl hu hi=>zn8 (fun t v h=>zn9 hd t v h) h1 (zko m hu hi h2)) (ih (m+1) h3 h)
theorem zyE [WideF F] {vals:List (Nat×Nat×Value)} {x:Nat} (n m:Nat):∀ {l rest':List Oper} {i i':Nat},zuU N ops σ vals n l i=some (rest',i',(vals.drop m).take n) →
    DrawPreX F P w0 K N dfs Q ops σ L vals x rest' i'→DrawPreX F P w0 K N dfs Q ops σ L vals x l i:=by
  induction n generalizing m with
  | zero=>intro l rest' i i' e h; cases e; exact h
  | succ n ih =>
    intro l rest' i i' e h
    cases l with
    | nil=>cases e
    | cons o r =>
      obtain ⟨t,v,h1,h2,h3⟩:=zjF e
      exact zao (fun D hn hd hcl hu hi=>zn8 (fun t v h=>zn9 hd t v h) h1 (zko m hu hi h2)) (ih (m+1) h3 h)
def zyQ {β:Type} (S:List Nat) (LL:(Nat→Prop)→β→List Asn):Prop:=∀ i,S.contains i=false→∀ D b,LL (fun j=>D j∨j=i) b=LL D b
theorem zkr {D:Nat→Prop} {i:Nat} {base:Asn} {r:List (Nat×Asn)} {S:List Nat} (hs:(r.map Prod.fst).all (fun x=>S.contains x)=true) (h:S.contains i=false):eD (fun j=>D j∨j=i) base r=eD D base r:=by
  refine zav ?_
  cases hc:(r.map Prod.fst).contains i with
  | false=>rfl
  | true =>
    have h1:i∈r.map Prod.fst:=by simpa using hc
    have h2:=List.all_eq_true.1 hs i h1
    have h3:S.contains i=true:=h2
    rw [h] at h3; cases h3
theorem zzX {β:Type} {vals:β→List (Nat×Nat×Value)} {LL:(Nat→Prop)→β→List Asn} (hb:¬ Nonempty β):∀ (l:List Oper) (i:Nat),DrawG F P w0 K N dfs Q ops σ vals LL l i
  | [],_=>trivial
  | o::r,i=>⟨fun D b=>absurd ⟨b⟩ hb,zzX hb r (i+1)⟩
theorem zyq {β:Type} {vals:β→List (Nat×Nat×Value)} {LL:(Nat→Prop)→β→List Asn} {S:List Nat} {o:Oper} {rest:List Oper} {i:Nat} (hq:zyQ S LL) (hs:S.contains i=false)
    (hu:∀ b,zdl ((vals b).map (fun p=>p.2.1))=true) (hi:∀ b,zdl ((vals b).map (fun p=>p.1))=true)
    (h:∀ (D:Nat→Prop) (b:β),¬ D i→(∀ j∈zdD o,D j)→Clo ops D→zdl ((vals b).map (fun p=>p.2.1))=true→zdl ((vals b).map (fun p=>p.1))=true →
      TO F P w0 K N dfs ops (Exit.then (fun a w=>At N dfs (dl (fun j=>D j∨j=i) (vals b)++σ) a∧Holds w0 K (LL D b) w) Q) [o] (dl D (vals b)++σ) (LL D b))
    (hr:DrawG F P w0 K N dfs Q ops σ vals LL rest (i+1)):DrawG F P w0 K N dfs Q ops σ vals LL (o::rest) i :=
  zaF (fun D b hn hd hcl a w ha hw=>by
    have h0:=h D b hn hd hcl (hu b) (hi b) a w ha hw
    exact zcu (fun a' w' h2=>⟨b,h2.1,by rw [hq i hs D b]; exact h2.2⟩) h0) hr
theorem zm5 [WideF F] {β:Type} {vals:β→List (Nat×Nat×Value)} {LL:(Nat→Prop)→β→List Asn} {S:List Nat} (hq:zyQ S LL)
    (hu:∀ b,zdl ((vals b).map (fun p=>p.2.1))=true) (hi:∀ b,zdl ((vals b).map (fun p=>p.1))=true) (n m:Nat):∀ {l rest':List Oper} {i i':Nat},
    (∀ b,zuU N ops σ (vals b) n l i=some (rest',i',((vals b).drop m).take n))→(List.range n).all (fun j=>!S.contains (i+j))=true →
    DrawG F P w0 K N dfs Q ops σ vals LL rest' i'→DrawG F P w0 K N dfs Q ops σ vals LL l i:=by
  induction n generalizing m with
  | zero =>
    intro l rest' i i' e hs h
    by_cases hb:Nonempty β
    · obtain ⟨b⟩:=hb
      have e:=e b
      simp only [zuU,Option.some.injEq,Prod.mk.injEq] at e
      obtain ⟨rfl,rfl,_⟩:=e
      exact h
    · exact zzX hb _ _
  | succ n ih =>
    intro l rest' i i' e hs h
    by_cases hb:Nonempty β
    · obtain ⟨b0⟩:=hb
      cases l with
      | nil=>exact absurd (e b0) (by simp [zuU])
      | cons o r =>
        have hs0:S.contains i=false:=by
          have:=List.all_eq_true.1 hs 0 (by simp)
          simpa using this
        have hs1:(List.range n).all (fun j=>!S.contains (i+1+j))=true:=by
          refine List.all_eq_true.2 fun j hj => ?_
          have:=List.all_eq_true.1 hs (j+1) (by simp at hj ⊢; omega)
          rwa [show i+(j+1)=i+1+j by omega] at this
        refine zyq hq hs0 hu hi (fun D b hn hd hcl hu' hi' => ?_) (ih (m+1) (fun b => ?_) hs1 h)
        · obtain ⟨t,v,h1,h2,h3⟩:=zjF (e b)
          exact zn8 (fun t v h=>zn9 hd t v h) h1 (zko m hu' hi' h2)
        · obtain ⟨t,v,h1,h2,h3⟩:=zjF (e b)
          exact h3
    · exact zzX hb _ _
end
section
variable {F:Fence} {P:Program} {w0:World} {K:Nat→Prop} {N:Nat} {dfs:List Deferred} {Q:Exit→Act→World→Prop} {σ:List (Nat×Value)} {L:List Asn} {ops:Array Oper}
theorem zhC {β:Type} {vals:β→List (Nat×Nat×Value)} {LL:(Nat→Prop)→β→List Asn} {S:List Nat} {o:Oper} {rest:List Oper} {i:Nat} (hq:zyQ S LL) (hs:S.contains i=false)
    (hu:∀ b,zdl ((vals b).map (fun p=>p.2.1))=true) (hi:∀ b,zdl ((vals b).map (fun p=>p.1))=true)
    (h:∀ (D:Nat→Prop) (b:β),¬ D i→(∀ j∈zdD o,D j)→Clo ops D→zdl ((vals b).map (fun p=>p.2.1))=true→zdl ((vals b).map (fun p=>p.1))=true→∃ L',LL D b=L' ∧
      TO F P w0 K N dfs ops (Exit.then (fun a w=>At N dfs (dl (fun j=>D j∨j=i) (vals b)++σ) a∧Holds w0 K L' w) Q) [o] (dl D (vals b)++σ) L')
    (hr:DrawG F P w0 K N dfs Q ops σ vals LL rest (i+1)):DrawG F P w0 K N dfs Q ops σ vals LL (o::rest) i :=
  zyq hq hs hu hi (fun D b hn hd hcl hu hi=>by obtain ⟨L',e,h0⟩:=h D b hn hd hcl hu hi; rw [e]; exact h0) hr
end
section
variable {R:Type} {F:Fence} {P:Program} {w0:World} {K:Nat→Prop} {N:Nat} {dfs:List Deferred} {ops:Array Oper} {Q:Exit→Act→World→Prop} {rest:List Oper} {σ:List (Nat×Value)} {L:List Asn} {x:Operand} {c c1 c2:Code} {p q:Option R} {r:R} {b:Bool}
theorem zyB (hc:ev σ x=some (.bool b)) (h:zaB b p q=some r) (ht:p=some r→TC F P w0 K N dfs Q c1 σ L) (hf:q=some r→TC F P w0 K N dfs Q c2 σ L):TC F P w0 K N dfs Q (.cond x c1 c2) σ L:=zbi hc (fun e=>ht (zgT e h)) (fun e=>hf (zgU e h))
theorem zaS [WideF F] {b:BinOp} {t yt ty:TypeId} {d:Nat} {pos:String} {aft:Array Edge} {g:Option (Nat×Bool)} {x y:Operand} {v v1 v2:Value} (e:(gd ops σ g,decide (d<N),ev σ x,ev σ y)=(some true,true,some v1,some v2))
    (hb:∀ w:World,(do eqGuard b t x y v1 v2; binOp b t v1 v2:Sem Value).run P w=.ok v w) (h:TO F P w0 K N dfs ops Q rest ((d,v)::σ) L) :
    TO F P w0 K N dfs ops Q (⟨some d,.binOp b t x y yt,ty,pos,aft,g⟩::rest) σ L:=by
  simp only [Prod.mk.injEq] at e
  exact zb6 e.1 (of_decide_eq_true e.2.1) e.2.2.1 e.2.2.2 hb h
theorem zyN (h:TC F P w0 K N dfs Q c σ L):TO F P w0 K N dfs ops (Exit.then (c.wpIn F 0 P Q) Q) [] σ L:=zaP (zay h)
theorem zyG {id:Nat} {l:List Oper} (h:TO F P w0 K N dfs l.toArray (Exit.then (c.wpIn F 0 P Q) Q) l σ L):TC F P w0 K N dfs Q (.seq (.region id l.toArray false) c) σ L:=zaE (zas h)
theorem zyH {id:Nat} {l:List Oper} (h:TO F P w0 K N dfs l.toArray (Exit.then (c.wpIn F 0 P Q) Q) l σ L):TO F P w0 K N dfs ops (Exit.then ((Code.seq (.region id l.toArray false) c).wpIn F 0 P Q) Q) [] σ L:=zaP (zay (zaE (zas h)))
theorem zyS {s:Nat} (hs:σ.lookup s=some (.bool b)) (h:zaB b p q=some r) (ht:p=some r→TO F P w0 K N dfs ops Q rest ((s,.bool true)::σ) L) (hf:q=some r→TO F P w0 K N dfs ops Q rest ((s,.bool false)::σ) L):TO F P w0 K N dfs ops Q rest σ L:=zeP hs (fun e=>ht (zgT e h)) (fun e=>hf (zgU e h))
theorem zyO (h:zaB b p q=some r) (ht:p=some r→TO F P w0 K N dfs ops Q rest σ L) (hf:q=some r→TO F P w0 K N dfs ops Q rest σ L):TO F P w0 K N dfs ops Q rest σ L:=zeG (b:=b) (fun e=>ht (zgT e h)) (fun e=>hf (zgU e h))
theorem zyC (h:zaB b p q=some r) (ht:p=some r→TC F P w0 K N dfs Q c σ L) (hf:q=some r→TC F P w0 K N dfs Q c σ L):TC F P w0 K N dfs Q c σ L:=zeH (b:=b) (fun e=>ht (zgT e h)) (fun e=>hf (zgU e h))
abbrev zBx (F:Fence) (P:Program) (w0:World) (K:Nat→Prop) (N:Nat) (dfs:List Deferred) (ops:Array Oper) (Q:Exit→Act→World→Prop) (rest:List Oper) (σ:List (Nat×Value)) (L:List Asn):Prop:=TO F P w0 K N dfs ops Q rest σ L
end
abbrev zr0 (x:zaO):List Value:=[zI x.Width,zI x.Height,zI x.Turn,zI x.Every]
abbrev zr1 (x:zax):List Value:=[.string x.Text,zI x.Indent,zI x.Stanza,zI x.In,zI x.Span_From,zI x.Span_To]
abbrev zr2 (x:zaX):List Value:=[zI x.At,zI x.Width,.int .i32 x.Rune,.bool x.Broken]
abbrev zr3 (x:zaH):List Value:=[zI x.Span_From,zI x.Span_To,zI x.Columns]
abbrev zr4 (x:zap):List Value:=[zI x.Line,zI x.Stanza,zI x.Part,zI x.Indent,zI x.Number,.string x.Text]
abbrev zr5 (x:zaw):List Value:=[zI x.cost,zI x.rows,zI x.to_]
abbrev zr6 (x:zbS):List Value:=[zI x.Err,zI x.At]
abbrev zr7 (x:Gapi_Span):List Value:=[zI x.From,zI x.To]
abbrev zv0 (v:Value):=vec (zlp (.i64)) 3 1 v
abbrev zv1 (v:Value):=vec zb9 43 6 v
abbrev zv2 (v:Value):=vec zkv 9 1 v
abbrev zv3 (v:Value):=vec zfr 158 3 v
abbrev zv4 (v:Value):=vec zeh 132 4 v
abbrev zv5 (v:Value):=vec ze0 130 5 v
abbrev zv6 (v:Value):=vec (zlp (.i32)) 21 1 v
abbrev zv7 (v:Value):=vec zeZ 50 6 v
abbrev zv8 (v:Value):=vec zfq 48 2 v
abbrev zv9 (v:Value):=vec zjn 137 3 v
abbrev zuP (v:Value):=vec zbw 176 5 v
abbrev zA9 (v:Value):=vec za9 38 1 v
def zf2 (r1:Int):Option Int := zbE (fun (j1:Option Int) => zaB ((r1:Int) != 65533) ( zaB (decide (Utf8.encode r1=(⟨#[239,191,189]⟩:zBA))) ( some 0
) ( j1
)
) ( j1
)
) ( some ((Utf8.encode r1).size:Int)
)
theorem znf {r1:Int} {r:Int} (h:zf2 r1=some r):FnP prog 68 [.int .i32 r1] (zI r):=by
 unfold zf2 at h
 refine FnP.intro func68 rfl ntmps68 (by simp) ?_
 intro w0 K
 obtain ⟨j1,hj1,h⟩:=zbT h
 refine za8 (β:=Unit) 1 rfl (fun b=>j1=some r) (fun b=>[]) (fun b=>[(0,.int .i32 r1)]) (fun b=>[]) (fun cut => ?_) ?_
 ·
  refine zyG (zyR 1 rfl (zyN (cut (zyG (zyR 1 rfl (zaS rfl zbH (zyR 1 rfl ?_)))))))
  refine zyS (s:=5) rfl h (fun h => ?_) (fun h => ?_)
  ·
   refine zyR 1 rfl (zgs rfl dc rfl (zfg underlying21 underlying9) (zaS rfl zhv (zyR 1 rfl (zyN ?_))))
   refine zyB rfl h (fun h => ?_) (fun h => ?_)
   ·
    refine zyG (zyR 1 rfl (zyN (zau (zaf ?_))))
    cases h
    exact za2 2 results68
   refine zal ?_
   exact zak () h rfl (zbf rfl) Splits.nil
  refine zyR 4 rfl (zyN (zaM rfl (zal ?_)))
  exact zak () h rfl (zbf rfl) Splits.nil
 rintro _ h
 rw [hj1] at h
 refine zyG (zyR 1 rfl (zgs rfl dc rfl (zfg underlying21 underlying9) (zbC rfl dc rfl underlying9 (zyR 1 rfl (zyN (zau ?_))))))
 cases h
 exact za2 2 results68
def zfk (s1:zBA) (at1:Int) (j1:Option zaX) (ag1:Option zaX):Option zaX := zaB (decide (0<(pcs (zdR s1 at1 (s1.size:Int)).data.toList).length)) ( zan ((pcs (zdR s1 at1 (s1.size:Int)).data.toList)[0]?) fun (p1:Pc) => zbE (fun (j2:Int→Option zaX) => zan (zf2 (p1.r:Int)) fun (r1:Int) => zaB (((p1.r:Int):Int)==65533) ( grd (I64 ((s1.size:Int) - at1)) <| zaB (decide ((((s1.size:Int) - at1):Int)<3)) ( some (⟨at1,1,65533,true⟩:zaX)
) ( grd (I64 (at1+3)) <| grd (0≤(at1:Int)∧(at1:Int)≤(at1+3)∧(at1+3:Int)≤(s1.size:Int)) <| zaB (!decide (zdR s1 at1 (at1+3)=(⟨#[239,191,189]⟩:zBA))) ( some (⟨at1,1,65533,true⟩:zaX)
) ( j2 r1
)
)
) ( j2 r1
)
) (fun (n2:Int) => some (⟨at1,n2,(p1.r:Int),false⟩:zaX)
)
) ( j1
)
def ze8 (s1:zBA) (at1:Int):Option zaX := zbE (fun (j1:Option zaX) => grd (0≤(at1:Int)∧(at1:Int)≤(s1.size:Int)∧((s1.size:Int):Int)≤(s1.size:Int)) <| za1 none (zfk s1 at1 j1) zcD
) ( some (⟨0,0,0,false⟩:zaX)
)
theorem zjN {s1:zBA} {at1:Int} {r:zaX} (h:ze8 s1 at1=some r):FnP prog 44 [.string s1,zI at1] (.agg (zr2 r).toArray):=by
 unfold ze8 at h
 refine FnP.intro func44 rfl ntmps44 (by simp) ?_
 intro w0 K
 obtain ⟨j1,hj1,h⟩:=zbT h
 refine za8 (β:=Nat) 1 rfl (fun b=>j1=some r) (fun b=>[]) (fun b=>[(4,zP b)]) (fun b=>[cells b [zI 0,zI 0,.int .i32 0,.bool false] 60]) (fun cut => ?_) ?_
 ·
  refine zyG ?_
  refine zbh zlt rfl dc (fun b2 => ?_)
  refine zyN (cut (zyG (zyR 2 rfl ?_)))
  obtain ⟨hg1,h⟩:=zbQ h
  refine zdA rfl dc rfl rfl rfl (zcX (i:=at1) (j:=(s1.size:Int)) underlying9 (.inr rfl) (.inl ⟨rfl,rfl⟩) hg1) ?_
  refine zc9 underlying9 rfl dc rfl (fun b3 => ?_)
  refine zyN (zaG ?_)
  refine zbP (β:=Nat) (fun b=>za1 none (zfk s1 at1 j1) b=some r) (fun b=>[]) (fun b=>[(0,.string s1),(1,zI at1),(4,zP b2),(11,zP b3)]) (fun b=>[cells b2 [zI 0,zI 0,.int .i32 0,.bool false] 60,obj b3 (.stringIter (zdR s1 at1 (s1.size:Int)) (zfl (zdR s1 at1 (s1.size:Int)) 0))]) (fun b=>b) zcD h rfl (zbf rfl) (zab [0,1] kr rfl) ?_
  rintro n1 h
  cases n1 with
  | zero=>exact zdO h
  | succ n1 =>
   obtain ⟨ag1,hag1⟩:∃ ag,ag=za1 none (zfk s1 at1 j1) n1:=⟨_,rfl⟩
   have h:zfk s1 at1 j1 ag1=some r:=by rw [hag1]; exact h
   unfold zfk at h
   refine zyG ?_
   refine zeG (b:=decide (0<(pcs (zdR s1 at1 (s1.size:Int)).data.toList).length)) (fun hb1 => ?_) (fun hb1 => ?_)
   ·
    have h:=zgT hb1 h
    obtain ⟨p1,hq1,h⟩:=zbL h
    refine zdy (k:=1) (m:=0) (p:=p1) rfl dc rfl rfl hq1 (zaN rfl dc rfl rfl (zyN (zaE (zba rfl (zal (zay (zaG ?_)))))))
    obtain ⟨j2,hj2,h⟩:=zbT h
    refine za8 (β:=Int) 2 rfl (fun b=>j2 b=some r) (fun b=>[]) (fun b=>[(1,zI at1),(4,zP b2),(6,.int .i32 (p1.r:Int)),(7,zI b)]) (fun b=>[cells b2 [zI 0,zI 0,.int .i32 0,.bool false] 60]) (fun cut => ?_) ?_
    ·
     refine zyG (zaN rfl dc rfl rfl (zyR 1 rfl (zyH (zyR 1 rfl ?_))))
     obtain ⟨r1,hq2,h⟩:=zbL h
     refine zbg (v:=zI r1) (vs:=[.int .i32 (p1.r:Int)]) rfl dc rfl rfl rfl zua (znf hq2) (zyR 1 rfl (zyN (cut (zyG (zyR 1 rfl (zaS rfl zaL (zyR 1 rfl ?_)))))))
     refine zyS (s:=19) rfl h (fun h => ?_) (fun h => ?_)
     ·
      refine zyR 1 rfl (zbC rfl dc rfl underlying9 (zyR 1 rfl ?_))
      obtain ⟨hg2,h⟩:=zbQ h
      refine zaS rfl (zce (r:=(s1.size:Int) - at1) (IntWalk.i64_in _ hg2)) (zaS rfl zbF (zyR 1 rfl ?_))
      refine zyS (s:=25) rfl h (fun h => ?_) (fun h => ?_)
      ·
       refine zyR 8 rfl (zyN (zba rfl (zyG (zyR 1 rfl ?_))))
       refine zbA (v:=.agg #[zI at1,zI 1,.int .i32 65533,.bool true]) (ps:=[(0,.tmp 34),(1,.const (zI 1)),(2,.const (.int .i32 65533)),(3,.const (.bool true))]) rfl dc rfl (fun _=>by kernel_rfl) ?_
       refine zaZ (k:=0) (vs:=[zI at1,zI 1,.int .i32 65533,.bool true]) (l':=[zI at1,zI 1,.int .i32 65533,.bool true]) zhE rfl rfl rfl rfl rfl (show _≤_ by simp) rfl rfl ?_
       refine zyN (zau (zaf (zag (zaf (zag (zaf ?_))))))
       cases h
       exact zbt (rs:=[.cell 4 60]) () (.inl rfl) results44 (.cons (.cells zfN (k:=0) rfl rfl rfl) .nil) rfl Splits.nil
      refine zyR 3 rfl ?_
      obtain ⟨hg3,h⟩:=zbQ h
      refine zaS rfl (zbb (r:=at1+3) (IntWalk.i64_in _ hg3)) ?_
      obtain ⟨hg4,h⟩:=zbQ h
      refine zdA rfl dc rfl rfl rfl (zcX (i:=at1) (j:=at1+3) underlying9 (.inr rfl) (.inr rfl) hg4) (zaS rfl zgW (zyR 2 rfl (zyN ?_)))
      refine zyB rfl h (fun h => ?_) (fun h => ?_)
      ·
       refine zyG (zyR 1 rfl ?_)
       refine zbA (v:=.agg #[zI at1,zI 1,.int .i32 65533,.bool true]) (ps:=[(0,.tmp 34),(1,.const (zI 1)),(2,.const (.int .i32 65533)),(3,.const (.bool true))]) rfl dc rfl (fun _=>by kernel_rfl) ?_
       refine zaZ (k:=0) (vs:=[zI at1,zI 1,.int .i32 65533,.bool true]) (l':=[zI at1,zI 1,.int .i32 65533,.bool true]) zhE rfl rfl rfl rfl rfl (show _≤_ by simp) rfl rfl ?_
       refine zyN (zau (zaf (zag (zaf (zag (zaf ?_))))))
       cases h
       exact zbt (rs:=[.cell 4 60]) () (.inl rfl) results44 (.cons (.cells zfN (k:=0) rfl rfl rfl) .nil) rfl Splits.nil
      refine zal ?_
      exact zak r1 h rfl (zbf rfl) (zab [0] kr rfl)
     refine zyR 14 rfl ?_
     refine zyN (zaM rfl (zal ?_))
     exact zak r1 h rfl (zbf rfl) (zab [0] kr rfl)
    rintro n2 h
    rw [hj2] at h
    refine zyG (zyR 3 rfl ?_)
    refine zbA (v:=.agg #[zI at1,zI n2,.int .i32 (p1.r:Int),.bool false]) (ps:=[(0,.tmp 36),(1,.tmp 37),(2,.tmp 38)]) rfl dc rfl (fun _=>by kernel_rfl) ?_
    refine zaZ (k:=0) (vs:=[zI at1,zI n2,.int .i32 (p1.r:Int),.bool false]) (l':=[zI at1,zI n2,.int .i32 (p1.r:Int),.bool false]) zhE rfl rfl rfl rfl rfl (show _≤_ by simp) rfl rfl (zyN (zau (zag (zaf (zag (zaf ?_))))))
    cases h
    exact zbt (rs:=[.cell 4 60]) () (.inl rfl) results44 (.cons (.cells zfN (k:=0) rfl rfl rfl) .nil) rfl Splits.nil
   have h:=zgU hb1 h
   refine zeF (k:=1) (m:=0) rfl dc rfl rfl (Nat.le_of_not_lt (of_decide_eq_false hb1)) (zaN rfl dc rfl rfl (zyN (zaE (zaM rfl (zbu (zaq (zaq (zaJ ?_))))))))
   exact zak b2 h rfl (zbf rfl) (zab [0] kr rfl)
 rintro b1 h
 rw [hj1] at h
 refine zyG ?_
 refine zbA (v:=.agg #[zI 0,zI 0,.int .i32 0,.bool false]) (ps:=[]) rfl dc rfl (fun _=>by kernel_rfl) ?_
 refine zaZ (k:=0) (vs:=[zI 0,zI 0,.int .i32 0,.bool false]) (l':=[zI 0,zI 0,.int .i32 0,.bool false]) zhE rfl rfl rfl rfl rfl (show _≤_ by simp) rfl rfl (zyN (zau ?_))
 cases h
 exact zbt (rs:=[.cell 4 60]) () (.inl rfl) results44 (.cons (.cells zfN (k:=0) rfl rfl rfl) .nil) rfl Splits.nil
def zda (c0:zBA) (ag1:Nat→Option (List zaX)) (m3:Nat):Option (List zaX) := zaB (decide (m3<(pcs c0.data.toList).length)) ( zan ((pcs c0.data.toList)[m3]?) fun (p1:Pc) => zan (ze8 c0 (p1.i:Int)) fun (r1:zaX) => zih r1 <| ag1 (m3+1)
) ( some []
)
def zdJ (c0:zBA):Option (List zaX) := za1 (fun _=>none) (zda c0) zcD 0
theorem zf3 {b_c0:Nat} {c0:zBA} {xs:(List zaX)} (h:zdJ c0=some xs):Itr prog 67 [zP b_c0] (fun q:zaX=>[.agg (zr2 q).toArray]) xs [(b_c0,.cells #[.string c0] 9 (0,0))]:=by
 unfold zdJ at h
 refine Itr.intro func67 rfl ntmps67 (by simp) ?_
 intro l w0 K I X hRo hy
 obtain ⟨r0,hx0⟩:∃ r,xs=[]++r:=⟨xs,rfl⟩
 have hr0:xs=r0:=hx0
 rw [hr0] at h
 refine zyG (zgF (i:=0) hRo zhk rfl dc rfl rfl rfl ?_)
 refine zc9 underlying9 rfl dc rfl (fun b1 => ?_)
 refine zyN (zaG ?_)
 refine zbP (β:=Nat×Nat×(List zaX)×(List zaX)) (fun b=>za1 (fun _=>none) (zda c0) b.1 b.2.1=some b.2.2.2∧xs=b.2.2.1++b.2.2.2) (fun b=>[]) (fun b=>[(0,.func (.yield l) #[] #[]),(1,zP b_c0),(5,zP b1)]) (fun b=>[I b.2.2.1,obj b1 (.stringIter c0 (zfl c0 b.2.1))]) (fun b=>b.1) (zcD,0,([]:List zaX),r0) ⟨h,hx0⟩ rfl (zbf rfl) (zab [0,1] kr rfl) ?_
 rintro ⟨n1,m3,acc3,rr3⟩ ⟨h,hx3⟩
 cases n1 with
 | zero=>exact zdO h
 | succ n1 =>
  obtain ⟨ag1,hag1⟩:∃ ag,ag=za1 (fun _=>none) (zda c0) n1:=⟨_,rfl⟩
  have h:zda c0 ag1 m3=some rr3:=by rw [hag1]; exact h
  unfold zda at h
  refine zyG ?_
  refine zeG (b:=decide (m3<(pcs c0.data.toList).length)) (fun hb1 => ?_) (fun hb1 => ?_)
  ·
   have h:=zgT hb1 h
   obtain ⟨p1,hq1,h⟩:=zbL h
   refine zdy (k:=1) (m:=m3) (p:=p1) rfl dc rfl rfl hq1 (zaN rfl dc rfl rfl (zyN (zaE (zba rfl (zal (zay (zaG (zyG (zaN rfl dc rfl rfl (zyR 1 rfl (zaP ?_)))))))))))
   refine zay (zyG (zyR 1 rfl (zgF (i:=0) hRo zhk rfl dc rfl rfl rfl (zyR 1 rfl ?_))))
   obtain ⟨r1,hq2,h⟩:=zbL h
   refine zbg (v:=.agg (zr2 r1).toArray) (vs:=[.string c0,zI (p1.i:Int)]) rfl dc rfl rfl rfl zxH (zjN hq2) ?_
   obtain ⟨rr4,hr1,h⟩:=zlE h
   have hx4:xs=acc3++r1::rr4:=by rw [hx3,hr1]
   refine zdm hy rfl dc rfl hx4 rfl (k:=0) rfl ?_ ?_
   ·
    have hx5:xs=(acc3++[r1])++rr4:=by rw [hx4]; simp
    refine zdt rfl dc rfl zct (zyN (zaM rfl (zal (zae ?_))))
    subst hag1
    exact zbr (n1,m3+1,acc3++[r1],rr4) ⟨h,hx5⟩ (Nat.lt_succ_self _) rfl (zbf rfl) (zab [0,1] kr rfl)
   refine zdt rfl dc rfl zct (zyN (zba rfl (zau (zag (zaf (zag ?_))))))
   exact zhg (ds:=[]) acc3 r1 rr4 hx4 (.inl rfl) Splits.nil results67 (zab [0] kr rfl)
  have h:=zgU hb1 h
  refine zeF (k:=1) (m:=m3) rfl dc rfl rfl (Nat.le_of_not_lt (of_decide_eq_false hb1)) (zaN rfl dc rfl rfl (zyN (zaE (zaM rfl (zbu (zaq (zaq (zaJ ?_))))))))
  cases h
  exact zhA (ds:=[]) (.inr rfl) Splits.nil results67 (congrArg I (hx3.trans (List.append_nil _))) (zab [0] kr rfl)
def zfC (s1:zBA):Option zBA := some s1
theorem zg3 {s1:zBA} {r:zBA} (h:zfC s1=some r):Fn prog 43 [.string s1] [] (fun v0:Nat=>.func (.func 67) #[] #[zP v0]) (fun v0=>[cells v0 [.string r] 9]):=by
 unfold zfC at h
 refine Fn.intro func43 rfl ntmps43 (by simp) ?_
 intro w0 K
 refine zyG ?_
 refine zdi rfl dc rfl (fun b1 => ?_)
 refine zyR 1 rfl (zyH (zfU (x1:=[]) (x2:=[.tmp 1]) rfl dc rfl rfl (zyR 1 rfl (zyN (zau ?_)))))
 cases h
 exact zbt (rs:=[.tmp 2]) b1 (.inl rfl) results43 (.cons (.tmp rfl) .nil) rfl (zab [0] kr rfl)
end Go.Proofs.YtmmhmppcemfdcaaGreatDoor


namespace Go.Proofs.YtmmhmppcemfdcaaGreatDoor
open Go.RowKit Go.Lib
open Tryz
set_option linter.unusedVariables false
set_option linter.unusedSimpArgs false
theorem zt9 (r:Int) (hv:0≤r∧(r<55296∨(57343<r∧r≤1114111))) (hr:¬ r=65533):¬ Utf8.encode r=⟨#[239,191,189]⟩:=by
 intro h
 obtain ⟨n,rfl⟩:=Int.eq_ofNat_of_zero_le hv.1
 have h1:encodeRune ((n:Nat):Int)=[239,191,189]:=by rw [← zh0,h]
 have h2:=zoM n (by omega) []
 have h3:=zoM 65533 (by omega) []
 rw [h1] at h2
 rw [zoK] at h3
 rw [h2] at h3
 have:=(Prod.mk.inj h3).1
 omega
theorem zw2 (r:Int) (hv:vr r):zf2 r=some ((Utf8.encode r).size:Int):=by
 unfold zf2
 refine zcj ?_
 by_cases h:r=65533
 ·exact zaK (bne_eq_false_iff_eq.2 h) rfl
 ·exact zaR (bne_iff_ne.2 h) (zaK (decide_eq_false (zt9 r (by unfold vr at hv; omega) h)) rfl)
theorem zz9 (s:zBA) (a:Nat) (ha:a<s.size) (hsz:s.size≤9223372036854775000):ze8 s (a:Int)=some (pcG ⟨a,(decodeL (s.data.toList.drop a)).2,(decodeL (s.data.toList.drop a)).1⟩):=by
 unfold ze8
 obtain ⟨F,hF,_⟩:=zqy 1 (by omega)
 rw [hF]
 refine zcj (zcm ⟨by omega,by omega,by omega⟩ ?_)
 rw [zen]
 generalize za1 _ _ F=ag
 unfold zfk
 have hne:s.data.toList.drop a≠[]:=by
  intro h; have:=congrArg List.length h; simp at this; omega
 have hok:=zuj _ hne
 have hlen:(s.data.toList.drop a).length=s.size - a:=by simp
 have hle:=hok.le
 have e:(zdR s (a:Int) (s.size:Int)).data.toList=s.data.toList.drop a:=by unfold zdR; exact zt6 s a
 have hp:pcs (zdR s (a:Int) (s.size:Int)).data.toList=⟨0,(decodeL (s.data.toList.drop a)).2,(decodeL (s.data.toList.drop a)).1⟩::zdS (0+(decodeL (s.data.toList.drop a)).2) ((s.data.toList.drop a).drop (decodeL (s.data.toList.drop a)).2):=by
  rw [e]; unfold pcs; rw [zcU _ _ hne]
 have hvr:vr ((decodeL (s.data.toList.drop a)).1:Int):=by have:=hok.valid; unfold vr; omega
 refine zaR (decide_eq_true (by rw [hp]; simp)) (za7 (by rw [hp]; rfl) (zcj (za7 (zw2 _ hvr) ?_)))
 simp only
 unfold pcG Pc.broken
 have hw:=hok.width
 have hl3:=hok.lost_ok
 have hl1:=hok.lost_bad
 generalize decodeL (s.data.toList.drop a)=d at *
 rcases d with ⟨r,w⟩
 simp only at *
 by_cases hr:r=65533
 ·subst hr
  refine zaR (by decide) (zcm ⟨by omega,by omega⟩ ?_)
  by_cases h3:(s.size:Int) - a<3
  ·refine zaR (decide_eq_true h3) ?_
   have hw1:w=1:=by
    by_cases hw1:w=1
    ·exact hw1
    ·have:=(hl3 rfl hw1).2; omega
   subst hw1; rfl
  ·have e3:=zgD s a 3
   refine zaK (decide_eq_false h3) (zcm ⟨by omega,by omega⟩ (zcm ⟨by omega,by omega,by omega⟩ ?_))
   by_cases hw1:w=1
   ·refine zaR ?_ (by subst hw1; rfl)
    rw [decide_eq_false]
    ·rfl
    ·intro h
     exact hl1 rfl hw1 (by rw [← e3]; exact congrArg (fun b:zBA=>b.data.toList) h)
   ·obtain ⟨h4,h5⟩:=hl3 rfl hw1
    refine zaK ?_ ?_
    ·rw [decide_eq_true]
     ·rfl
     ·apply ByteArray.ext; apply Array.toList_inj.1; rw [show ((a:Int)+3)=(a:Int)+(3:Nat) from rfl,e3,h4]
    ·rw [zhc,hw (by omega)]
     subst h5; rfl
 ·refine zaK (by rw [beq_eq_false_iff_ne]; omega) ?_
  rw [zhc,hw (by omega)]
  have:(r==65533&&w==1)=false:=by simp [hr]
  rw [this]
theorem zxb (s:zBA) (hs:s.size≤2147483648):zdJ s=some ((pcs s.data.toList).map pcG):=by
 unfold zdJ
 have hc:(pcs s.data.toList).length≤s.size:=by have:=zqh s; unfold zop at this; simpa using this
 have key:∀ (n k:Nat),k≤(pcs s.data.toList).length→(pcs s.data.toList).length - k<n→za1 (fun _=>none) (zda s) n k=some (((pcs s.data.toList).drop k).map pcG):=by
  intro n
  induction n with
  | zero=>intro k _ h; omega
  | succ n ih =>
   intro k hk hn
   rw [zen]
   generalize za1 (fun _=>none) (zda s) n=ag at ih ⊢
   unfold zda
   by_cases h:k<(pcs s.data.toList).length
   ·have hx:(pcs s.data.toList)[k]?=some (pcs s.data.toList)[k]:=List.getElem?_eq_getElem h
    have hm:=List.mem_of_getElem? hx
    generalize (pcs s.data.toList)[k]=p at hx hm
    obtain ⟨g1,g2,hok⟩:=ziA s.data.toList p hm
    have hlen:s.data.toList.length=s.size:=by rw [Array.length_toList]; rfl
    have hw:=hok.pos
    have hr:ze8 s (p.i:Int)=some (pcG p):=by
     have:=zz9 s p.i (by omega) (by omega)
     rw [this]
     have he:=hok.eq
     rw [he]
    refine zaR (decide_eq_true h) (za7 hx (za7 hr ?_))
    rw [ih (k+1) (by omega) (by omega)]
    have hd:(pcs s.data.toList).drop k=p::(pcs s.data.toList).drop (k+1):=by
     obtain ⟨hlt,he⟩:=List.getElem?_eq_some_iff.1 hx
     rw [← he]; exact List.drop_eq_getElem_cons hlt
    rw [hd]; rfl
   ·have:k=(pcs s.data.toList).length:=by omega
    subst this
    exact zaK (decide_eq_false (by omega)) (by rw [List.drop_length]; rfl)
 have:=key zcD 0 (Nat.zero_le _) (by unfold zcD; omega)
 simpa using this
abbrev zLit0:zBA:=⟨#[225,132,128,225,133,159,226,186,128,227,128,190,227,129,129,228,182,191,228,184,128,234,147,143,234,176,128,237,158,163,239,164,128,239,171,191,239,184,176,239,185,175,239,188,128,239,189,160,239,191,160,239,191,166,240,159,140,128,240,159,153,143,240,159,164,128,240,159,167,191,240,160,128,128,240,191,191,189]⟩
def zdE (r1:Int) (j1:Option Bool) (ag1:Bool→Nat→Option Bool) (within3:Bool) (m3:Nat):Option Bool := zaB (decide (m3<(pcs zLit0.data.toList).length)) ( zan ((pcs zLit0.data.toList)[m3]?) fun (p1:Pc) => zbE (fun (j2:Bool→Bool→Option Bool) => zaB (!within3) ( zaB (decide ((r1:Int)<(p1.r:Int))) ( some within3
) ( zaB (within3) ( zaB (decide ((r1:Int)≤(p1.r:Int))) ( some within3
) ( j2 true (decide ((r1:Int)≤(p1.r:Int)))
)
) ( j2 false false
)
)
) ( zaB (within3) ( zaB (decide ((r1:Int)≤(p1.r:Int))) ( some within3
) ( j2 true (decide ((r1:Int)≤(p1.r:Int)))
)
) ( j2 false false
)
)
) (fun (x1:Bool) (x2:Bool) => ag1 (!within3) (m3+1)
)
) ( j1
)
def ze1 (r1:Int):Option Bool := zbE (fun (j1:Option Bool) => za1 (fun _ _=>none) (zdE r1 j1) zcD false 0
) ( some false
)
theorem zmP {r1:Int} {r:Bool} (h:ze1 r1=some r):FnP prog 120 [.int .i32 r1] (.bool r):=by
 unfold ze1 at h
 refine FnP.intro func120 rfl ntmps120 (by simp) ?_
 intro w0 K
 obtain ⟨j1,hj1,h⟩:=zbT h
 refine za8 (β:=Unit) 2 rfl (fun b=>j1=some r) (fun b=>[]) (fun b=>[]) (fun b=>[]) (fun cut => ?_) ?_
 ·
  refine zyG (zyR 1 rfl (zyH (zyR 1 rfl (zyN (cut (zyG ?_))))))
  refine zc9 underlying9 rfl dc rfl (fun b1 => ?_)
  refine zyN (zaG ?_)
  refine zbP (β:=Nat×Bool×Nat) (fun b=>za1 (fun _ _=>none) (zdE r1 j1) b.1 b.2.1 b.2.2=some r) (fun b=>[]) (fun b=>[(0,.int .i32 r1),(3,.bool b.2.1),(6,zP b1)]) (fun b=>[obj b1 (.stringIter zLit0 (zfl zLit0 b.2.2))]) (fun b=>b.1) (zcD,false,0) (by exact h) rfl (zbf rfl) (zab [0] kr rfl) ?_
  rintro ⟨n1,within3,m3⟩ h
  cases n1 with
  | zero=>exact zdO h
  | succ n1 =>
   obtain ⟨ag1,hag1⟩:∃ ag,ag=za1 (fun _ _=>none) (zdE r1 j1) n1:=⟨_,rfl⟩
   have h:zdE r1 j1 ag1 within3 m3=some r:=by rw [hag1]; exact h
   unfold zdE at h
   refine zyG ?_
   refine zeG (b:=decide (m3<(pcs zLit0.data.toList).length)) (fun hb1 => ?_) (fun hb1 => ?_)
   ·
    have h:=zgT hb1 h
    obtain ⟨p1,hq1,h⟩:=zbL h
    refine zdy (k:=0) (m:=m3) (p:=p1) rfl dc rfl rfl hq1 (zaN rfl dc rfl rfl (zyN (zaE (zba rfl (zal (zay (zaG ?_)))))))
    obtain ⟨j2,hj2,h⟩:=zbT h
    refine za8 (β:=Bool×Bool) 1 rfl (fun b=>j2 b.1 b.2=some r) (fun b=>[]) (fun b=>[(0,.int .i32 r1),(3,.bool within3),(6,zP b1),(18,.bool within3),(19,.bool b.1),(23,.bool b.2)]) (fun b=>[obj b1 (.stringIter zLit0 (zfl zLit0 (m3+1)))]) (fun cut => ?_) ?_
    ·
     refine zyG (zaN rfl dc rfl rfl (zyR 1 rfl (zyN (cut (zyG (zyR 1 rfl (zdt rfl dc rfl zct (zyR 1 rfl ?_))))))))
     refine zyS (s:=12) rfl h (fun h => ?_) (fun h => ?_)
     ·
      refine zyR 2 rfl (zaS rfl zbF (zyR 2 rfl ?_))
      refine zyS (s:=17) rfl h (fun h => ?_) (fun h => ?_)
      ·
       refine zyR 7 rfl (zyN (zba rfl (zyG (zyR 2 rfl ?_))))
       refine zyN (zau (zaf (zag (zaf (zag (zaf ?_))))))
       cases h
       exact za2 2 results120
      refine zyR 2 rfl ?_
      refine zyS (s:=19) rfl h (fun h => ?_) (fun h => ?_)
      ·
       refine zyR 2 rfl (zaS rfl zbM (zyR 2 rfl (zyN ?_)))
       refine zyB rfl h (fun h => ?_) (fun h => ?_)
       ·
        refine zyG (zyR 2 rfl (zyN (zau (zaf (zag (zaf (zag (zaf ?_))))))))
        cases h
        exact za2 2 results120
       refine zal ?_
       exact zak (true,decide ((r1:Int)≤(p1.r:Int))) h rfl (zbf rfl) (zab [0] kr rfl)
      refine zyR 5 rfl (zyN (zaM rfl (zal ?_)))
      exact zak (false,false) h rfl (zbf rfl) (zab [0] kr rfl)
     refine zyR 7 rfl ?_
     refine zyS (s:=19) rfl h (fun h => ?_) (fun h => ?_)
     ·
      refine zyR 2 rfl (zaS rfl zbM (zyR 2 rfl (zyN ?_)))
      refine zyB rfl h (fun h => ?_) (fun h => ?_)
      ·
       refine zyG (zyR 2 rfl (zyN (zau (zaf (zag (zaf (zag (zaf ?_))))))))
       cases h
       exact za2 2 results120
      refine zal ?_
      exact zak (true,decide ((r1:Int)≤(p1.r:Int))) h rfl (zbf rfl) (zab [0] kr rfl)
     refine zyR 5 rfl (zyN (zaM rfl (zal ?_)))
     exact zak (false,false) h rfl (zbf rfl) (zab [0] kr rfl)
    rintro ⟨x1,x2⟩ h
    rw [hj2] at h
    refine zas (zyR 1 rfl (zdt rfl dc rfl zct (zyR 1 rfl (zaP (zae ?_)))))
    subst hag1
    exact zbr (n1,!within3,m3+1) h (Nat.lt_succ_self _) rfl (zbf rfl) (zab [0] kr rfl)
   have h:=zgU hb1 h
   refine zeF (k:=0) (m:=m3) rfl dc rfl rfl (Nat.le_of_not_lt (of_decide_eq_false hb1)) (zaN rfl dc rfl rfl (zyN (zaE (zaM rfl (zbu (zaq (zaq (zaJ ?_))))))))
   exact zak () h rfl (ziU) Splits.nil
 rintro _ h
 rw [hj1] at h
 refine zyG (zyR 1 rfl (zyN (zau ?_)))
 cases h
 exact za2 2 results120
def zca (p1:zaX):Option Int := grd (I32 p1.Rune) <| zaB (((zd2 p1.Broken p1.Rune):Int)==11) ( some 1
) ( zbE (fun (j1:Bool→Option Int) => zaB (((zd2 p1.Broken p1.Rune):Int)==2) ( j1 (((zd2 p1.Broken p1.Rune):Int)==2)
) ( zaB (((zd2 p1.Broken p1.Rune):Int)==4) ( j1 (((zd2 p1.Broken p1.Rune):Int)==4)
) ( j1 (((zd2 p1.Broken p1.Rune):Int)==9)
)
)
) (fun (x1:Bool) => zaB (x1) ( some 0
) ( zan (ze1 p1.Rune) fun (r1:Bool) => zaB (r1) ( some 2
) ( some 1
)
)
)
)
theorem zgb {p1:zaX} {r:Int} (h:zca p1=some r):FnP prog 110 [.agg (zr2 p1).toArray] (zI r):=by
 unfold zca at h
 refine FnP.intro func110 rfl ntmps110 (by simp) ?_
 intro w0 K
 refine zyG ?_
 refine zdi rfl dc rfl (fun b1 => ?_)
 refine zyR 1 rfl (zyN (zaE (zyG (zaV (k:=0) (cs:=(zr2 p1)) zfN rfl dc rfl rfl rfl rfl ?_))))
 obtain ⟨hg1,h⟩:=zbQ h
 refine zbg (v:=zI (zd2 p1.Broken p1.Rune)) (vs:=[.agg (zr2 p1).toArray]) rfl dc rfl rfl rfl zpy (zwo p1.At p1.Width p1.Rune p1.Broken hg1.1 hg1.2) (zyN (zaG (zyG (zaS rfl zaL (zyR 1 rfl (zyN ?_))))))
 refine zyB rfl h (fun h => ?_) (fun h => ?_)
 ·
  refine zyG (zyR 1 rfl (zyN (zau (zag (zaf ?_)))))
  cases h
  exact za2 2 results110
 obtain ⟨j1,hj1,h⟩:=zbT h
 refine za8 (β:=Bool) 0 rfl (fun b=>j1 b=some r) (fun b=>[]) (fun b=>[(1,zP b1),(7,.bool b)]) (fun b=>[cells b1 (zr2 p1) 60]) (fun cut => ?_) ?_
 ·
  refine cut (zyG (zaS rfl zaL (zyR 1 rfl (zyN ?_))))
  refine zyB rfl h (fun h => ?_) (fun h => ?_)
  ·
   refine zal ?_
   exact zak (((zd2 p1.Broken p1.Rune):Int)==2) h rfl (zbf rfl) (zab [0] kr rfl)
  refine zyG (zaS rfl zaL (zyR 1 rfl (zyN ?_)))
  refine zyB rfl h (fun h => ?_) (fun h => ?_)
  ·
   refine zal ?_
   exact zak (((zd2 p1.Broken p1.Rune):Int)==4) h rfl (zbf rfl) (zab [0] kr rfl)
  refine zas (zaS rfl zaL (zyR 1 rfl (zaP ?_)))
  exact zak (((zd2 p1.Broken p1.Rune):Int)==9) h rfl (zbf rfl) (zab [0] kr rfl)
 rintro x1 h
 rw [hj1] at h
 refine zyB rfl h (fun h => ?_) (fun h => ?_)
 ·
  refine zyG (zyR 1 rfl (zyN (zau (zag (zaf ?_)))))
  cases h
  exact za2 2 results110
 refine zal (zae (zay (zaE (zyG (zaa zgo rfl dc rfl (show _=2 from rfl) (zaj (k:=0) zfY rfl dc rfl rfl rfl ?_))))))
 obtain ⟨r1,hq1,h⟩:=zbL h
 refine zbg (v:=.bool r1) (vs:=[.int .i32 p1.Rune]) rfl dc rfl rfl rfl zzy (zmP hq1) (zyN ?_)
 refine zyB rfl h (fun h => ?_) (fun h => ?_)
 ·
  refine zyG (zyR 1 rfl (zyN (zau (zaf ?_))))
  cases h
  exact za2 2 results110
 refine zal (zay (zyG (zyR 1 rfl (zyN (zau ?_)))))
 cases h
 exact za2 2 results110
def zd8 (head1:Int) (behind1:zaX) (p1:zaX):Option Bool := zaB (p1.Broken) ( some false
) ( grd (I32 p1.Rune) <| zaB (((zd2 p1.Broken p1.Rune):Int)==2) ( some true
) ( zaB ((p1.Rune:Int)==8205) ( some true
) ( zaB ((head1:Int)==10) ( zaB (((zd2 p1.Broken p1.Rune):Int)==10) ( some ((behind1.Rune:Int)==8205)
) ( some false
)
) ( some false
)
)
)
)
theorem zid {head1:Int} {behind1:zaX} {p1:zaX} {r:Bool} (h:zd8 head1 behind1 p1=some r):FnP prog 109 [zI head1,.agg (zr2 behind1).toArray,.agg (zr2 p1).toArray] (.bool r):=by
 unfold zd8 at h
 refine FnP.intro func109 rfl ntmps109 (by simp) ?_
 intro w0 K
 refine zyG ?_
 refine zdi rfl dc rfl (fun b1 => ?_)
 refine zdi rfl dc rfl (fun b2 => ?_)
 refine zyR 1 rfl (zyN (zaE (zyG (zaa zqB rfl dc rfl (show _=3 from rfl) (zaj (k:=1) zlc rfl dc rfl rfl rfl (zyN ?_))))))
 refine zyB rfl h (fun h => ?_) (fun h => ?_)
 ·
  refine zyG (zyR 1 rfl (zyN (zau (zaf ?_))))
  cases h
  exact za2 6 results109
 refine zal (zay (zyG (zaV (k:=1) (cs:=(zr2 p1)) zfN rfl dc rfl rfl rfl rfl ?_)))
 obtain ⟨hg1,h⟩:=zbQ h
 refine zbg (v:=zI (zd2 p1.Broken p1.Rune)) (vs:=[.agg (zr2 p1).toArray]) rfl dc rfl rfl rfl zpy (zwo p1.At p1.Width p1.Rune p1.Broken hg1.1 hg1.2) (zyR 1 rfl (zyH (zyR 1 rfl (zaS rfl zaL (zyR 1 rfl ?_)))))
 refine zyS (s:=14) rfl h (fun h => ?_) (fun h => ?_)
 ·
  refine zyR 14 rfl ?_
  refine zyR 4 rfl (zyN (zau ?_))
  cases h
  exact za2 6 results109
 refine zaa zgo rfl dc rfl (show _=2 from rfl) (zaj (k:=1) zfY rfl dc rfl rfl rfl (zaS rfl zaL (zyR 2 rfl ?_)))
 refine zyS (s:=19) rfl h (fun h => ?_) (fun h => ?_)
 ·
  refine zyR 13 rfl (zaP ?_)
  refine zay (zau ?_)
  cases h
  exact za2 6 results109
 refine zyR 1 rfl (zaS rfl zaL (zyR 1 rfl ?_))
 refine zyS (s:=22) rfl h (fun h => ?_) (fun h => ?_)
 ·
  refine zyR 1 rfl (zaS rfl zaL (zyR 2 rfl ?_))
  refine zyS (s:=26) rfl h (fun h => ?_) (fun h => ?_)
  ·
   refine zaa zgo rfl dc rfl (show _=2 from rfl) (zaj (k:=0) zfY rfl dc rfl rfl rfl (zaS rfl zaL (zyR 3 rfl (zyN (zau ?_)))))
   cases h
   exact za2 6 results109
  refine zyR 6 rfl (zyN (zau ?_))
  cases h
  exact za2 6 results109
 refine zyR 10 rfl (zyN (zau ?_))
 cases h
 exact za2 6 results109
def zcH (x1:zaX) (ag1:Int→Int→Int→Int→Int→Int→Int→Bool→Bool→Option (List zaH)) (now13:Int) (now14:Int) (now15:Int) (head4:Int) (last13:Int) (last14:Int) (last15:Int) (last16:Bool) (open5:Bool):Option (List zaH) := zbE (fun (j2:Option (List zaH)) => grd (I32 x1.Rune) <| zaB (!open5) ( j2
) ( zaB ((last15:Int)==13) ( zaB ((x1.Rune:Int)==10) ( grd (I64 (x1.At+x1.Width)) <| ag1 now13 (x1.At+x1.Width) now15 head4 x1.At x1.Width x1.Rune x1.Broken open5
) ( zaB ((head4:Int) != 11) ( zaB ((head4:Int) != 4) ( zaB ((head4:Int) != 9) ( zan (zd8 head4 (⟨last13,last14,last15,last16⟩:zaX) x1) fun (r2:Bool) => zaB (r2) ( grd (I64 (x1.At+x1.Width)) <| zan (zca x1) fun (r3:Int) => ag1 now13 (x1.At+x1.Width) (max now15 r3) head4 x1.At x1.Width x1.Rune x1.Broken open5
) ( zih (⟨now13,now14,now15⟩:zaH) <| j2
)
) ( zih (⟨now13,now14,now15⟩:zaH) <| j2
)
) ( zih (⟨now13,now14,now15⟩:zaH) <| j2
)
) ( zih (⟨now13,now14,now15⟩:zaH) <| j2
)
)
) ( zaB ((head4:Int) != 11) ( zaB ((head4:Int) != 4) ( zaB ((head4:Int) != 9) ( zan (zd8 head4 (⟨last13,last14,last15,last16⟩:zaX) x1) fun (r4:Bool) => zaB (r4) ( grd (I64 (x1.At+x1.Width)) <| zan (zca x1) fun (r5:Int) => ag1 now13 (x1.At+x1.Width) (max now15 r5) head4 x1.At x1.Width x1.Rune x1.Broken open5
) ( zih (⟨now13,now14,now15⟩:zaH) <| j2
)
) ( zih (⟨now13,now14,now15⟩:zaH) <| j2
)
) ( zih (⟨now13,now14,now15⟩:zaH) <| j2
)
) ( zih (⟨now13,now14,now15⟩:zaH) <| j2
)
)
)
) ( grd (I64 (x1.At+x1.Width)) <| zan (zca x1) fun (r6:Int) => ag1 x1.At (x1.At+x1.Width) r6 (zd2 x1.Broken x1.Rune) x1.At x1.Width x1.Rune x1.Broken true
)
def zei (c0:zBA):Option (List zaH) := zbE (fun (j1:Int→Int→Int→Bool→Option (List zaH)) => zan (zfC c0) fun (r1:zBA) => zan (zdJ r1) fun (its1:(List zaX)) => zbE (fun (dn1:Int→Int→Int→Int→Int→Int→Int→Bool→Bool→Option (List zaH)) => zcQ dn1 (zcH) its1 0 0 0 0 0 0 0 false false
) (fun (now13:Int) (now14:Int) (now15:Int) (head4:Int) (last13:Int) (last14:Int) (last15:Int) (last16:Bool) (open5:Bool) => j1 now13 now14 now15 open5
)
) (fun (now1:Int) (now2:Int) (now3:Int) (zdN:Bool) => zaB (zdN) ( zih (⟨now1,now2,now3⟩:zaH) <| some []
) ( some []
)
)
theorem zhu {b_c0:Nat} {c0:zBA} {xs:(List zaH)} (h:zei c0=some xs):Itr prog 108 [zP b_c0] (fun q:zaH=>[.agg (zr3 q).toArray]) xs [(b_c0,.cells #[.string c0] 9 (0,0))]:=by
 unfold zei at h
 refine Itr.intro func108 rfl ntmps108 (by simp) ?_
 intro l w0 K I X hRo hy
 obtain ⟨r0,hx0⟩:∃ r,xs=[]++r:=⟨xs,rfl⟩
 have hr0:xs=r0:=hx0
 rw [hr0] at h
 refine zgz ?_
 refine zyG ?_
 refine zdi rfl dc rfl (fun b1 => ?_)
 refine zyN ?_
 refine zfL (β:=Unit) (l:=0) (fun _=>False) (fun _=>[]) (fun _=>[]) rfl ?_ ?_
 ·
  obtain ⟨j1,hj1,h⟩:=zbT h
  refine za8 (β:=Int×Int×Int×Bool×(List zaH)×(List zaH)×Nat×Nat×(List Nat)) 5 rfl (fun b=>j1 b.1 b.2.1 b.2.2.1 b.2.2.2.1=some b.2.2.2.2.2.1∧xs=b.2.2.2.2.1++b.2.2.2.2.2.1) (fun b=>zec b.2.2.2.2.2.2.2.2) (fun b=>[(2,zP b1),(3,zP b.2.2.2.2.2.2.1),(6,zP b.2.2.2.2.2.2.2.1)]) (fun b=>[I b.2.2.2.2.1,cells b1 [.func (.yield l) #[] #[]] 214,cells b.2.2.2.2.2.2.1 [zI b.1,zI b.2.1,zI b.2.2.1] 158,cells b.2.2.2.2.2.2.2.1 [.bool b.2.2.2.1] 4,zhG ((b.2.2.2.2.2.2.2.2:List Nat).map zib)]) (fun cut => ?_) ?_
  ·
   refine zyG ?_
   refine zbh zsS rfl dc (fun b4 => ?_)
   refine zyH ?_
   refine zbh zyn rfl dc (fun b5 => ?_)
   refine zyH ?_
   refine zbh zlt rfl dc (fun b6 => ?_)
   refine zyH ?_
   refine zbh zBa rfl dc (fun b7 => ?_)
   refine zaT (k:=6) (l':=[.bool false]) zog rfl rfl rfl rfl rfl (fun _ _=>rfl) rfl ?_
   refine zyN (zaE (zkq (zay (cut (zyG (zgF (i:=0) hRo zhk rfl dc rfl rfl rfl ?_))))))
   obtain ⟨r1,hq1,h⟩:=zbL h
   refine zcE (vs:=[.string c0]) rfl dc rfl rfl rfl zvz (zg3 hq1) Splits.nil ?_
   rintro b8
   refine zyN (zaG ?_)
   obtain ⟨its1,hq2,h⟩:=zbL h
   obtain ⟨dn1,hdn1,h⟩:=zbT h
   refine zgA (α:=zaX) (β:=Int×Int×Int×Int×Int×Int×Int×Bool×Bool×(List zaH)×(List zaH)) (γ:=(List zaH×zaH×List zaH)) (δ:=Nat) (ps:=[11]) hRo rfl zvy (zf3 hq2) (fun pre b=>(∀ post,its1=pre++post→zcQ dn1 (zcH) post b.1 b.2.1 b.2.2.1 b.2.2.2.1 b.2.2.2.2.1 b.2.2.2.2.2.1 b.2.2.2.2.2.2.1 b.2.2.2.2.2.2.2.1 b.2.2.2.2.2.2.2.2.1=some b.2.2.2.2.2.2.2.2.2.2)∧xs=b.2.2.2.2.2.2.2.2.2.1++b.2.2.2.2.2.2.2.2.2.2) (fun pre b=>[I b.2.2.2.2.2.2.2.2.2.1,cells b1 [.func (.yield l) #[] #[]] 214,cells b4 [zI b.1,zI b.2.1,zI b.2.2.1] 158,cells b5 [zI b.2.2.2.1] 163,cells b6 [zI b.2.2.2.2.1,zI b.2.2.2.2.2.1,.int .i32 b.2.2.2.2.2.2.1,.bool b.2.2.2.2.2.2.2.1] 60,cells b7 [.bool b.2.2.2.2.2.2.2.2.1] 4]) (fun c pre g=>(fun g=>c=Code.ret∧xs=g.1++g.2.1::g.2.2) g) (fun c pre g=>(fun g=>[X (g.1++[g.2.1])]) g) (fun pre x b j=>[(2,zP b1),(3,zP b4),(4,zP b5),(5,zP b6),(6,zP b7),(10,.func (.func 67) #[] #[zP b8]),(7,zP j)]) (fun pre x b j=>[I b.2.2.2.2.2.2.2.2.2.1,cells b1 [.func (.yield l) #[] #[]] 214,cells b4 [zI b.1,zI b.2.1,zI b.2.2.1] 158,cells b5 [zI b.2.2.2.1] 163,cells b6 [zI b.2.2.2.2.1,zI b.2.2.2.2.2.1,.int .i32 b.2.2.2.2.2.2.1,.bool b.2.2.2.2.2.2.2.1] 60,cells b7 [.bool b.2.2.2.2.2.2.2.2.1] 4,cells j (zr2 x) 60]) (0,0,0,0,0,0,0,false,false,([]:List zaH),r0) ⟨fun post e=>(by rw [List.nil_append] at e; subst e; exact h),hx0⟩ (zab [0,2,3,4,5,6] kr rfl) ⟨.inl ⟨7,rfl⟩,trivial⟩ (fun _=>rfl) dc ?_ ?_ ?_ ?_
   ·
    rintro lp rc pre x1 post ⟨now13,now14,now15,head4,last13,last14,last15,last16,open5,acc4,rr4⟩ w1 K1 hxs1 hext hro hinv
    have hy:=hy.later hext
    refine zas ?_
    refine zbh zlt rfl dc (fun b9 => ?_)
    refine zaZ (k:=6) (vs:=(zr2 x1)) (l':=(zr2 x1)) zhE rfl rfl rfl rfl rfl (show _≤_ by simp) rfl rfl ?_
    refine zaP ?_
    exact fun a w ha hw=>⟨b9,(zbf rfl) _ _ _ ha,hw.weaken (zab [0,1,2,3,4,5,6] kr rfl)⟩
   ·
    rintro lp rc pre x1 post1 ⟨now13,now14,now15,head4,last13,last14,last15,last16,open5,acc4,rr4⟩ jb1 w1 K1 hxs1 hext hro hinv
    have hy:=hy.later hext
    obtain ⟨hinv,hx4⟩:=hinv
    have h:=hinv (x1::post1) hxs1
    obtain ⟨ag1,hag1⟩:∃ ag,ag=zcQ dn1 (zcH) post1:=⟨_,rfl⟩
    have h:zcH x1 ag1 now13 now14 now15 head4 last13 last14 last15 last16 open5=some rr4:=by rw [hag1]; exact h
    unfold zcH at h
    refine zaG ?_
    obtain ⟨j2,hj2,h⟩:=zbT h
    refine za8 (β:=(List zaH)×(List zaH)) 1 rfl (fun b=>j2=some b.2∧xs=b.1++b.2) (fun b=>[]) (fun b=>[(2,zP b1),(3,zP b4),(4,zP b5),(5,zP b6),(6,zP b7),(7,zP jb1),(8,zI (zd2 x1.Broken x1.Rune)),(10,.func (.func 67) #[] #[zP b8])]) (fun b=>[I b.1,cells b1 [.func (.yield l) #[] #[]] 214,cells b4 [zI now13,zI now14,zI now15] 158,cells b5 [zI head4] 163,cells b6 [zI last13,zI last14,.int .i32 last15,.bool last16] 60,cells b7 [.bool open5] 4,cells jb1 (zr2 x1) 60]) (fun cut => ?_) ?_
    ·
     refine zyG (zaV (k:=6) (cs:=(zr2 x1)) zfN rfl dc rfl rfl rfl rfl ?_)
     obtain ⟨hg1,h⟩:=zbQ h
     refine zbg (v:=zI (zd2 x1.Broken x1.Rune)) (vs:=[.agg (zr2 x1).toArray]) rfl dc rfl rfl rfl zpy (zwo x1.At x1.Width x1.Rune x1.Broken hg1.1 hg1.2) (zyR 1 rfl (zyN (cut (zaG (zyG (zaj (k:=5) zlc rfl dc rfl rfl rfl (zdt rfl dc rfl zct (zyR 1 rfl (zyN ?_)))))))))
     refine zyB rfl h (fun h => ?_) (fun h => ?_)
     ·
      refine zal (zae ?_)
      exact zak (acc4,rr4) ⟨h,hx4⟩ rfl (zbf rfl) (zab [0,1,2,3,4,5,6] kr rfl)
     refine zyG (zaa zgo rfl dc rfl (show _=2 from rfl) (zaj (k:=4) zfY rfl dc rfl rfl rfl (zaS rfl zaL (zyR 1 rfl ?_))))
     refine zyS (s:=25) rfl h (fun h => ?_) (fun h => ?_)
     ·
      refine zaa zgo rfl dc rfl (show _=2 from rfl) (zaj (k:=6) zfY rfl dc rfl rfl rfl (zaS rfl zaL (zyR 2 rfl (zyN ?_))))
      refine zyB rfl h (fun h => ?_) (fun h => ?_)
      ·
       refine zyG (zaa ze3 rfl dc rfl (show _=0 from rfl) (zaj (k:=6) zbW rfl dc rfl rfl rfl (zaa zhZ rfl dc rfl (show _=1 from rfl) (zaj (k:=6) zbW rfl dc rfl rfl rfl ?_))))
       obtain ⟨hg2,h⟩:=zbQ h
       refine zaS rfl (zbb (r:=x1.At+x1.Width) (IntWalk.i64_in _ hg2)) (zaa zhr rfl dc rfl (show _=0 from rfl) (zaa zdK rfl dc rfl (show _=1 from rfl) ?_))
       refine zaT (k:=2) (l':=[zI now13,zI (x1.At+x1.Width),zI now15]) zeI rfl rfl rfl rfl rfl (fun _ _=>rfl) rfl ?_
       refine zyH (zaV (k:=6) (cs:=(zr2 x1)) zfN rfl dc rfl rfl rfl rfl (zaZ (k:=4) (vs:=(zr2 x1)) (l':=(zr2 x1)) zhE rfl rfl rfl rfl rfl (show _≤_ by simp) rfl rfl ?_))
       refine zyN (zbu (zcZ dc (zaq (zaJ ?_))))
       exact zcN (now13,x1.At+x1.Width,now15,head4,x1.At,x1.Width,x1.Rune,x1.Broken,open5,acc4,rr4) ⟨fun post2 e2=>(by have e9:=zds hxs1 e2; subst e9; subst hag1; exact h),hx4⟩ (zab [0,1,2,3,4,5] kr rfl)
      refine zyG (zaj (k:=3) zia rfl dc rfl rfl rfl (zaS rfl zbH (zyR 1 rfl ?_)))
      refine zyS (s:=41) rfl h (fun h => ?_) (fun h => ?_)
      ·
       refine zaj (k:=3) zia rfl dc rfl rfl rfl (zaS rfl zbH (zyR 2 rfl ?_))
       refine zyS (s:=45) rfl h (fun h => ?_) (fun h => ?_)
       ·
        refine zaj (k:=3) zia rfl dc rfl rfl rfl (zaS rfl zbH (zyR 2 rfl ?_))
        refine zyS (s:=49) rfl h (fun h => ?_) (fun h => ?_)
        ·
         refine zaj (k:=3) zia rfl dc rfl rfl rfl (zaV (k:=4) (cs:=[zI last13,zI last14,.int .i32 last15,.bool last16]) zfN rfl dc rfl rfl rfl rfl (zaV (k:=6) (cs:=(zr2 x1)) zfN rfl dc rfl rfl rfl rfl ?_))
         obtain ⟨r2,hq3,h⟩:=zbL h
         refine zbg (v:=.bool r2) (vs:=[zI head4,.agg #[zI last13,zI last14,.int .i32 last15,.bool last16],.agg (zr2 x1).toArray]) rfl dc rfl rfl rfl zwu (zid (behind1:=(⟨last13,last14,last15,last16⟩:zaX)) (p1:=x1) hq3) (zyR 2 rfl (zyN ?_))
         refine zyB rfl h (fun h => ?_) (fun h => ?_)
         ·
          refine zyG (zaa ze3 rfl dc rfl (show _=0 from rfl) (zaj (k:=6) zbW rfl dc rfl rfl rfl (zaa zhZ rfl dc rfl (show _=1 from rfl) (zaj (k:=6) zbW rfl dc rfl rfl rfl ?_))))
          obtain ⟨hg3,h⟩:=zbQ h
          refine zaS rfl (zbb (r:=x1.At+x1.Width) (IntWalk.i64_in _ hg3)) (zaa zhr rfl dc rfl (show _=0 from rfl) (zaa zdK rfl dc rfl (show _=1 from rfl) ?_))
          refine zaT (k:=2) (l':=[zI now13,zI (x1.At+x1.Width),zI now15]) zeI rfl rfl rfl rfl rfl (fun _ _=>rfl) rfl ?_
          refine zyN (zaE ?_)
          obtain ⟨r3,hq4,h⟩:=zbL h
          refine zbB 4 [(0,62,.pointer (some ⟨b4,2,none⟩)),(1,63,zI now15),(2,64,.agg (zr2 x1).toArray),(3,65,zI r3)] mixed kr kr dc (by rfl) kr kr (zad ?_ (zad ?_ (zad ?_ (zad ?_ DrawPre.nil)))) ?_
          · exact fun D n d c u i=>zaa zj3 rfl dc (zbd (by rfl) rfl) (show _=2 from rfl) (zar 0 u i)
          · exact fun D n d c u i=>zaj (k:=2) zbW rfl dc (zam 0 u d) rfl rfl (zar 1 u i)
          · exact fun D n d c u i=>zaV (k:=6) (cs:=(zr2 x1)) zfN rfl dc (zbd (by rfl) rfl) rfl rfl rfl (zar 2 u i)
          · exact fun D n d c u i=>zbg (v:=zI r3) (vs:=[.agg (zr2 x1).toArray]) rfl dc rfl (evL.cons (zam 2 u d) evL.nil) rfl zuc (zgb (p1:=x1) hq4) (zar 3 u i)
          refine zk5 rfl dc rfl rfl (zaa zj3 rfl dc rfl (show _=2 from rfl) ?_)
          refine zaT (k:=2) (l':=[zI now13,zI (x1.At+x1.Width),zI (max now15 r3)]) zeI rfl rfl rfl rfl rfl (fun _ _=>rfl) rfl ?_
          refine zyH (zaV (k:=6) (cs:=(zr2 x1)) zfN rfl dc rfl rfl rfl rfl (zaZ (k:=4) (vs:=(zr2 x1)) (l':=(zr2 x1)) zhE rfl rfl rfl rfl rfl (show _≤_ by simp) rfl rfl (zyN (zbu (zcZ dc (zaq (zaJ ?_)))))))
          exact zcN (now13,x1.At+x1.Width,max now15 r3,head4,x1.At,x1.Width,x1.Rune,x1.Broken,open5,acc4,rr4) ⟨fun post2 e2=>(by have e9:=zds hxs1 e2; subst e9; subst hag1; exact h),hx4⟩ (zab [0,1,2,3,4,5] kr rfl)
         refine zyG (zaj (k:=1) zjM rfl dc rfl rfl rfl (zaV (k:=2) (cs:=[zI now13,zI now14,zI now15]) zit rfl dc rfl rfl rfl rfl ?_))
         obtain ⟨rr6,hr1,h⟩:=zlE h
         have hx6:xs=acc4++(⟨now13,now14,now15⟩:zaH)::rr6:=by rw [hx4,hr1]
         refine zdm hy rfl dc rfl hx6 rfl (k:=0) rfl ?_ ?_
         ·
          have hx7:xs=(acc4++[(⟨now13,now14,now15⟩:zaH)])++rr6:=by rw [hx6]; simp
          refine zdt rfl dc rfl zct (zyN (zaM rfl (zal (zae ?_))))
          exact zak (acc4++[(⟨now13,now14,now15⟩:zaH)],rr6) ⟨h,hx7⟩ rfl (zbf rfl) (zab [0,1,2,3,4,5,6] kr rfl)
         refine zdt rfl dc rfl zct (zyN (zba rfl (zau (zag (zaf (zag ?_))))))
         exact zdx (acc4,(⟨now13,now14,now15⟩:zaH),rr6) (show _∧_ from ⟨rfl,hx6⟩) (zab [0] kr rfl)
        refine zyR 6 rfl (zyN (zaM rfl (zyG (zaj (k:=1) zjM rfl dc rfl rfl rfl (zaV (k:=2) (cs:=[zI now13,zI now14,zI now15]) zit rfl dc rfl rfl rfl rfl ?_)))))
        obtain ⟨rr7,hr2,h⟩:=zlE h
        have hx8:xs=acc4++(⟨now13,now14,now15⟩:zaH)::rr7:=by rw [hx4,hr2]
        refine zdm hy rfl dc rfl hx8 rfl (k:=0) rfl ?_ ?_
        ·
         have hx9:xs=(acc4++[(⟨now13,now14,now15⟩:zaH)])++rr7:=by rw [hx8]; simp
         refine zdt rfl dc rfl zct (zyN (zaM rfl (zal (zae ?_))))
         exact zak (acc4++[(⟨now13,now14,now15⟩:zaH)],rr7) ⟨h,hx9⟩ rfl (zbf rfl) (zab [0,1,2,3,4,5,6] kr rfl)
        refine zdt rfl dc rfl zct (zyN (zba rfl (zau (zag (zaf (zag ?_))))))
        exact zdx (acc4,(⟨now13,now14,now15⟩:zaH),rr7) (show _∧_ from ⟨rfl,hx8⟩) (zab [0] kr rfl)
       refine zyR 10 rfl (zyN (zaM rfl (zaE ?_)))
       refine zas (zaj (k:=1) zjM rfl dc rfl rfl rfl (zaV (k:=2) (cs:=[zI now13,zI now14,zI now15]) zit rfl dc rfl rfl rfl rfl ?_))
       obtain ⟨rr8,hr3,h⟩:=zlE h
       have hx10:xs=acc4++(⟨now13,now14,now15⟩:zaH)::rr8:=by rw [hx4,hr3]
       refine zdm hy rfl dc rfl hx10 rfl (k:=0) rfl ?_ ?_
       ·
        have hx11:xs=(acc4++[(⟨now13,now14,now15⟩:zaH)])++rr8:=by rw [hx10]; simp
        refine zdt rfl dc rfl zct (zyN (zaM rfl (zal (zae ?_))))
        exact zak (acc4++[(⟨now13,now14,now15⟩:zaH)],rr8) ⟨h,hx11⟩ rfl (zbf rfl) (zab [0,1,2,3,4,5,6] kr rfl)
       refine zdt rfl dc rfl zct (zyN (zba rfl (zau (zag (zaf (zag ?_))))))
       exact zdx (acc4,(⟨now13,now14,now15⟩:zaH),rr8) (show _∧_ from ⟨rfl,hx10⟩) (zab [0] kr rfl)
      refine zyR 14 rfl ?_
      refine zyN (zaM rfl (zyG (zaj (k:=1) zjM rfl dc rfl rfl rfl (zaV (k:=2) (cs:=[zI now13,zI now14,zI now15]) zit rfl dc rfl rfl rfl rfl ?_))))
      obtain ⟨rr9,hr4,h⟩:=zlE h
      have hx12:xs=acc4++(⟨now13,now14,now15⟩:zaH)::rr9:=by rw [hx4,hr4]
      refine zdm hy rfl dc rfl hx12 rfl (k:=0) rfl ?_ ?_
      ·
       have hx13:xs=(acc4++[(⟨now13,now14,now15⟩:zaH)])++rr9:=by rw [hx12]; simp
       refine zdt rfl dc rfl zct (zyN (zaM rfl (zal (zae ?_))))
       exact zak (acc4++[(⟨now13,now14,now15⟩:zaH)],rr9) ⟨h,hx13⟩ rfl (zbf rfl) (zab [0,1,2,3,4,5,6] kr rfl)
      refine zdt rfl dc rfl zct (zyN (zba rfl (zau (zag (zaf (zag ?_))))))
      exact zdx (acc4,(⟨now13,now14,now15⟩:zaH),rr9) (show _∧_ from ⟨rfl,hx12⟩) (zab [0] kr rfl)
     refine zyR 5 rfl (zyN (zaM rfl (zyG (zaj (k:=3) zia rfl dc rfl rfl rfl (zaS rfl zbH (zyR 1 rfl ?_))))))
     refine zyS (s:=41) rfl h (fun h => ?_) (fun h => ?_)
     ·
      refine zaj (k:=3) zia rfl dc rfl rfl rfl (zaS rfl zbH (zyR 2 rfl ?_))
      refine zyS (s:=45) rfl h (fun h => ?_) (fun h => ?_)
      ·
       refine zaj (k:=3) zia rfl dc rfl rfl rfl (zaS rfl zbH (zyR 2 rfl ?_))
       refine zyS (s:=49) rfl h (fun h => ?_) (fun h => ?_)
       ·
        refine zaj (k:=3) zia rfl dc rfl rfl rfl (zaV (k:=4) (cs:=[zI last13,zI last14,.int .i32 last15,.bool last16]) zfN rfl dc rfl rfl rfl rfl (zaV (k:=6) (cs:=(zr2 x1)) zfN rfl dc rfl rfl rfl rfl ?_))
        obtain ⟨r4,hq5,h⟩:=zbL h
        refine zbg (v:=.bool r4) (vs:=[zI head4,.agg #[zI last13,zI last14,.int .i32 last15,.bool last16],.agg (zr2 x1).toArray]) rfl dc rfl rfl rfl zwu (zid (behind1:=(⟨last13,last14,last15,last16⟩:zaX)) (p1:=x1) hq5) (zyR 2 rfl (zyN ?_))
        refine zyB rfl h (fun h => ?_) (fun h => ?_)
        ·
         refine zyG (zaa ze3 rfl dc rfl (show _=0 from rfl) (zaj (k:=6) zbW rfl dc rfl rfl rfl (zaa zhZ rfl dc rfl (show _=1 from rfl) (zaj (k:=6) zbW rfl dc rfl rfl rfl ?_))))
         obtain ⟨hg4,h⟩:=zbQ h
         refine zaS rfl (zbb (r:=x1.At+x1.Width) (IntWalk.i64_in _ hg4)) (zaa zhr rfl dc rfl (show _=0 from rfl) (zaa zdK rfl dc rfl (show _=1 from rfl) ?_))
         refine zaT (k:=2) (l':=[zI now13,zI (x1.At+x1.Width),zI now15]) zeI rfl rfl rfl rfl rfl (fun _ _=>rfl) rfl ?_
         refine zyN (zaE ?_)
         obtain ⟨r5,hq6,h⟩:=zbL h
         refine zbB 4 [(0,62,.pointer (some ⟨b4,2,none⟩)),(1,63,zI now15),(2,64,.agg (zr2 x1).toArray),(3,65,zI r5)] mixed kr kr dc (by rfl) kr kr (zad ?_ (zad ?_ (zad ?_ (zad ?_ DrawPre.nil)))) ?_
         · exact fun D n d c u i=>zaa zj3 rfl dc (zbd (by rfl) rfl) (show _=2 from rfl) (zar 0 u i)
         · exact fun D n d c u i=>zaj (k:=2) zbW rfl dc (zam 0 u d) rfl rfl (zar 1 u i)
         · exact fun D n d c u i=>zaV (k:=6) (cs:=(zr2 x1)) zfN rfl dc (zbd (by rfl) rfl) rfl rfl rfl (zar 2 u i)
         · exact fun D n d c u i=>zbg (v:=zI r5) (vs:=[.agg (zr2 x1).toArray]) rfl dc rfl (evL.cons (zam 2 u d) evL.nil) rfl zuc (zgb (p1:=x1) hq6) (zar 3 u i)
         refine zk5 rfl dc rfl rfl (zaa zj3 rfl dc rfl (show _=2 from rfl) ?_)
         refine zaT (k:=2) (l':=[zI now13,zI (x1.At+x1.Width),zI (max now15 r5)]) zeI rfl rfl rfl rfl rfl (fun _ _=>rfl) rfl ?_
         refine zyH (zaV (k:=6) (cs:=(zr2 x1)) zfN rfl dc rfl rfl rfl rfl (zaZ (k:=4) (vs:=(zr2 x1)) (l':=(zr2 x1)) zhE rfl rfl rfl rfl rfl (show _≤_ by simp) rfl rfl (zyN (zbu (zcZ dc (zaq (zaJ ?_)))))))
         exact zcN (now13,x1.At+x1.Width,max now15 r5,head4,x1.At,x1.Width,x1.Rune,x1.Broken,open5,acc4,rr4) ⟨fun post2 e2=>(by have e9:=zds hxs1 e2; subst e9; subst hag1; exact h),hx4⟩ (zab [0,1,2,3,4,5] kr rfl)
        refine zyG (zaj (k:=1) zjM rfl dc rfl rfl rfl (zaV (k:=2) (cs:=[zI now13,zI now14,zI now15]) zit rfl dc rfl rfl rfl rfl ?_))
        obtain ⟨rr10,hr5,h⟩:=zlE h
        have hx14:xs=acc4++(⟨now13,now14,now15⟩:zaH)::rr10:=by rw [hx4,hr5]
        refine zdm hy rfl dc rfl hx14 rfl (k:=0) rfl ?_ ?_
        ·
         have hx15:xs=(acc4++[(⟨now13,now14,now15⟩:zaH)])++rr10:=by rw [hx14]; simp
         refine zdt rfl dc rfl zct (zyN (zaM rfl (zal (zae ?_))))
         exact zak (acc4++[(⟨now13,now14,now15⟩:zaH)],rr10) ⟨h,hx15⟩ rfl (zbf rfl) (zab [0,1,2,3,4,5,6] kr rfl)
        refine zdt rfl dc rfl zct (zyN (zba rfl (zau (zag (zaf (zag ?_))))))
        exact zdx (acc4,(⟨now13,now14,now15⟩:zaH),rr10) (show _∧_ from ⟨rfl,hx14⟩) (zab [0] kr rfl)
       refine zyR 6 rfl (zyN (zaM rfl (zyG (zaj (k:=1) zjM rfl dc rfl rfl rfl (zaV (k:=2) (cs:=[zI now13,zI now14,zI now15]) zit rfl dc rfl rfl rfl rfl ?_)))))
       obtain ⟨rr11,hr6,h⟩:=zlE h
       have hx16:xs=acc4++(⟨now13,now14,now15⟩:zaH)::rr11:=by rw [hx4,hr6]
       refine zdm hy rfl dc rfl hx16 rfl (k:=0) rfl ?_ ?_
       ·
        have hx17:xs=(acc4++[(⟨now13,now14,now15⟩:zaH)])++rr11:=by rw [hx16]; simp
        refine zdt rfl dc rfl zct (zyN (zaM rfl (zal (zae ?_))))
        exact zak (acc4++[(⟨now13,now14,now15⟩:zaH)],rr11) ⟨h,hx17⟩ rfl (zbf rfl) (zab [0,1,2,3,4,5,6] kr rfl)
       refine zdt rfl dc rfl zct (zyN (zba rfl (zau (zag (zaf (zag ?_))))))
       exact zdx (acc4,(⟨now13,now14,now15⟩:zaH),rr11) (show _∧_ from ⟨rfl,hx16⟩) (zab [0] kr rfl)
      refine zyR 10 rfl (zyN (zaM rfl (zaE ?_)))
      refine zas (zaj (k:=1) zjM rfl dc rfl rfl rfl (zaV (k:=2) (cs:=[zI now13,zI now14,zI now15]) zit rfl dc rfl rfl rfl rfl ?_))
      obtain ⟨rr12,hr7,h⟩:=zlE h
      have hx18:xs=acc4++(⟨now13,now14,now15⟩:zaH)::rr12:=by rw [hx4,hr7]
      refine zdm hy rfl dc rfl hx18 rfl (k:=0) rfl ?_ ?_
      ·
       have hx19:xs=(acc4++[(⟨now13,now14,now15⟩:zaH)])++rr12:=by rw [hx18]; simp
       refine zdt rfl dc rfl zct (zyN (zaM rfl (zal (zae ?_))))
       exact zak (acc4++[(⟨now13,now14,now15⟩:zaH)],rr12) ⟨h,hx19⟩ rfl (zbf rfl) (zab [0,1,2,3,4,5,6] kr rfl)
      refine zdt rfl dc rfl zct (zyN (zba rfl (zau (zag (zaf (zag ?_))))))
      exact zdx (acc4,(⟨now13,now14,now15⟩:zaH),rr12) (show _∧_ from ⟨rfl,hx18⟩) (zab [0] kr rfl)
     refine zyR 14 rfl ?_
     refine zyN (zaM rfl (zyG (zaj (k:=1) zjM rfl dc rfl rfl rfl (zaV (k:=2) (cs:=[zI now13,zI now14,zI now15]) zit rfl dc rfl rfl rfl rfl ?_))))
     obtain ⟨rr13,hr8,h⟩:=zlE h
     have hx20:xs=acc4++(⟨now13,now14,now15⟩:zaH)::rr13:=by rw [hx4,hr8]
     refine zdm hy rfl dc rfl hx20 rfl (k:=0) rfl ?_ ?_
     ·
      have hx21:xs=(acc4++[(⟨now13,now14,now15⟩:zaH)])++rr13:=by rw [hx20]; simp
      refine zdt rfl dc rfl zct (zyN (zaM rfl (zal (zae ?_))))
      exact zak (acc4++[(⟨now13,now14,now15⟩:zaH)],rr13) ⟨h,hx21⟩ rfl (zbf rfl) (zab [0,1,2,3,4,5,6] kr rfl)
     refine zdt rfl dc rfl zct (zyN (zba rfl (zau (zag (zaf (zag ?_))))))
     exact zdx (acc4,(⟨now13,now14,now15⟩:zaH),rr13) (show _∧_ from ⟨rfl,hx20⟩) (zab [0] kr rfl)
    rintro ⟨acc5,rr5⟩ ⟨h,hx5⟩
    rw [hj2] at h
    refine zaE ?_
    refine let vals1:(Unit)→List (Nat×Nat×Value):=fun b=>[(0,69,zI (zd2 x1.Broken x1.Rune)),(1,70,.agg (zr2 x1).toArray)]; let LL1:(Nat→Prop)→(Unit)→List Asn:=fun D b=>[I acc5,cells b1 [.func (.yield l) #[] #[]] 214,cells b4 [zI now13,zI now14,zI now15] 158,eD D (cells b5 [zI head4] 163) [(3,cells b5 [zI (zd2 x1.Broken x1.Rune)] 163)],cells b6 [zI last13,zI last14,.int .i32 last15,.bool last16] 60,eD D (cells b7 [.bool open5] 4) [(2,cells b7 [.bool true] 4)],cells jb1 (zr2 x1) 60]; ?_
    have zhq:zyQ [2,3] LL1:=fun i h D b=>zac rfl (zac rfl (zac rfl (zac (zkr rfl h) (zac rfl (zac (zkr rfl h) rfl)))))
    refine zeb (β:=Unit) 4 () vals1 LL1 mixed kr kr dc (fun _=>rfl) (zcK (zac zci (zac rfl (zac zci rfl)))) (zm5 zhq (fun _=>rfl) (fun _=>rfl) 1 0 (fun _=>rfl) rfl (zhC zhq rfl (fun _=>rfl) (fun _=>rfl) ?_ (zaF ?_ (zaF ?_ DrawG.nil)))) ?_
    · exact fun D b n d c u i=>⟨_,(zp3 rfl),zaV (k:=6) (cs:=(zr2 x1)) zfN rfl dc (zbd (by rfl) rfl) rfl rfl rfl (zar 1 u i)⟩
    ·
     intro D b hn hd hcl
     refine zaY (zcK (zac (zah (fun hD=>hn (hcl 3 _ rfl hD 2 dc)) zat) (zac rfl (zac (zah hn zat) rfl)))) ?_
     refine zaT (k:=5) (l':=[.bool true]) zog rfl (zbd (by rfl) rfl) rfl rfl rfl (fun _ _=>rfl) rfl ?_
     exact zi5 (b:=b) () (by rfl) (zx7 rfl) (zcK (zac ((zav (by rfl)).trans (zah (fun hD=>hn (hcl 3 _ rfl hD 2 dc)) zat)) (zac rfl (zac (zaW (Or.inr rfl) rfl) rfl))))
    ·
     intro D b hn hd hcl
     refine zaY (zcK (zac (zah hn zat) (zac rfl (zac (zaW (hd 2 dc) rfl) rfl)))) ?_
     refine zaT (k:=3) (l':=[zI (zd2 x1.Broken x1.Rune)]) zyK rfl (zbd (by rfl) rfl) (zaI (m:=0) rfl rfl (hd 0 dc)) rfl rfl (fun _ _=>rfl) rfl ?_
     exact zi5 (b:=b) () (by rfl) (zx7 rfl) (zcK (zac (zaW (Or.inr rfl) rfl) (zac rfl (zac ((zav (by rfl)).trans (zaW (hd 2 dc) rfl)) rfl))))
    intro D b hall
    refine zaY (zcK (zac (zaW (hall 3 dc) rfl) (zac rfl (zac (zaW (hall 2 dc) rfl) rfl)))) (zaZ (k:=4) (vs:=(zr2 x1)) (l':=(zr2 x1)) zhE rfl rfl rfl rfl rfl (show _≤_ by simp) rfl rfl (zyN ?_))
    obtain ⟨hg5,h⟩:=zbQ h
    obtain ⟨r6,hq7,h⟩:=zbL h
    refine zbB 10 [(0,71,zP jb1),(1,72,zI x1.At),(2,73,zP jb1),(3,74,zI x1.At),(4,75,.pointer (some ⟨jb1,1,none⟩)),(5,76,zI x1.Width),(6,77,zI (x1.At+x1.Width)),(7,78,.agg #[zI x1.At,zI (x1.At+x1.Width)]),(8,79,.agg (zr2 x1).toArray),(9,80,zI r6)] mixed kr kr dc (by rfl) kr kr (zad ?_ (zad ?_ (zad ?_ (zad ?_ (zad ?_ (zad ?_ (zad ?_ (zad ?_ (zad ?_ (zad ?_ DrawPre.nil)))))))))) ?_
    · exact fun D n d c u i=>zaa ze3 rfl dc (zbd (by rfl) rfl) (show _=0 from rfl) (zar 0 u i)
    · exact fun D n d c u i=>zaj (k:=6) zbW rfl dc (zam 0 u d) rfl rfl (zar 1 u i)
    · exact fun D n d c u i=>zaa ze3 rfl dc (zbd (by rfl) rfl) (show _=0 from rfl) (zar 2 u i)
    · exact fun D n d c u i=>zaj (k:=6) zbW rfl dc (zam 2 u d) rfl rfl (zar 3 u i)
    · exact fun D n d c u i=>zaa zhZ rfl dc (zbd (by rfl) rfl) (show _=1 from rfl) (zar 4 u i)
    · exact fun D n d c u i=>zaj (k:=6) zbW rfl dc (zam 4 u d) rfl rfl (zar 5 u i)
    · exact fun D n d c u i=>zb6 rfl dc (zam 3 u d) (zam 5 u d) (zbb (r:=x1.At+x1.Width) (IntWalk.i64_in _ hg5)) (zar 6 u i)
    · exact fun D n d c u i=>zbA (v:=.agg #[zI x1.At,zI (x1.At+x1.Width)]) (ps:=[(0,.tmp 72),(1,.tmp 77)]) rfl dc (evP.cons (zam 1 u d) (evP.cons (zam 6 u d) evP.nil)) (fun _=>by kernel_rfl) (zar 7 u i)
    · exact fun D n d c u i=>zaV (k:=6) (cs:=(zr2 x1)) zfN rfl dc (zbd (by rfl) rfl) rfl rfl rfl (zar 8 u i)
    · exact fun D n d c u i=>zbg (v:=zI r6) (vs:=[.agg (zr2 x1).toArray]) rfl dc rfl (evL.cons (zam 8 u d) evL.nil) rfl zuc (zgb (p1:=x1) hq7) (zar 9 u i)
    refine zbA (v:=.agg #[zI x1.At,zI (x1.At+x1.Width),zI r6]) (ps:=[(0,.tmp 78),(1,.tmp 80)]) rfl dc rfl (fun _=>by kernel_rfl) ?_
    refine zaZ (k:=2) (vs:=[zI x1.At,zI (x1.At+x1.Width),zI r6]) (l':=[zI x1.At,zI (x1.At+x1.Width),zI r6]) zla rfl rfl rfl rfl rfl (show _≤_ by simp) rfl rfl ?_
    refine zaP (zae ?_)
    exact zcN (x1.At,x1.At+x1.Width,r6,zd2 x1.Broken x1.Rune,x1.At,x1.Width,x1.Rune,x1.Broken,true,acc5,rr5) ⟨fun post2 e2=>(by have e9:=zds hxs1 e2; subst e9; subst hag1; exact h),hx5⟩ (zab [0,1,2,3,4,5] kr rfl)
   ·
    rintro dm1 ⟨now13,now14,now15,head4,last13,last14,last15,last16,open5,acc4,rr4⟩ hinv
    obtain ⟨hinv,hx4⟩:=hinv
    have h:dn1 now13 now14 now15 head4 last13 last14 last15 last16 open5=some rr4:=hinv [] (List.append_nil _).symm
    rw [hdn1] at h
    refine zew (k:=14) (j:=1) rfl rfl dc ?_
    refine zae ?_
    exact zak (now13,now14,now15,open5,acc4,rr4,b4,b7,dm1::([]:List Nat)) ⟨h,hx4⟩ rfl (zbf rfl) (zab [8,9,10,13,1] kr rfl)
   rintro dm1 c pre x1 post g hxs hX
   obtain ⟨ta1,tq1,tr1⟩:=g
   obtain ⟨rfl,hx22⟩:=(show _∧_ from hX)
   refine zmX (k:=9) (j:=1) rfl rfl dc ?_
   refine zau (zag (zaf (zcy (by simp) ?_)))
   exact zhg (ds:=(dm1::([]:List Nat))) ta1 tq1 tr1 hx22 (.inl rfl) (zbq (k:=1) rfl) results108 (zab [8] kr rfl)
  rintro ⟨now1,now2,now3,zdN,acc1,rr1,b2,b3,ds1⟩ ⟨h,hx1⟩
  rw [hj1] at h
  refine zyG (zaj (k:=3) zlc rfl dc rfl rfl rfl (zyN ?_))
  refine zyB rfl h (fun h => ?_) (fun h => ?_)
  ·
   refine zas (zaj (k:=1) zjM rfl dc rfl rfl rfl (zaV (k:=2) (cs:=[zI now1,zI now2,zI now3]) zit rfl dc rfl rfl rfl rfl ?_))
   obtain ⟨rr14,hr9,h⟩:=zlE h
   have hx23:xs=acc1++(⟨now1,now2,now3⟩:zaH)::rr14:=by rw [hx1,hr9]
   refine zdm hy rfl dc rfl hx23 rfl (k:=0) rfl ?_ ?_
   ·
    have hx24:xs=(acc1++[(⟨now1,now2,now3⟩:zaH)])++rr14:=by rw [hx23]; simp
    refine zaP (zcy (by simp) ?_)
    cases h
    exact zhA (ds:=ds1) (.inr rfl) (zbq (k:=4) rfl) results108 (congrArg I (hx24.trans (List.append_nil _))) (zab [0] kr rfl)
   refine zaP (zcy (by simp) ?_)
   exact zhg (ds:=ds1) acc1 (⟨now1,now2,now3⟩:zaH) rr14 hx23 (.inr rfl) (zbq (k:=4) rfl) results108 (zab [0] kr rfl)
  refine zal (zcy (by simp) ?_)
  cases h
  exact zhA (ds:=ds1) (.inr rfl) (zbq (k:=4) rfl) results108 (congrArg I (hx1.trans (List.append_nil _))) (zab [0] kr rfl)
 exact fun b hb=>hb.elim
def zgx (s1:zBA):Option zBA := some s1
theorem ziQ {s1:zBA} {r:zBA} (h:zgx s1=some r):Fn prog 80 [.string s1] [] (fun v0:Nat=>.func (.func 108) #[] #[zP v0]) (fun v0=>[cells v0 [.string r] 9]):=by
 unfold zgx at h
 refine Fn.intro func80 rfl ntmps80 (by simp) ?_
 intro w0 K
 refine zyG ?_
 refine zdi rfl dc rfl (fun b1 => ?_)
 refine zyR 1 rfl (zyH (zfU (x1:=[]) (x2:=[.tmp 1]) rfl dc rfl rfl (zyR 1 rfl (zyN (zau ?_)))))
 cases h
 exact zbt (rs:=[.tmp 2]) b1 (.inl rfl) results80 (.cons (.tmp rfl) .nil) rfl (zab [0] kr rfl)
theorem znF (s:zBA):s.data.toList.length=s.size:=by rw [Array.length_toList]; rfl
def zsa (r:Int):Bool→List Int→Bool
 | _,[]=>false
 | false,e::es=>if r<e then false else zsa r true es
 | true,e::es=>if r≤e then true else zsa r false es
def zvS:List Int:=(pcs zLit0.data.toList).map fun p=>(p.r:Int)
def zsW (r:Int):Bool:=zsa r false zvS
theorem zyx (r:Int):ze1 r=some (zsW r):=by
 unfold ze1 zsW zvS
 refine zcj ?_
 generalize hP:pcs zLit0.data.toList=P
 have hlen:P.length≤1000:=by rw [← hP]; decide +kernel
 have key:∀ (n m:Nat) (w:Bool),m≤P.length→P.length - m<n→za1 (fun _ _=>none) (zdE r (some false)) n w m=some (zsa r w ((P.drop m).map fun p=>(p.r:Int))):=by
  intro n
  induction n with
  | zero=>intro m w _ h; omega
  | succ n ih =>
   intro m w hm hn
   rw [zen]
   generalize za1 (fun _ _=>none) (zdE r (some false)) n=ag at ih ⊢
   unfold zdE
   rw [hP]
   by_cases h:m<P.length
   ·have hx:P[m]?=some P[m]:=List.getElem?_eq_getElem h
    have hd:=List.drop_eq_getElem_cons h
    generalize P[m]=p at hx hd
    have hn1:=fun w=>ih (m+1) w (by omega) (by omega)
    refine zaR (decide_eq_true h) (za7 hx (zcj ?_))
    rw [hd,List.map_cons]
    cases w with
    | false =>
     refine zaR rfl ?_
     unfold zsa
     by_cases h1:r<(p.r:Int)
     ·rw [if_pos h1]; exact zaR (decide_eq_true h1) rfl
     ·rw [if_neg h1]; exact zaK (decide_eq_false h1) (zaK rfl (hn1 true))
    | true =>
     refine zaK rfl (zaR rfl ?_)
     unfold zsa
     by_cases h1:r≤(p.r:Int)
     ·rw [if_pos h1]; exact zaR (decide_eq_true h1) rfl
     ·rw [if_neg h1]; exact zaK (decide_eq_false h1) (hn1 false)
   ·have:m=P.length:=by omega
    subst this
    refine zaK (decide_eq_false h) ?_
    rw [List.drop_length]
    cases w <;> rfl
 have:=key zcD 0 false (Nat.zero_le _) (by have:=zdI (n:=P.length) (by omega); omega)
 rw [List.drop_zero] at this
 exact this
def kdP (x:zaX):Int:=zd2 x.Broken x.Rune
def zpI (x:zaX):Int:=if kdP x=11 then 1 else if kdP x=2∨kdP x=4∨kdP x=9 then 0 else if zsW x.Rune=true then 2 else 1
theorem zuq (x:zaX):0≤zpI x∧zpI x≤2:=by
 unfold zpI; repeat' split
 all_goals omega
theorem zmR {a b:Int} (h:a=b):(a==b)=true:=by rw [h]; exact beq_self_eq_true _
theorem zmS {a b:Int} (h:a≠b):(a==b)=false:=beq_eq_false_iff_ne.2 h
theorem zAd {a b:Int} (h:a≠b):(a != b)=true:=bne_iff_ne.2 h
theorem zAe {a b:Int} (h:a=b):(a != b)=false:=by rw [h]; exact bne_self_eq_false _
theorem zmO (x:zaX) (hx:I32 x.Rune):zca x=some (zpI x):=by
 unfold zca zpI
 refine zcm hx ?_
 change zaB (kdP x==11) _ _=_
 by_cases h1:kdP x=11
 ·rw [if_pos h1]; exact zaR (zmR h1) rfl
 rw [if_neg h1]
 refine zaK (zmS h1) (zcj ?_)
 change zaB (kdP x==2) (zaB (kdP x==2) _ _) (zaB (kdP x==4) (zaB (kdP x==4) _ _) (zaB (kdP x==9) _ _))=_
 have wd:(zan (ze1 x.Rune) fun (r1:Bool)=>zaB (r1) (some (2:Int)) (some 1))=some (if zsW x.Rune=true then 2 else 1):=by
  refine za7 (zyx x.Rune) ?_
  cases zsW x.Rune <;> rfl
 by_cases h2:kdP x=2
 ·rw [if_pos (.inl h2)]; exact zaR (zmR h2) (zaR (zmR h2) rfl)
 refine zaK (zmS h2) ?_
 by_cases h4:kdP x=4
 ·rw [if_pos (.inr (.inl h4))]; exact zaR (zmR h4) (zaR (zmR h4) rfl)
 refine zaK (zmS h4) ?_
 by_cases h9:kdP x=9
 ·rw [if_pos (.inr (.inr h9))]; exact zaR (zmR h9) rfl
 rw [if_neg (by omega)]
 exact zaK (zmS h9) wd
def zsu (head behind:Int) (x:zaX):Bool:=if x.Broken then false else if kdP x=2 then true else if x.Rune=8205 then true else if head=10 then (if kdP x=10 then decide (behind=8205) else false) else false
theorem zxl (head:Int) (b x:zaX) (hx:I32 x.Rune):zd8 head b x=some (zsu head b.Rune x):=by
 unfold zd8 zsu
 cases hb:x.Broken with
 | true=>exact zaR rfl rfl
 | false =>
  refine zaK rfl (zcm hx ?_)
  have hk:kdP x=zd2 false x.Rune:=by unfold kdP; rw [hb]
  rw [← hk]
  simp only [Bool.false_eq_true,if_false]
  by_cases h2:kdP x=2
  ·rw [if_pos h2]; exact zaR (zmR h2) rfl
  rw [if_neg h2]
  refine zaK (zmS h2) ?_
  by_cases hj:x.Rune=8205
  ·rw [if_pos hj]; exact zaR (zmR hj) rfl
  rw [if_neg hj]
  refine zaK (zmS hj) ?_
  by_cases hh:head=10
  ·rw [if_pos hh]
   refine zaR (zmR hh) ?_
   by_cases h10:kdP x=10
   ·rw [if_pos h10]
    refine zaR (zmR h10) ?_
    by_cases e:b.Rune=8205
    ·rw [decide_eq_true e,zmR e]
    ·rw [decide_eq_false e,zmS e]
   ·rw [if_neg h10]; exact zaK (zmS h10) rfl
  ·rw [if_neg hh]; exact zaK (zmS hh) rfl
def zs4 (head last:Int) (x:zaX):Bool:=head != 11&&(head != 4&&(head != 9&&zsu head last x))
def zie:zaH→Int→Int→List zaX→List zaH
 | c,_,_,[]=>[c]
 | c,head,last,x::xs =>
  if last=13∧x.Rune=10 then zie ⟨c.Span_From,x.At+x.Width,c.Columns⟩ head x.Rune xs
  else if zs4 head last x=true then zie ⟨c.Span_From,x.At+x.Width,max c.Columns (zpI x)⟩ head x.Rune xs
  else c::zie ⟨x.At,x.At+x.Width,zpI x⟩ (kdP x) x.Rune xs
theorem zjC (c:zaH) (head last:Int) (x:zaX) (xs:List zaX):zie c head last (x::xs)=if last=13∧x.Rune=10 then zie ⟨c.Span_From,x.At+x.Width,c.Columns⟩ head x.Rune xs
  else if zs4 head last x=true then zie ⟨c.Span_From,x.At+x.Width,max c.Columns (zpI x)⟩ head x.Rune xs
  else c::zie ⟨x.At,x.At+x.Width,zpI x⟩ (kdP x) x.Rune xs:=rfl
def zwD:List zaX→List zaH
 | []=>[]
 | x::xs=>zie ⟨x.At,x.At+x.Width,zpI x⟩ (kdP x) x.Rune xs
def zaD (s:zBA):List zaH:=zwD ((pcs s.data.toList).map pcG)
def okP (x:zaX):Prop:=I32 x.Rune∧0≤x.At∧x.At≤4000000000∧0<x.Width∧x.Width≤4
theorem zug (d:Int→Int→Int→Int→Int→Int→Int→Bool→Bool→Option (List zaH)) (hd:∀ a b c h l1 l2 l3 l4,d a b c h l1 l2 l3 l4 true=some [⟨a,b,c⟩]) :
  ∀ (xs:List zaX) (a b c h l1 l2 l3:Int) (l4:Bool),(∀ x∈xs,okP x)→zcQ d zcH xs a b c h l1 l2 l3 l4 true=some (zie ⟨a,b,c⟩ h l3 xs)
 | [],a,b,c,h,l1,l2,l3,l4,_=>hd a b c h l1 l2 l3 l4
 | x::xs,a,b,c,h,l1,l2,l3,l4,ho=>by
  obtain ⟨o1,o2,o3,o4,o5⟩:=ho x (List.mem_cons_self ..)
  have ih:=fun a b c h l1 l2 l3 l4=>zug d hd xs a b c h l1 l2 l3 l4 (fun y hy=>ho y (List.mem_cons_of_mem _ hy))
  rw [zhV]
  generalize zcQ d zcH xs=ag at ih ⊢
  unfold zcH
  refine zcj (zcm o1 (zaK rfl ?_))
  have hI:I64 (x.At+x.Width):=⟨by omega,by omega⟩
  have new:(grd (I64 (x.At+x.Width))<|zan (zca x) fun (r6:Int)=>ag x.At (x.At+x.Width) r6 (zd2 x.Broken x.Rune) x.At x.Width x.Rune x.Broken true)=some (zie ⟨x.At,x.At+x.Width,zpI x⟩ (kdP x) x.Rune xs) :=
   zcm hI (za7 (zmO x o1) (ih ..))
  have rest:¬ (l3=13∧x.Rune=10)→zaB ((h:Int) != 11) (zaB ((h:Int) != 4) (zaB ((h:Int) != 9) (zan (zd8 h (⟨l1,l2,l3,l4⟩:zaX) x) fun (r2:Bool)=>zaB (r2) (grd (I64 (x.At+x.Width))<|zan (zca x) fun (r3:Int)=>ag a (x.At+x.Width) (max c r3) h x.At x.Width x.Rune x.Broken true)
    (zih (⟨a,b,c⟩:zaH)<|(grd (I64 (x.At+x.Width))<|zan (zca x) fun (r6:Int)=>ag x.At (x.At+x.Width) r6 (zd2 x.Broken x.Rune) x.At x.Width x.Rune x.Broken true)))
    (zih (⟨a,b,c⟩:zaH)<|(grd (I64 (x.At+x.Width))<|zan (zca x) fun (r6:Int)=>ag x.At (x.At+x.Width) r6 (zd2 x.Broken x.Rune) x.At x.Width x.Rune x.Broken true)))
    (zih (⟨a,b,c⟩:zaH)<|(grd (I64 (x.At+x.Width))<|zan (zca x) fun (r6:Int)=>ag x.At (x.At+x.Width) r6 (zd2 x.Broken x.Rune) x.At x.Width x.Rune x.Broken true)))
    (zih (⟨a,b,c⟩:zaH)<|(grd (I64 (x.At+x.Width))<|zan (zca x) fun (r6:Int)=>ag x.At (x.At+x.Width) r6 (zd2 x.Broken x.Rune) x.At x.Width x.Rune x.Broken true))=some (zie ⟨a,b,c⟩ h l3 (x::xs)):=by
   intro hn
   rw [new,zjC,if_neg hn]
   unfold zs4
   cases h1:(h != 11) with
   | false=>exact zaK rfl rfl
   | true =>
    refine zaR rfl ?_
    cases h2:(h != 4) with
    | false=>exact zaK rfl rfl
    | true =>
     refine zaR rfl ?_
     cases h3:(h != 9) with
     | false=>exact zaK rfl rfl
     | true =>
      refine zaR rfl (za7 (zxl h _ x o1) ?_)
      show zaB (zsu h l3 x) _ _=some (if (true&&(true&&(true&&zsu h l3 x)))=true then _ else _)
      cases h4:zsu h l3 x with
      | false=>exact zaK rfl rfl
      | true=>exact zaR rfl (zcm hI (za7 (zmO x o1) (ih ..)))
  by_cases hr:l3=13
  ·refine zaR (zmR hr) ?_
   by_cases hx:x.Rune=10
   ·refine zaR (zmR hx) (zcm hI ?_)
    rw [ih,zjC,if_pos ⟨hr,hx⟩]
   ·exact zaK (zmS hx) (rest (fun e=>hx e.2))
  ·exact zaK (zmS hr) (rest (fun e=>hr e.1))
theorem zxd (s:zBA) (hs:s.size≤2147483648):∀ x∈(pcs s.data.toList).map pcG,okP x:=by
 intro x hx
 obtain ⟨p,hp,rfl⟩:=List.mem_map.1 hx
 obtain ⟨g1,g2,hok⟩:=ziA s.data.toList p hp
 have hl:=znF s
 have h1:=hok.pos
 have hv:=hok.valid
 have hw:p.w≤4:=by
  by_cases h:p.r=65533∧p.w=1
  ·omega
  ·rw [← hok.width h]; exact (zjm _).2
 refine ⟨⟨?_,?_⟩,?_,?_,?_,?_⟩
 ·show -2147483648≤(p.r:Int); omega
 ·show (p.r:Int)≤2147483647; omega
 ·show 0≤(p.i:Int); omega
 ·show (p.i:Int)≤4000000000; omega
 ·show 0<(p.w:Int); omega
 ·show (p.w:Int)≤4; omega
theorem zzE (s:zBA) (hs:s.size≤2147483648):zei s=some (zaD s):=by
 unfold zei
 refine zcj (za7 rfl (za7 (zxb s hs) (zcj ?_)))
 have ho:=zxd s hs
 unfold zaD
 generalize (pcs s.data.toList).map pcG=P at ho
 cases P with
 | nil=>rfl
 | cons x xs =>
  obtain ⟨o1,o2,o3,o4,o5⟩:=ho x (List.mem_cons_self ..)
  rw [zhV]
  have ih:=zug (fun (now13:Int) (now14:Int) (now15:Int) (head4:Int) (last13:Int) (last14:Int) (last15:Int) (last16:Bool) (open5:Bool)=>zaB (open5) (zih (⟨now13,now14,now15⟩:zaH)<|some []) (some [])) (fun a b c h l1 l2 l3 l4=>rfl) xs x.At (x.At+x.Width) (zpI x) (kdP x) x.At x.Width x.Rune x.Broken (fun y hy=>ho y (List.mem_cons_of_mem _ hy))
  generalize zcQ _ zcH xs=ag at ih ⊢
  unfold zcH
  exact zcj (zcm o1 (zaR rfl (zcm ⟨by omega,by omega⟩ (za7 (zmO x o1) ih))))
def Cov:Int→List zaH→Int→Prop
 | a,[],b=>a=b
 | a,c::cs,b=>c.Span_From=a∧a<c.Span_To∧(0≤c.Columns∧c.Columns≤2)∧Cov c.Span_To cs b
def zzM:Int→List zaX→Int→Prop
 | a,[],b=>a=b
 | a,x::xs,b=>x.At=a∧0<x.Width∧zzM (a+x.Width) xs b
theorem zkl:∀ (xs:List zaX) (c:zaH) (h l:Int) (b:Int),c.Span_From<c.Span_To→0≤c.Columns∧c.Columns≤2→zzM c.Span_To xs b→Cov c.Span_From (zie c h l xs) b
 | [],c,h,l,b,h1,h2,h3=>⟨rfl,h1,h2,h3⟩
 | x::xs,c,h,l,b,h1,h2,h3=>by
  obtain ⟨g1,g2,g3⟩:=h3
  rw [← g1] at g3
  have hc:=zuq x
  rw [zjC]
  split
  ·exact zkl xs ⟨c.Span_From,x.At+x.Width,c.Columns⟩ h x.Rune b (by show c.Span_From<x.At+x.Width; omega) h2 g3
  split
  ·exact zkl xs ⟨c.Span_From,x.At+x.Width,max c.Columns (zpI x)⟩ h x.Rune b (by show c.Span_From<x.At+x.Width; omega) ⟨by show 0≤max c.Columns (zpI x); omega,by show max c.Columns (zpI x)≤2; omega⟩ g3
  ·refine ⟨rfl,h1,h2,?_⟩
   have:=zkl xs ⟨x.At,x.At+x.Width,zpI x⟩ (kdP x) x.Rune b (by show x.At<x.At+x.Width; omega) hc g3
   rw [← g1]; exact this
theorem zsJ {xs:List zaX} {a b:Int} (h:zzM a xs b):Cov a (zwD xs) b:=by
 cases xs with
 | nil=>exact h
 | cons x xs =>
  obtain ⟨g1,g2,g3⟩:=h
  rw [← g1] at g3 ⊢
  exact zkl xs ⟨x.At,x.At+x.Width,zpI x⟩ (kdP x) x.Rune b (by show x.At<x.At+x.Width; omega) (zuq x) g3
theorem zpe:∀ (ts:List Tok) (i:Nat),(∀ t∈ts,t.valid∨t.broken=true)→zzM (i:Int) ((place i ts).map pcG) ((i+(zyb ts).length:Nat):Int)
 | [],i,_=>rfl
 | t::ts,i,h=>by
  have hb:=List.length_pos_iff.2 (zA4 (h t (List.mem_cons_self ..)))
  have ih:=zpe ts (i+t.bs.length) fun u hu=>h u (List.mem_cons_of_mem _ hu)
  refine ⟨rfl,?_,?_⟩
  ·show 0<(t.bs.length:Int); omega
  ·show zzM ((i:Int)+(t.bs.length:Int)) _ _
   rw [show (i:Int)+(t.bs.length:Int)=((i+t.bs.length:Nat):Int) by omega,zpt,List.length_append,← Nat.add_assoc]
   exact ih
theorem zfW (s:zBA):Cov 0 (zaD s) (s.size:Int):=by
 unfold zaD
 refine zsJ ?_
 have h:=zpe (zuQ s.data.toList) 0 (zwW _)
 rw [zt2,Nat.zero_add,znF] at h
 rw [show pcs s.data.toList=place 0 (zuQ s.data.toList) from ztB _ 0]
 exact h
theorem zi4 (s:zBA):(zaD s).length≤s.size:=by
 have hc:=zfW s
 have key:∀ (cs:List zaH) (a b:Int),Cov a cs b→a+cs.length≤b:=by
  intro cs
  induction cs with
  | nil=>intro a b h; have:a=b:=h; simp; omega
  | cons c cs ih =>
   intro a b h
   obtain ⟨h1,h2,_,h3⟩:=h
   have:=ih _ _ h3
   rw [List.length_cons]; push_cast; omega
 have:=key _ _ _ hc
 omega
def zgm (l1:zaO):Option Bool := zaB (decide ((8:Int)≤l1.Width)) ( zaB (decide ((l1.Width:Int)≤256)) ( zaB (decide ((4:Int)≤l1.Height)) ( zaB (decide ((l1.Height:Int)≤200)) ( zaB (decide ((0:Int)≤l1.Turn)) ( zaB (decide ((l1.Turn:Int)≤7)) ( zaB (decide ((0:Int)≤l1.Every)) ( some (decide ((l1.Every:Int)≤512))
) ( some false
)
) ( some false
)
) ( some false
)
) ( some false
)
) ( some false
)
) ( some false
)
) ( some false
)
theorem zjw {l1:zaO} {r:Bool} (h:zgm l1=some r):FnP prog 28 [.agg (zr0 l1).toArray] (.bool r):=by
 unfold zgm at h
 refine FnP.intro func28 rfl ntmps28 (by simp) ?_
 intro w0 K
 refine zyG ?_
 refine zdi rfl dc rfl (fun b1 => ?_)
 refine zyR 1 rfl (zyH (zaa zoG rfl dc rfl (show _=0 from rfl) (zaj (k:=0) zbW rfl dc rfl rfl rfl (zaS rfl zbG (zyR 1 rfl ?_)))))
 refine zyS (s:=6) rfl h (fun h => ?_) (fun h => ?_)
 ·
  refine zaa zoG rfl dc rfl (show _=0 from rfl) (zaj (k:=0) zbW rfl dc rfl rfl rfl (zaS rfl zbM (zyR 2 rfl ?_)))
  refine zyS (s:=11) rfl h (fun h => ?_) (fun h => ?_)
  ·
   refine zaa zoF rfl dc rfl (show _=1 from rfl) (zaj (k:=0) zbW rfl dc rfl rfl rfl (zaS rfl zbG (zyR 2 rfl ?_)))
   refine zyS (s:=16) rfl h (fun h => ?_) (fun h => ?_)
   ·
    refine zaa zoF rfl dc rfl (show _=1 from rfl) (zaj (k:=0) zbW rfl dc rfl rfl rfl (zaS rfl zbM (zyR 2 rfl ?_)))
    refine zyS (s:=21) rfl h (fun h => ?_) (fun h => ?_)
    ·
     refine zaa zoE rfl dc rfl (show _=2 from rfl) (zaj (k:=0) zbW rfl dc rfl rfl rfl (zaS rfl zbG (zyR 2 rfl ?_)))
     refine zyS (s:=26) rfl h (fun h => ?_) (fun h => ?_)
     ·
      refine zaa zoE rfl dc rfl (show _=2 from rfl) (zaj (k:=0) zbW rfl dc rfl rfl rfl (zaS rfl zbM (zyR 2 rfl ?_)))
      refine zyS (s:=31) rfl h (fun h => ?_) (fun h => ?_)
      ·
       refine zaa zoD rfl dc rfl (show _=3 from rfl) (zaj (k:=0) zbW rfl dc rfl rfl rfl (zaS rfl zbG (zyR 2 rfl ?_)))
       refine zyS (s:=36) rfl h (fun h => ?_) (fun h => ?_)
       ·
        refine zaa zoD rfl dc rfl (show _=3 from rfl) (zaj (k:=0) zbW rfl dc rfl rfl rfl (zaS rfl zbM (zyR 2 rfl (zyN (zau ?_)))))
        cases h
        exact za2 2 results28
       refine zyR 5 rfl (zyN (zau ?_))
       cases h
       exact za2 2 results28
      refine zyR 10 rfl (zyN (zau ?_))
      cases h
      exact za2 2 results28
     refine zyR 14 rfl ?_
     refine zyR 1 rfl (zyN (zau ?_))
     cases h
     exact za2 2 results28
    refine zyR 14 rfl ?_
    refine zyR 6 rfl (zyN (zau ?_))
    cases h
    exact za2 2 results28
   refine zyR 14 rfl ?_
   refine zyR 11 rfl (zyN (zau ?_))
   cases h
   exact za2 2 results28
  refine zyR 14 rfl ?_
  refine zyR 14 rfl ?_
  refine zyR 2 rfl (zyN (zau ?_))
  cases h
  exact za2 2 results28
 refine zyR 14 rfl ?_
 refine zyR 14 rfl ?_
 refine zyR 7 rfl (zyN (zau ?_))
 cases h
 exact za2 2 results28
def zcC (t1:zbm) (k1:Int):Option Bool := zan (zdf t1.cells k1) fun (q1:zaH) => grd (I64 (q1.Span_From+1)) <| zaB ((q1.Span_To:Int)==(q1.Span_From+1)) ( zan (zkK t1.s q1.Span_From) fun (c1:Int) => some ((c1:Int)==32)
) ( some false
)
theorem zfx {bt1:Nat} {t1:zbm} {t1_h0 t1_h1 t1_h2:Hd} {k1:Int} {r:Bool} (h:zcC t1 k1=some r):FnR prog 95 [zP bt1,zI k1] [cells bt1 [.string t1.s,t1_h0.v,t1_h1.v,t1_h2.v,zI t1.first,zI t1.rest] 156,zv3 t1_h0.v t1.cells,zv0 t1_h1.v t1.wide,zv0 t1_h2.v t1.ends] [] (fun _:Unit=>(.bool r)) (fun _=>[]):=by
 unfold zcC at h
 refine FnR.intro func95 rfl ntmps95 (by simp) ?_
 intro w0 K hrd
 refine zyG (zyR 1 rfl (zyH (zyR 1 rfl (zai rfl dc rfl (zaa zgt rfl dc rfl (show _=1 from rfl) (zbs (i:=0) hrd rfl zis rfl dc rfl rfl (zyR 1 rfl ?_)))))))
 obtain ⟨q1,hq1,h⟩:=zbL h
 refine zbv (hrd.vw (i:=1) rfl) hq1 underlying123 zla rfl dc rfl rfl rfl (zaa zhr rfl dc rfl (show _=(0+(k1:Int).toNat)*3 from rfl) (zdT (m:=0+(k1:Int).toNat) (j:=0) (i:=1) (q:=q1) (cs:=[zI q1.Span_From,zI q1.Span_To]) hrd rfl zne zdw rfl dc rfl (Vw.get (hrd.vw (i:=1) rfl) hq1) rfl rfl rfl ?_))
 refine zbh zwO rfl dc (fun b1 => ?_)
 refine zaZ (k:=0) (vs:=[zI q1.Span_From,zI q1.Span_To]) (l':=[zI q1.Span_From,zI q1.Span_To]) zsf rfl rfl rfl rfl rfl (show _≤_ by simp) rfl rfl ?_
 refine zyN (zaE ?_)
 obtain ⟨hg1,h⟩:=zbQ h
 refine zeH (b:=(q1.Span_To:Int)==(q1.Span_From+1)) (fun hb1 => ?_) (fun hb1 => ?_)
 ·
  have h:=zgT hb1 h
  obtain ⟨c1,hq2,h⟩:=zbL h
  refine zbB 13 [(0,14,.pointer (some ⟨b1,1,none⟩)),(1,15,zI q1.Span_To),(2,16,zP b1),(3,17,zI q1.Span_From),(4,18,zI (q1.Span_From+1)),(5,19,.bool true),(6,20,.bool true),(7,21,zP bt1),(8,22,zP bt1),(9,23,zP bt1),(10,24,.string t1.s),(11,25,zP b1),(12,26,zI q1.Span_From)] mixed kr kr dc (by rfl) kr kr (zad ?_ (zad ?_ (zad ?_ (zad ?_ (zad ?_ (zad ?_ (zyP 2 6 rfl (zad ?_ (zad ?_ (zad ?_ (zad ?_ (zad ?_ DrawPre.nil)))))))))))) ?_
  · exact fun D n d c u i=>zaa zdK rfl dc (zbd (by rfl) rfl) (show _=1 from rfl) (zar 0 u i)
  · exact fun D n d c u i=>zaj (k:=0) zbW rfl dc (zam 0 u d) rfl rfl (zar 1 u i)
  · exact fun D n d c u i=>zaa zhb rfl dc (zbd (by rfl) rfl) (show _=0 from rfl) (zar 2 u i)
  · exact fun D n d c u i=>zaj (k:=0) zbW rfl dc (zam 2 u d) rfl rfl (zar 3 u i)
  · exact fun D n d c u i=>zb6 rfl dc (zam 3 u d) rfl (zbb (r:=q1.Span_From+1) (IntWalk.i64_in _ hg1)) (zar 4 u i)
  · exact fun D n d c u i=>zb6 rfl dc (zam 1 u d) (zam 4 u d) zaL (zdF (show Value.bool ((q1.Span_To:Int)==(q1.Span_From+1))=Value.bool true from congrArg Value.bool hb1) (zar 5 u i))
  · exact fun D n d c u i=>zai (zeV rfl (zam 6 u d)) dc (zam 7 u d) (zar 8 u i)
  · exact fun D n d c u i=>zaa zrF (zeV rfl (zam 6 u d)) dc (zam 8 u d) (show _=0 from rfl) (zar 9 u i)
  · exact fun D n d c u i=>zbs (i:=0) hrd rfl zhk (zeV rfl (zam 6 u d)) dc (zam 9 u d) rfl (zar 10 u i)
  · exact fun D n d c u i=>zaa zhb (zeV rfl (zam 6 u d)) dc (zbd (by rfl) rfl) (show _=0 from rfl) (zar 11 u i)
  · exact fun D n d c u i=>zaj (k:=0) zbW (zeV rfl (zam 6 u d)) dc (zam 11 u d) rfl rfl (zar 12 u i)
  refine zea rfl dc rfl rfl (zcc underlying9 hq2) (zaS rfl zaL (zyR 2 rfl (zyN (zau ?_))))
  cases h
  exact za2 4 results95
 have h:=zgU hb1 h
 refine zbB 13 [(0,14,.pointer (some ⟨b1,1,none⟩)),(1,15,zI q1.Span_To),(2,16,zP b1),(3,17,zI q1.Span_From),(4,18,zI (q1.Span_From+1)),(5,19,.bool false),(6,20,.bool false),(7,21,undef),(8,22,undef),(9,23,undef),(10,24,undef),(11,25,undef),(12,26,undef)] mixed kr kr dc (by rfl) kr kr (zad ?_ (zad ?_ (zad ?_ (zad ?_ (zad ?_ (zad ?_ (zyP 7 6 rfl DrawPre.nil))))))) ?_
 · exact fun D n d c u i=>zaa zdK rfl dc (zbd (by rfl) rfl) (show _=1 from rfl) (zar 0 u i)
 · exact fun D n d c u i=>zaj (k:=0) zbW rfl dc (zam 0 u d) rfl rfl (zar 1 u i)
 · exact fun D n d c u i=>zaa zhb rfl dc (zbd (by rfl) rfl) (show _=0 from rfl) (zar 2 u i)
 · exact fun D n d c u i=>zaj (k:=0) zbW rfl dc (zam 2 u d) rfl rfl (zar 3 u i)
 · exact fun D n d c u i=>zb6 rfl dc (zam 3 u d) rfl (zbb (r:=q1.Span_From+1) (IntWalk.i64_in _ hg1)) (zar 4 u i)
 · exact fun D n d c u i=>zb6 rfl dc (zam 1 u d) (zam 4 u d) zaL (zdF (show Value.bool ((q1.Span_To:Int)==(q1.Span_From+1))=Value.bool false from congrArg Value.bool hb1) (zar 5 u i))
 refine zyR 4 rfl (zyN (zau ?_))
 cases h
 exact za2 4 results95
def zcA (t1:zbm) (from1:Int) (to1:Int):Option Int := zan (zdf t1.ends to1) fun (q1:Int) => zan (zdf t1.wide (max from1 q1)) fun (q2:Int) => zan (zdf t1.wide from1) fun (q3:Int) => grd (I64 (q2 - q3)) <| some (q2 - q3)
theorem ze2 {bt1:Nat} {t1:zbm} {t1_h0 t1_h1 t1_h2:Hd} {from1:Int} {to1:Int} {r:Int} (h:zcA t1 from1 to1=some r):FnR prog 96 [zP bt1,zI from1,zI to1] [cells bt1 [.string t1.s,t1_h0.v,t1_h1.v,t1_h2.v,zI t1.first,zI t1.rest] 156,zv3 t1_h0.v t1.cells,zv0 t1_h1.v t1.wide,zv0 t1_h2.v t1.ends] [] (fun _:Unit=>(zI r)) (fun _=>[]):=by
 unfold zcA at h
 refine FnR.intro func96 rfl ntmps96 (by simp) ?_
 intro w0 K hrd
 refine zyG (zyR 1 rfl (zyH (zyR 2 rfl (zai rfl dc rfl (zaa zj4 rfl dc rfl (show _=3 from rfl) (zbs (i:=0) hrd rfl zhS rfl dc rfl rfl (zyR 1 rfl ?_)))))))
 obtain ⟨q1,hq1,h⟩:=zbL h
 refine zbv (hrd.vw (i:=3) rfl) hq1 underlying24 zeI rfl dc rfl rfl rfl (zde (n:=0+(to1:Int).toNat) (j:=0) (i:=3) (q:=q1) hrd rfl zbW zcJ rfl dc rfl (Vw.get (hrd.vw (i:=3) rfl) hq1) rfl dc rfl (zk5 rfl dc rfl rfl (zyR 1 rfl (zyN (zaE ?_)))))
 obtain ⟨q2,hq2,h⟩:=zbL h
 obtain ⟨q3,hq3,h⟩:=zbL h
 obtain ⟨hg1,h⟩:=zbQ h
 refine zbB 14 [(0,16,zP bt1),(1,17,zP bt1),(2,18,.pointer (some ⟨bt1,2,none⟩)),(3,19,t1_h1.v),(4,20,zI (max from1 q1)),(5,21,.pointer (some ⟨zdz t1_h1.v,(0+(max from1 q1:Int).toNat)*1,none⟩)),(6,22,zI q2),(7,23,zP bt1),(8,24,zP bt1),(9,25,.pointer (some ⟨bt1,2,none⟩)),(10,26,t1_h1.v),(11,27,zI from1),(12,28,.pointer (some ⟨zdz t1_h1.v,(0+(from1:Int).toNat)*1,none⟩)),(13,29,zI q3)] mixed kr kr dc (by rfl) kr kr (zyP 1 0 rfl (zad ?_ (zad ?_ (zad ?_ (zyP 1 4 rfl (zad ?_ (zad ?_ (zyP 1 7 rfl (zad ?_ (zad ?_ (zad ?_ (zyP 1 11 rfl (zad ?_ (zad ?_ DrawPre.nil)))))))))))))) ?_
 · exact fun D n d c u i=>zai rfl dc (zam 0 u d) (zar 1 u i)
 · exact fun D n d c u i=>zaa zj5 rfl dc (zam 1 u d) (show _=2 from rfl) (zar 2 u i)
 · exact fun D n d c u i=>zbs (i:=0) hrd rfl zhS rfl dc (zam 2 u d) rfl (zar 3 u i)
 · exact fun D n d c u i=>zbv (hrd.vw (i:=2) rfl) hq2 underlying24 zeI rfl dc (zam 3 u d) (zam 4 u d) rfl (zar 5 u i)
 · exact fun D n d c u i=>zde (n:=0+(max from1 q1:Int).toNat) (j:=0) (i:=2) (q:=q2) hrd rfl zbW zcJ rfl dc (zam 5 u d) (Vw.get (hrd.vw (i:=2) rfl) hq2) rfl dc rfl (zar 6 u i)
 · exact fun D n d c u i=>zai rfl dc (zam 7 u d) (zar 8 u i)
 · exact fun D n d c u i=>zaa zj5 rfl dc (zam 8 u d) (show _=2 from rfl) (zar 9 u i)
 · exact fun D n d c u i=>zbs (i:=0) hrd rfl zhS rfl dc (zam 9 u d) rfl (zar 10 u i)
 · exact fun D n d c u i=>zbv (hrd.vw (i:=2) rfl) hq3 underlying24 zeI rfl dc (zam 10 u d) (zam 11 u d) rfl (zar 12 u i)
 · exact fun D n d c u i=>zde (n:=0+(from1:Int).toNat) (j:=0) (i:=2) (q:=q3) hrd rfl zbW zcJ rfl dc (zam 12 u d) (Vw.get (hrd.vw (i:=2) rfl) hq3) rfl dc rfl (zar 13 u i)
 refine zaS rfl (zce (r:=q2 - q3) (IntWalk.i64_in _ hg1)) (zyR 1 rfl (zyN (zau ?_)))
 cases h
 exact za2 6 results96
def zc2 (t1:zbm) (from1:Int):Option Int := zaB ((from1:Int)==0) ( some t1.first
) ( some t1.rest
)
theorem zfQ {bt1:Nat} {t1:zbm} {t1_h0 t1_h1 t1_h2:Hd} {from1:Int} {r:Int} (h:zc2 t1 from1=some r):FnR prog 97 [zP bt1,zI from1] [cells bt1 [.string t1.s,t1_h0.v,t1_h1.v,t1_h2.v,zI t1.first,zI t1.rest] 156,zv3 t1_h0.v t1.cells,zv0 t1_h1.v t1.wide,zv0 t1_h2.v t1.ends] [] (fun _:Unit=>(zI r)) (fun _=>[]):=by
 unfold zc2 at h
 refine FnR.intro func97 rfl ntmps97 (by simp) ?_
 intro w0 K hrd
 refine zyG (zyR 1 rfl (zyN (zaE (zyG (zyR 1 rfl (zaS rfl zaL (zyN ?_)))))))
 refine zyB rfl h (fun h => ?_) (fun h => ?_)
 ·
  refine zyG (zyR 1 rfl (zai rfl dc rfl (zaa zvw rfl dc rfl (show _=4 from rfl) (zbs (i:=0) hrd rfl zbW rfl dc rfl rfl (zyR 1 rfl (zyN (zau (zaf ?_))))))))
  cases h
  exact za2 4 results97
 refine zal (zay (zyG (zyR 1 rfl (zai rfl dc rfl (zaa zvv rfl dc rfl (show _=5 from rfl) (zbs (i:=0) hrd rfl zbW rfl dc rfl rfl (zyR 1 rfl (zyN (zau ?_)))))))))
 cases h
 exact za2 4 results97
def zd4 (t1:zbm) (from1:Int) (to1:Int):Option Bool := zbE (fun (j1:Option Bool) => zaB (decide ((0:Int)<from1)) ( zan (zcC t1 from1) fun (r1:Bool) => zaB (r1) ( some false
) ( j1
)
) ( j1
)
) ( zan (zcA t1 from1 to1) fun (r2:Int) => zan (zc2 t1 from1) fun (r3:Int) => zaB (decide ((r2:Int)≤r3)) ( some true
) ( zan (zdf t1.ends to1) fun (q1:Int) => grd (I64 (from1+1)) <| some (decide ((q1:Int)≤(from1+1)))
)
)
theorem zhn {bt1:Nat} {t1:zbm} {t1_h0 t1_h1 t1_h2:Hd} {from1:Int} {to1:Int} {r:Bool} (h:zd4 t1 from1 to1=some r):FnR prog 65 [zP bt1,zI from1,zI to1] [cells bt1 [.string t1.s,t1_h0.v,t1_h1.v,t1_h2.v,zI t1.first,zI t1.rest] 156,zv3 t1_h0.v t1.cells,zv0 t1_h1.v t1.wide,zv0 t1_h2.v t1.ends] [] (fun _:Unit=>(.bool r)) (fun _=>[]):=by
 unfold zd4 at h
 refine FnR.intro func65 rfl ntmps65 (by simp) ?_
 intro w0 K hrd
 obtain ⟨j1,hj1,h⟩:=zbT h
 refine za8 (β:=Unit) 1 rfl (fun b=>j1=some r) (fun b=>[]) (fun b=>[(0,zP bt1),(1,zI from1),(2,zI to1)]) (fun b=>[]) (fun cut => ?_) ?_
 ·
  refine zyG (zyR 1 rfl (zyN (cut (zyG (zyR 1 rfl (zaS rfl zc1 (zyR 1 rfl ?_)))))))
  refine zyS (s:=9) rfl h (fun h => ?_) (fun h => ?_)
  ·
   refine zyR 2 rfl ?_
   obtain ⟨r1,hq1,h⟩:=zbL h
   refine zbK (v:=.bool r1) (vs:=[zP bt1,zI from1]) hrd rfl dc rfl rfl rfl zxD (zfx (bt1:=bt1) (t1:=t1) (t1_h0:=t1_h0) (t1_h1:=t1_h1) (t1_h2:=t1_h2) hq1) (.ro 0 rfl (.ro 1 rfl (.ro 2 rfl (.ro 3 rfl .nil)))) (zyR 1 rfl (zyN ?_))
   refine zyB rfl h (fun h => ?_) (fun h => ?_)
   ·
    refine zyG (zyR 1 rfl (zyN (zau (zaf ?_))))
    cases h
    exact za2 6 results65
   refine zal ?_
   exact zak () h rfl (zbf rfl) Splits.nil
  refine zyR 4 rfl (zyN (zaM rfl (zal ?_)))
  exact zak () h rfl (zbf rfl) Splits.nil
 rintro _ h
 rw [hj1] at h
 refine zyG (zyR 3 rfl ?_)
 obtain ⟨r2,hq2,h⟩:=zbL h
 refine zbK (v:=zI r2) (vs:=[zP bt1,zI from1,zI to1]) hrd rfl dc rfl rfl rfl zxC (ze2 (bt1:=bt1) (t1:=t1) (t1_h0:=t1_h0) (t1_h1:=t1_h1) (t1_h2:=t1_h2) hq2) (.ro 0 rfl (.ro 1 rfl (.ro 2 rfl (.ro 3 rfl .nil)))) (zyR 2 rfl ?_)
 obtain ⟨r3,hq3,h⟩:=zbL h
 refine zbK (v:=zI r3) (vs:=[zP bt1,zI from1]) hrd rfl dc rfl rfl rfl zxB (zfQ (bt1:=bt1) (t1:=t1) (t1_h0:=t1_h0) (t1_h1:=t1_h1) (t1_h2:=t1_h2) hq3) (.ro 0 rfl (.ro 1 rfl (.ro 2 rfl (.ro 3 rfl .nil)))) (zaS rfl zbM (zyR 1 rfl ?_))
 refine zyS (s:=22) rfl h (fun h => ?_) (fun h => ?_)
 ·
  refine zyR 12 rfl (zyN ?_)
  refine zau ?_
  cases h
  exact za2 6 results65
 refine zyR 1 rfl (zai rfl dc rfl (zaa zj4 rfl dc rfl (show _=3 from rfl) (zbs (i:=0) hrd rfl zhS rfl dc rfl rfl (zyR 1 rfl ?_))))
 obtain ⟨q1,hq4,h⟩:=zbL h
 refine zbv (hrd.vw (i:=3) rfl) hq4 underlying24 zeI rfl dc rfl rfl rfl (zde (n:=0+(to1:Int).toNat) (j:=0) (i:=3) (q:=q1) hrd rfl zbW zcJ rfl dc rfl (Vw.get (hrd.vw (i:=3) rfl) hq4) rfl dc rfl (zyR 1 rfl ?_))
 obtain ⟨hg1,h⟩:=zbQ h
 refine zaS rfl (zbb (r:=from1+1) (IntWalk.i64_in _ hg1)) (zaS rfl zbM (zyR 2 rfl (zyN (zau ?_))))
 cases h
 exact za2 6 results65
def zdG (t1:zbm) (from1:Int) (to1:Int):Option Int := zbE (fun (j1:Int→Option Int) => zan (zc2 t1 from1) fun (r1:Int) => zan (zcA t1 from1 to1) fun (r2:Int) => grd (I64 (r1 - r2)) <| zaB (decide ((0:Int)<(r1 - r2))) ( grd (I64 ((r1 - r2)*(r1 - r2))) <| j1 ((r1 - r2)*(r1 - r2))
) ( j1 0
)
) (fun (n1:Int) => zbE (fun (j2:Int→Option Int) => grd (I64 (to1 - 1)) <| zan (zcC t1 (to1 - 1)) fun (r3:Bool) => zaB (!r3) ( grd (I64 (n1+1000)) <| j2 (n1+1000)
) ( j2 n1
)
) (fun (n2:Int) => some n2
)
)
theorem zg6 {bt1:Nat} {t1:zbm} {t1_h0 t1_h1 t1_h2:Hd} {from1:Int} {to1:Int} {r:Int} (h:zdG t1 from1 to1=some r):FnR prog 66 [zP bt1,zI from1,zI to1] [cells bt1 [.string t1.s,t1_h0.v,t1_h1.v,t1_h2.v,zI t1.first,zI t1.rest] 156,zv3 t1_h0.v t1.cells,zv0 t1_h1.v t1.wide,zv0 t1_h2.v t1.ends] [] (fun _:Unit=>(zI r)) (fun _=>[]):=by
 unfold zdG at h
 refine FnR.intro func66 rfl ntmps66 (by simp) ?_
 intro w0 K hrd
 obtain ⟨j1,hj1,h⟩:=zbT h
 refine za8 (β:=Int) 2 rfl (fun b=>j1 b=some r) (fun b=>[]) (fun b=>[(0,zP bt1),(2,zI to1),(7,zI b)]) (fun b=>[]) (fun cut => ?_) ?_
 ·
  refine zyG (zyR 1 rfl (zyH (zyR 1 rfl (zyN (cut (zyG (zyR 1 rfl ?_)))))))
  refine zyR 1 rfl ?_
  obtain ⟨r1,hq1,h⟩:=zbL h
  refine zbK (v:=zI r1) (vs:=[zP bt1,zI from1]) hrd rfl dc rfl rfl rfl zxB (zfQ (bt1:=bt1) (t1:=t1) (t1_h0:=t1_h0) (t1_h1:=t1_h1) (t1_h2:=t1_h2) hq1) (.ro 0 rfl (.ro 1 rfl (.ro 2 rfl (.ro 3 rfl .nil)))) (zyR 3 rfl ?_)
  obtain ⟨r2,hq2,h⟩:=zbL h
  refine zbK (v:=zI r2) (vs:=[zP bt1,zI from1,zI to1]) hrd rfl dc rfl rfl rfl zxC (ze2 (bt1:=bt1) (t1:=t1) (t1_h0:=t1_h0) (t1_h1:=t1_h1) (t1_h2:=t1_h2) hq2) (.ro 0 rfl (.ro 1 rfl (.ro 2 rfl (.ro 3 rfl .nil)))) ?_
  obtain ⟨hg1,h⟩:=zbQ h
  refine zaS rfl (zce (r:=r1 - r2) (IntWalk.i64_in _ hg1)) (zyR 1 rfl (zyH (zyR 1 rfl (zaS rfl zc1 (zyN ?_)))))
  refine zyB rfl h (fun h => ?_) (fun h => ?_)
  ·
   refine zas (zyR 2 rfl ?_)
   obtain ⟨hg2,h⟩:=zbQ h
   refine zaS rfl (zqT (r:=(r1 - r2)*(r1 - r2)) (IntWalk.i64_in _ hg2)) (zyR 1 rfl (zaP ?_))
   exact zak ((r1 - r2)*(r1 - r2)) h rfl (zbf rfl) Splits.nil
  refine zal ?_
  exact zak 0 h rfl (zbf rfl) Splits.nil
 rintro n1 h
 rw [hj1] at h
 obtain ⟨j2,hj2,h⟩:=zbT h
 refine za8 (β:=Int) 0 rfl (fun b=>j2 b=some r) (fun b=>[]) (fun b=>[(7,zI b)]) (fun b=>[]) (fun cut => ?_) ?_
 ·
  refine cut (zyG (zyR 2 rfl ?_))
  obtain ⟨hg3,h⟩:=zbQ h
  refine zaS rfl (zce (r:=to1 - 1) (IntWalk.i64_in _ hg3)) ?_
  obtain ⟨r3,hq3,h⟩:=zbL h
  refine zbK (v:=.bool r3) (vs:=[zP bt1,zI (to1 - 1)]) hrd rfl dc rfl rfl rfl zxD (zfx (bt1:=bt1) (t1:=t1) (t1_h0:=t1_h0) (t1_h1:=t1_h1) (t1_h2:=t1_h2) hq3) (.ro 0 rfl (.ro 1 rfl (.ro 2 rfl (.ro 3 rfl .nil)))) (zdt rfl dc rfl zct (zyN ?_))
  refine zyB rfl h (fun h => ?_) (fun h => ?_)
  ·
   refine zas (zyR 1 rfl ?_)
   obtain ⟨hg4,h⟩:=zbQ h
   refine zaS rfl (zbb (r:=n1+1000) (IntWalk.i64_in _ hg4)) (zyR 1 rfl (zaP ?_))
   exact zak (n1+1000) h rfl (zbf rfl) Splits.nil
  refine zal ?_
  exact zak n1 h rfl (zbf rfl) Splits.nil
 rintro n2 h
 rw [hj2] at h
 refine zyG (zyR 2 rfl (zyN (zau ?_)))
 cases h
 exact za2 6 results66
def zco (t1:zbm) (from3:Int) (j2:(List zaw)→Option ((List Int)×Int)) (ag2:(List zaw)→Int→Option ((List Int)×Int)) (all8:List zaw) (to3:Int):Option ((List Int)×Int) := zaB (decide ((to3:Int)≤(t1.cells.length:Int))) ( zbE (fun (j3:(List zaw)→Option ((List Int)×Int)) => zan (zd4 t1 from3 to3) fun (r1:Bool) => zaB (!r1) ( zan (zcA t1 from3 to3) fun (r2:Int) => zan (zc2 t1 from3) fun (r3:Int) => zaB (decide ((r3:Int)<r2)) ( j2 all8
) ( j3 all8
)
) ( zbE (fun (j4:Int→Int→Option ((List Int)×Int)) => zaB (decide ((to3:Int)<(t1.cells.length:Int))) ( zan (zdf all8 to3) fun (q2:zaw) => zaB (decide ((q2.rows:Int)<0)) ( j3 all8
) ( zan (zdG t1 from3 to3) fun (r4:Int) => zan (zdf all8 to3) fun (q3:zaw) => grd (I64 (r4+q3.cost)) <| grd (I64 (q3.rows+1)) <| j4 (r4+q3.cost) (q3.rows+1)
)
) ( j4 0 1
)
) (fun (b2:Int) (b3:Int) => zan (zdf all8 from3) fun (q4:zaw) => zaB (decide ((q4.rows:Int)<0)) ( zan (zdf all8 from3) fun (q5:zaw) => j3 (all8.set (from3:Int).toNat (⟨b2,b3,to3⟩:zaw))
) ( zaB (decide ((b2:Int)<q4.cost)) ( zan (zdf all8 from3) fun (q6:zaw) => j3 (all8.set (from3:Int).toNat (⟨b2,b3,to3⟩:zaw))
) ( zaB ((b2:Int)==q4.cost) ( zaB (decide ((b3:Int)≤q4.rows)) ( zan (zdf all8 from3) fun (q7:zaw) => j3 (all8.set (from3:Int).toNat (⟨b2,b3,to3⟩:zaw))
) ( j3 all8
)
) ( j3 all8
)
)
)
)
)
) (fun (all9:List zaw) => grd (I64 (to3+1)) <| ag2 all9 (to3+1)
)
) ( j2 all8
)
def zcp (t1:zbm) (j1:(List zaw)→Option ((List Int)×Int)) (ag1:(List zaw)→Int→Option ((List Int)×Int)) (all4:List zaw) (from3:Int):Option ((List Int)×Int) := zaB (decide ((0:Int)≤from3)) ( zbE (fun (j2:(List zaw)→Option ((List Int)×Int)) => zan (zdf all4 from3) fun (q1:zaw) => grd (I64 (from3+1)) <| za1 (fun _ _=>none) (zco t1 from3 j2) zcD (all4.set (from3:Int).toNat (⟨q1.cost,(-1),q1.to_⟩:zaw)) (from3+1)
) (fun (all5:List zaw) => grd (I64 (from3 - 1)) <| ag1 all5 (from3 - 1)
)
) ( j1 all4
)
def zcb (t1:zbm) (all1:List zaw) (j5:(List Int)→Option ((List Int)×Int)) (ag3:(List Int)→Int→Option ((List Int)×Int)) (out4:List Int) (from6:Int):Option ((List Int)×Int) := zaB (decide ((from6:Int)<(t1.cells.length:Int))) ( zan (zdf all1 from6) fun (q8:zaw) => grd (out4.length+1≤2147483648) <| zan (zdf all1 from6) fun (q9:zaw) => ag3 (out4++[q8.to_]) q9.to_
) ( j5 out4
)
def zem (t1:zbm):Option ((List Int)×Int) := zbE (fun (j1:(List zaw)→Option ((List Int)×Int)) => grd (I64 ((t1.cells.length:Int)+1)) <| grd (0≤((t1.cells.length:Int)+1)∧((t1.cells.length:Int)+1)≤2147483648) <| grd (I64 ((t1.cells.length:Int) - 1)) <| za1 (fun _ _=>none) (zcp t1 j1) zcD (List.replicate ((t1.cells.length:Int)+1:Int).toNat (⟨0,0,0⟩:zaw):List zaw) ((t1.cells.length:Int) - 1)
) (fun (all1:List zaw) => zbE (fun (j5:(List Int)→Option ((List Int)×Int)) => za1 (fun _ _=>none) (zcb t1 all1 j5) zcD ([]:List Int) 0
) (fun (out1:List Int) => zan (zdf all1 0) fun (q10:zaw) => some (out1,q10.cost)
)
)
theorem zjv {bt1:Nat} {t1:zbm} {t1_h0 t1_h1 t1_h2:Hd} {r:((List Int)×Int)} (h:zem t1=some r):FnR prog 88 [zP bt1] [cells bt1 [.string t1.s,t1_h0.v,t1_h1.v,t1_h2.v,zI t1.first,zI t1.rest] 156,zv3 t1_h0.v t1.cells,zv0 t1_h1.v t1.wide,zv0 t1_h2.v t1.ends] [] (fun v0:Value=>.tuple #[v0,zI r.2]) (fun v0=>[zv0 v0 r.1]):=by
 unfold zem at h
 refine FnR.intro func88 rfl ntmps88 (by simp) ?_
 intro w0 K hrd
 obtain ⟨j1,hj1,h⟩:=zbT h
 refine za8 (β:=(List zaw)×Value) 3 rfl (fun b=>j1 b.1=some r) (fun b=>[]) (fun b=>[(4,zI (t1.cells.length:Int)),(5,b.2)]) (fun b=>[zv9 b.2 b.1]) (fun cut => ?_) ?_
 ·
  refine zyG (zyR 2 rfl (zyH (zyR 1 rfl (zai rfl dc rfl (zaa zgt rfl dc rfl (show _=1 from rfl) (zbs (i:=0) hrd rfl zis rfl dc rfl rfl (zcO (hrd.vw (i:=1) rfl) rfl dc rfl underlying123 (zyR 1 rfl ?_))))))))
  refine zyH (zyR 1 rfl ?_)
  obtain ⟨hg1,h⟩:=zbQ h
  refine zaS rfl (zbb (r:=(t1.cells.length:Int)+1) (IntWalk.i64_in _ hg1)) ?_
  obtain ⟨hg2,h⟩:=zbQ h
  refine zk6 (z:=(⟨0,0,0⟩:zaw)) underlying135 zwA znt zbe rfl dc rfl hg2 (fun v2 => ?_)
  refine zyR 1 rfl (zyN (cut (zyG (zyR 1 rfl ?_))))
  obtain ⟨hg3,h⟩:=zbQ h
  refine zaS rfl (zce (r:=(t1.cells.length:Int) - 1) (IntWalk.i64_in _ hg3)) (zyR 1 rfl (zyN (zaG ?_)))
  refine zbP (β:=Nat×(List zaw)×Int) (fun b=>za1 (fun _ _=>none) (zcp t1 j1) b.1 b.2.1 b.2.2=some r) (fun b=>[]) (fun b=>[(0,zP bt1),(4,zI (t1.cells.length:Int)),(5,v2),(6,zI b.2.2)]) (fun b=>[zv9 v2 b.2.1]) (fun b=>b.1) (zcD,(List.replicate ((t1.cells.length:Int)+1:Int).toNat (⟨0,0,0⟩:zaw):List zaw),(t1.cells.length:Int) - 1) h rfl (zbf rfl) (zab [0] kr rfl) ?_
  rintro ⟨n1,all4,from3⟩ h
  cases n1 with
  | zero=>exact zdO h
  | succ n1 =>
   obtain ⟨ag1,hag1⟩:∃ ag,ag=za1 (fun _ _=>none) (zcp t1 j1) n1:=⟨_,rfl⟩
   have h:zcp t1 j1 ag1 all4 from3=some r:=by rw [hag1]; exact h
   unfold zcp at h
   refine zaE (zyG (zyR 1 rfl (zaS rfl zbG (zyN ?_))))
   refine zyB rfl h (fun h => ?_) (fun h => ?_)
   ·
    refine zal (zay ?_)
    obtain ⟨j2,hj2,h⟩:=zbT h
    refine za8 (β:=(List zaw)) 0 rfl (fun b=>j2 b=some r) (fun b=>[]) (fun b=>[(0,zP bt1),(4,zI (t1.cells.length:Int)),(5,v2),(6,zI from3)]) (fun b=>[zv9 v2 b]) (fun cut => ?_) ?_
    ·
     refine cut (zaG ?_)
     refine zfL (β:=Unit) (l:=0) (fun _=>False) (fun _=>[]) (fun _=>[]) rfl ?_ ?_
     ·
      refine zyG (zyR 2 rfl ?_)
      obtain ⟨q1,hq1,h⟩:=zbL h
      refine za3 (k:=0) hq1 underlying135 zdL rfl dc rfl rfl rfl rfl (zaa zf9 rfl dc rfl (show _=((from3:Int).toNat)*3+1 from rfl) ?_)
      refine zex (i:=(from3:Int).toNat) (j:=1) (k:=0) (q:=q1) (q':=(⟨q1.cost,(-1),q1.to_⟩:zaw)) zeI zbe rfl rfl rfl rfl (zbo hq1) rfl dc rfl (fun _ _=>rfl) ?_
      refine zyN (zaE (zkq (zay (zyG (zyR 1 rfl ?_)))))
      obtain ⟨hg4,h⟩:=zbQ h
      refine zaS rfl (zbb (r:=from3+1) (IntWalk.i64_in _ hg4)) (zyR 1 rfl (zyN (zaG ?_)))
      refine zbP (β:=Nat×(List zaw)×Int) (fun b=>za1 (fun _ _=>none) (zco t1 from3 j2) b.1 b.2.1 b.2.2=some r) (fun b=>[]) (fun b=>[(0,zP bt1),(4,zI (t1.cells.length:Int)),(5,v2),(6,zI from3),(7,zI b.2.2)]) (fun b=>[zv9 v2 b.2.1]) (fun b=>b.1) (zcD,all4.set (from3:Int).toNat (⟨q1.cost,(-1),q1.to_⟩:zaw),from3+1) h rfl (zbf rfl) (zab [0] kr rfl) ?_
      rintro ⟨n2,all8,to3⟩ h
      cases n2 with
      | zero=>exact zdO h
      | succ n2 =>
       obtain ⟨ag2,hag2⟩:∃ ag,ag=za1 (fun _ _=>none) (zco t1 from3 j2) n2:=⟨_,rfl⟩
       have h:zco t1 from3 j2 ag2 all8 to3=some r:=by rw [hag2]; exact h
       unfold zco at h
       refine zaE (zyG (zyR 2 rfl (zaS rfl zbM (zyN ?_))))
       refine zyB rfl h (fun h => ?_) (fun h => ?_)
       ·
        refine zal (zay ?_)
        obtain ⟨j3,hj3,h⟩:=zbT h
        refine za8 (β:=(List zaw)) 0 rfl (fun b=>j3 b=some r) (fun b=>[]) (fun b=>[(0,zP bt1),(4,zI (t1.cells.length:Int)),(5,v2),(6,zI from3),(7,zI to3)]) (fun b=>[zv9 v2 b]) (fun cut => ?_) ?_
        ·
         refine cut (zaG (zaE (zyG (zyR 3 rfl ?_))))
         obtain ⟨r1,hq2,h⟩:=zbL h
         refine zbK (v:=.bool r1) (vs:=[zP bt1,zI from3,zI to3]) hrd rfl dc rfl rfl rfl zzh (zhn (bt1:=bt1) (t1:=t1) (t1_h0:=t1_h0) (t1_h1:=t1_h1) (t1_h2:=t1_h2) hq2) (.ro 0 rfl (.ro 1 rfl (.ro 2 rfl (.ro 3 rfl .nil)))) (zdt rfl dc rfl zct (zyN ?_))
         refine zyB rfl h (fun h => ?_) (fun h => ?_)
         ·
          refine zaE (zyG (zyR 3 rfl ?_))
          obtain ⟨r2,hq3,h⟩:=zbL h
          refine zbK (v:=zI r2) (vs:=[zP bt1,zI from3,zI to3]) hrd rfl dc rfl rfl rfl zxC (ze2 (bt1:=bt1) (t1:=t1) (t1_h0:=t1_h0) (t1_h1:=t1_h1) (t1_h2:=t1_h2) hq3) (.ro 0 rfl (.ro 1 rfl (.ro 2 rfl (.ro 3 rfl .nil)))) (zyR 2 rfl ?_)
          obtain ⟨r3,hq4,h⟩:=zbL h
          refine zbK (v:=zI r3) (vs:=[zP bt1,zI from3]) hrd rfl dc rfl rfl rfl zxB (zfQ (bt1:=bt1) (t1:=t1) (t1_h0:=t1_h0) (t1_h1:=t1_h1) (t1_h2:=t1_h2) hq4) (.ro 0 rfl (.ro 1 rfl (.ro 2 rfl (.ro 3 rfl .nil)))) (zaS rfl zc1 (zyN ?_))
          refine zyB rfl h (fun h => ?_) (fun h => ?_)
          ·
           refine zbu (zaq (zaq (zcZ dc (zaq (zaq (zaJ (zcy (by simp) (zae ?_))))))))
           exact zak all8 h rfl (zbf rfl) (zab [0] kr rfl)
          refine zal (zay (zbu (zaq (zaJ ?_))))
          exact zak all8 h rfl (zbf rfl) (zab [0] kr rfl)
         refine zal (zay ?_)
         obtain ⟨j4,hj4,h⟩:=zbT h
         refine za8 (β:=Int×Int×Nat) 1 rfl (fun b=>j4 b.1 b.2.1=some r) (fun b=>[]) (fun b=>[(0,zP bt1),(4,zI (t1.cells.length:Int)),(5,v2),(6,zI from3),(7,zI to3),(8,zP b.2.2)]) (fun b=>[zv9 v2 all8,cells b.2.2 [zI b.1,zI b.2.1,zI to3] 137]) (fun cut => ?_) ?_
         ·
          refine zyG (zyR 1 rfl ?_)
          refine zbA (v:=.agg #[zI 0,zI 1,zI to3]) (ps:=[(1,.const (zI 1)),(2,.tmp 50)]) rfl dc rfl (fun _=>by kernel_rfl) ?_
          refine zbh znt rfl dc (fun b4 => ?_)
          refine zaZ (k:=1) (vs:=[zI 0,zI 1,zI to3]) (l':=[zI 0,zI 1,zI to3]) zdL rfl rfl rfl rfl rfl (show _≤_ by simp) rfl rfl ?_
          refine zyN (cut (zyG (zyR 2 rfl (zaS rfl zbF (zyN ?_)))))
          refine zyB rfl h (fun h => ?_) (fun h => ?_)
          ·
           refine zaE (zyG (zyR 2 rfl ?_))
           obtain ⟨q2,hq5,h⟩:=zbL h
           refine za3 (k:=0) hq5 underlying135 zdL rfl dc rfl rfl rfl rfl (zaa zf9 rfl dc rfl (show _=((to3:Int).toNat)*3+1 from rfl) (zbD (i:=(to3:Int).toNat) (j:=1) (k:=0) (q:=q2) zbW zbe rfl dc rfl rfl (zbo hq5) rfl dc rfl (zaS rfl zbF (zyN ?_))))
           refine zyB rfl h (fun h => ?_) (fun h => ?_)
           ·
            refine zbu (zaq (zaq (zaJ ?_)))
            exact zak all8 h rfl (zbf rfl) (zab [0] kr rfl)
           refine zal (zay ?_)
           obtain ⟨r4,hq6,h⟩:=zbL h
           obtain ⟨q3,hq7,h⟩:=zbL h
           obtain ⟨hg5,h⟩:=zbQ h
           obtain ⟨hg6,h⟩:=zbQ h
           refine zbB 17 [(0,61,zP bt1),(1,62,zI from3),(2,63,zI to3),(3,64,zI r4),(4,65,v2),(5,66,zI to3),(6,67,.pointer (some ⟨zdz v2,(to3:Int).toNat*3,none⟩)),(7,68,.pointer (some ⟨zdz v2,((to3:Int).toNat)*3,none⟩)),(8,69,zI q3.cost),(9,70,zI (r4+q3.cost)),(10,71,v2),(11,72,zI to3),(12,73,.pointer (some ⟨zdz v2,(to3:Int).toNat*3,none⟩)),(13,74,.pointer (some ⟨zdz v2,((to3:Int).toNat)*3+1,none⟩)),(14,75,zI q3.rows),(15,76,zI (q3.rows+1)),(16,77,zI to3)] mixed kr kr dc (by rfl) kr kr (zyP 3 0 rfl (zad ?_ (zyP 2 4 rfl (zad ?_ (zad ?_ (zad ?_ (zad ?_ (zyP 2 10 rfl (zad ?_ (zad ?_ (zad ?_ (zad ?_ (zyP 1 16 rfl DrawPre.nil))))))))))))) ?_
           · exact fun D n d c u i=>zbK (v:=zI r4) (vs:=[zP bt1,zI from3,zI to3]) hrd rfl dc rfl (evL.cons (zam 0 u d) (evL.cons (zam 1 u d) (evL.cons (zam 2 u d) evL.nil))) rfl zzg (zg6 (bt1:=bt1) (t1:=t1) (t1_h0:=t1_h0) (t1_h1:=t1_h1) (t1_h2:=t1_h2) hq6) (.ro 0 rfl (.ro 1 rfl (.ro 2 rfl (.ro 3 rfl .nil)))) (zar 3 u i)
           · exact fun D n d c u i=>za3 (k:=0) hq7 underlying135 zdL rfl dc (zam 4 u d) (zam 5 u d) rfl rfl (zar 6 u i)
           · exact fun D n d c u i=>zaa zfK rfl dc (zam 6 u d) (show _=((to3:Int).toNat)*3 from rfl) (zar 7 u i)
           · exact fun D n d c u i=>zbD (i:=(to3:Int).toNat) (j:=0) (k:=0) (q:=q3) zbW zbe rfl dc (zam 7 u d) rfl (zbo hq7) rfl dc rfl (zar 8 u i)
           · exact fun D n d c u i=>zb6 rfl dc (zam 3 u d) (zam 8 u d) (zbb (r:=r4+q3.cost) (IntWalk.i64_in _ hg5)) (zar 9 u i)
           · exact fun D n d c u i=>za3 (k:=0) hq7 underlying135 zdL rfl dc (zam 10 u d) (zam 11 u d) rfl rfl (zar 12 u i)
           · exact fun D n d c u i=>zaa zf9 rfl dc (zam 12 u d) (show _=((to3:Int).toNat)*3+1 from rfl) (zar 13 u i)
           · exact fun D n d c u i=>zbD (i:=(to3:Int).toNat) (j:=1) (k:=0) (q:=q3) zbW zbe rfl dc (zam 13 u d) rfl (zbo hq7) rfl dc rfl (zar 14 u i)
           · exact fun D n d c u i=>zb6 rfl dc (zam 14 u d) rfl (zbb (r:=q3.rows+1) (IntWalk.i64_in _ hg6)) (zar 15 u i)
           refine zbA (v:=.agg #[zI (r4+q3.cost),zI (q3.rows+1),zI to3]) (ps:=[(0,.tmp 70),(1,.tmp 76),(2,.tmp 77)]) rfl dc rfl (fun _=>by kernel_rfl) ?_
           refine zaZ (k:=1) (vs:=[zI (r4+q3.cost),zI (q3.rows+1),zI to3]) (l':=[zI (r4+q3.cost),zI (q3.rows+1),zI to3]) zdL rfl rfl rfl rfl rfl (show _≤_ by simp) rfl rfl (zaP ?_)
           exact zak (r4+q3.cost,q3.rows+1,b4) h rfl (zbf rfl) (zab [0,1] kr rfl)
          refine zal ?_
          exact zak (0,1,b4) h rfl (zbf rfl) (zab [0,1] kr rfl)
         rintro ⟨b2,b3,b1⟩ h
         rw [hj4] at h
         refine zyG (zyR 2 rfl ?_)
         obtain ⟨q4,hq8,h⟩:=zbL h
         refine za3 (k:=0) hq8 underlying135 zdL rfl dc rfl rfl rfl rfl (zgr (i:=(from3:Int).toNat) (j:=0) (k:=0) (q:=q4) (cs:=(zr5 q4)) zle zbe rfl dc rfl rfl (zbo hq8) rfl rfl rfl ?_)
         refine zbh znt rfl dc (fun b5 => ?_)
         refine zaZ (k:=2) (vs:=(zr5 q4)) (l':=(zr5 q4)) zdL rfl rfl rfl rfl rfl (show _≤_ by simp) rfl rfl ?_
         refine zyH (zaa zf9 rfl dc rfl (show _=1 from rfl) (zaj (k:=2) zbW rfl dc rfl rfl rfl (zaS rfl zbF (zyR 1 rfl ?_))))
         refine zyS (s:=86) rfl h (fun h => ?_) (fun h => ?_)
         ·
          refine zyR 14 rfl ?_
          refine zyR 6 rfl (zyN (zba rfl (zas (zyR 2 rfl (zaV (k:=1) (cs:=[zI b2,zI b3,zI to3]) zle rfl dc rfl rfl rfl rfl ?_)))))
          obtain ⟨q5,hq9,h⟩:=zbL h
          refine za3 (k:=0) hq9 underlying135 zdL rfl dc rfl rfl rfl rfl ?_
          refine zfX (i:=(from3:Int).toNat) (j:=0) (k:=0) (q:=q5) (q':=(⟨b2,b3,to3⟩:zaw)) (vs:=[zI b2,zI b3,zI to3]) zdL zbe rfl rfl rfl rfl (zbo hq9) rfl dc rfl rfl (fun m=>[q5,(⟨b2,q5.rows,q5.to_⟩:zaw),(⟨b2,b3,q5.to_⟩:zaw),(⟨b2,b3,to3⟩:zaw)].getD m q5) rfl rfl (by intro m hm; rcases m with _ | _ | _ | m <;> first | rfl | (exfalso; omega)) ?_
          refine zaP (zae ?_)
          exact zak (all8.set (from3:Int).toNat (⟨b2,b3,to3⟩:zaw)) h rfl (zbf rfl) (zab [0] kr rfl)
         refine zaa zfK rfl dc rfl (show _=0 from rfl) (zaj (k:=1) zbW rfl dc rfl rfl rfl (zaa zfK rfl dc rfl (show _=0 from rfl) (zaj (k:=2) zbW rfl dc rfl rfl rfl (zaS rfl zbF (zyR 2 rfl ?_)))))
         refine zyS (s:=93) rfl h (fun h => ?_) (fun h => ?_)
         ·
          refine zyR 13 rfl (zaP ?_)
          refine zay (zba rfl (zas (zyR 2 rfl (zaV (k:=1) (cs:=[zI b2,zI b3,zI to3]) zle rfl dc rfl rfl rfl rfl ?_))))
          obtain ⟨q6,hq10,h⟩:=zbL h
          refine za3 (k:=0) hq10 underlying135 zdL rfl dc rfl rfl rfl rfl ?_
          refine zfX (i:=(from3:Int).toNat) (j:=0) (k:=0) (q:=q6) (q':=(⟨b2,b3,to3⟩:zaw)) (vs:=[zI b2,zI b3,zI to3]) zdL zbe rfl rfl rfl rfl (zbo hq10) rfl dc rfl rfl (fun m=>[q6,(⟨b2,q6.rows,q6.to_⟩:zaw),(⟨b2,b3,q6.to_⟩:zaw),(⟨b2,b3,to3⟩:zaw)].getD m q6) rfl rfl (by intro m hm; rcases m with _ | _ | _ | m <;> first | rfl | (exfalso; omega)) ?_
          refine zaP (zae ?_)
          exact zak (all8.set (from3:Int).toNat (⟨b2,b3,to3⟩:zaw)) h rfl (zbf rfl) (zab [0] kr rfl)
         refine zaa zfK rfl dc rfl (show _=0 from rfl) (zaj (k:=1) zbW rfl dc rfl rfl rfl (zaa zfK rfl dc rfl (show _=0 from rfl) (zaj (k:=2) zbW rfl dc rfl rfl rfl (zaS rfl zaL (zyR 1 rfl ?_)))))
         refine zyS (s:=99) rfl h (fun h => ?_) (fun h => ?_)
         ·
          refine zaa zf9 rfl dc rfl (show _=1 from rfl) (zaj (k:=1) zbW rfl dc rfl rfl rfl (zaa zf9 rfl dc rfl (show _=1 from rfl) (zaj (k:=2) zbW rfl dc rfl rfl rfl (zaS rfl zbM (zyR 2 rfl (zyN ?_))))))
          refine zyB rfl h (fun h => ?_) (fun h => ?_)
          ·
           refine zas (zyR 2 rfl (zaV (k:=1) (cs:=[zI b2,zI b3,zI to3]) zle rfl dc rfl rfl rfl rfl ?_))
           obtain ⟨q7,hq11,h⟩:=zbL h
           refine za3 (k:=0) hq11 underlying135 zdL rfl dc rfl rfl rfl rfl ?_
           refine zfX (i:=(from3:Int).toNat) (j:=0) (k:=0) (q:=q7) (q':=(⟨b2,b3,to3⟩:zaw)) (vs:=[zI b2,zI b3,zI to3]) zdL zbe rfl rfl rfl rfl (zbo hq11) rfl dc rfl rfl (fun m=>[q7,(⟨b2,q7.rows,q7.to_⟩:zaw),(⟨b2,b3,q7.to_⟩:zaw),(⟨b2,b3,to3⟩:zaw)].getD m q7) rfl rfl (by intro m hm; rcases m with _ | _ | _ | m <;> first | rfl | (exfalso; omega)) ?_
           refine zaP (zae ?_)
           exact zak (all8.set (from3:Int).toNat (⟨b2,b3,to3⟩:zaw)) h rfl (zbf rfl) (zab [0] kr rfl)
          refine zal (zae ?_)
          exact zak all8 h rfl (zbf rfl) (zab [0] kr rfl)
         refine zyR 7 rfl (zyN (zaM rfl (zal (zae ?_))))
         exact zak all8 h rfl (zbf rfl) (zab [0] kr rfl)
        rintro all9 h
        rw [hj3] at h
        refine zas (zyR 1 rfl ?_)
        obtain ⟨hg7,h⟩:=zbQ h
        refine zaS rfl (zbb (r:=to3+1) (IntWalk.i64_in _ hg7)) (zyR 1 rfl (zaP ?_))
        subst hag2
        exact zbr (n2,all9,to3+1) h (Nat.lt_succ_self _) rfl (zbf rfl) (zab [0] kr rfl)
       refine zbu (zaq (zaq (zaJ (zcy (by simp) (zae ?_)))))
       exact zak all8 h rfl (zbf rfl) (zab [0] kr rfl)
     exact fun b hb=>hb.elim
    rintro all5 h
    rw [hj2] at h
    refine zas (zyR 1 rfl ?_)
    obtain ⟨hg8,h⟩:=zbQ h
    refine zaS rfl (zce (r:=from3 - 1) (IntWalk.i64_in _ hg8)) (zyR 1 rfl (zaP ?_))
    subst hag1
    exact zbr (n1,all5,from3 - 1) h (Nat.lt_succ_self _) rfl (zbf rfl) (zab [0] kr rfl)
   refine zbu (zaq (zaq (zaJ ?_)))
   exact zak (all4,v2) h rfl (zbf rfl) (zab [0] kr rfl)
 rintro ⟨all1,v1⟩ h
 rw [hj1] at h
 obtain ⟨j5,hj5,h⟩:=zbT h
 refine za8 (β:=(List Int)×Hd) 1 rfl (fun b=>j5 b.1=some r) (fun b=>[]) (fun b=>[(5,v1),(10,b.2.v)]) (fun b=>[zv9 v1 all1,zv0 b.2.v b.1]) (fun cut => ?_) ?_
 ·
  refine zyG (zyR 1 rfl (zyN (cut (zyG (zyR 1 rfl (zyN (zaG (zer (enc:=(zlp (.i64))) (e:=3) (size:=1) ?_))))))))
  refine zbP (β:=Nat×(List Int)×Int×Hd) (fun b=>za1 (fun _ _=>none) (zcb t1 all1 j5) b.1 b.2.1 b.2.2.1=some r) (fun b=>[]) (fun b=>[(4,zI (t1.cells.length:Int)),(5,v1),(10,b.2.2.2.v),(11,zI b.2.2.1)]) (fun b=>[zv9 v1 all1,zv0 b.2.2.2.v b.2.1]) (fun b=>b.1) (zcD,([]:List Int),0,Hd.nil) h rfl (zbf rfl) (zab [0,1] kr rfl) ?_
  rintro ⟨n3,out4,from6,hd4⟩ h
  cases n3 with
  | zero=>exact zdO h
  | succ n3 =>
   obtain ⟨ag3,hag3⟩:∃ ag,ag=za1 (fun _ _=>none) (zcb t1 all1 j5) n3:=⟨_,rfl⟩
   have h:zcb t1 all1 j5 ag3 out4 from6=some r:=by rw [hag3]; exact h
   unfold zcb at h
   refine zaE (zyG (zyR 2 rfl (zaS rfl zbF (zyN ?_))))
   refine zyB rfl h (fun h => ?_) (fun h => ?_)
   ·
    refine zal (zay (zaE (zaG (zas (zyR 3 rfl ?_)))))
    obtain ⟨q8,hq12,h⟩:=zbL h
    refine za3 (k:=0) hq12 underlying135 zdL rfl dc rfl rfl rfl rfl (zaa zlU rfl dc rfl (show _=((from6:Int).toNat)*3+2 from rfl) (zbD (i:=(from6:Int).toNat) (j:=2) (k:=0) (q:=q8) zbW zbe rfl dc rfl rfl (zbo hq12) rfl dc rfl ?_))
    refine zbc (cs:=[zI q8.to_]) (te:=3) (ps:=[(0,.tmp 124)]) rfl dc rfl (fun _=>by kernel_rfl) (fun b6 => ?_)
    obtain ⟨hg9,h⟩:=zbQ h
    refine zbx (k:=1) (k2:=2) (ys:=[q8.to_]) underlying24 zxM zcJ zgw rfl dc rfl rfl rfl rfl rfl rfl hg9 (fun v3 => ?_)
    refine zbJ (k:=1) rfl (fun hd5 he1 => ?_)
    subst he1
    refine zyR 1 rfl (zaP (zae (zay (zas (zyR 2 rfl ?_)))))
    obtain ⟨q9,hq13,h⟩:=zbL h
    refine za3 (k:=0) hq13 underlying135 zdL rfl dc rfl rfl rfl rfl (zaa zlU rfl dc rfl (show _=((from6:Int).toNat)*3+2 from rfl) (zbD (i:=(from6:Int).toNat) (j:=2) (k:=0) (q:=q9) zbW zbe rfl dc rfl rfl (zbo hq13) rfl dc rfl (zyR 1 rfl (zaP ?_))))
    subst hag3
    exact zbr (n3,out4++[q8.to_],q9.to_,hd5) h (Nat.lt_succ_self _) rfl (zbf rfl) (zab [0,1] kr rfl)
   refine zbu (zaq (zaq (zaJ ?_)))
   exact zak (out4,hd4) h rfl (zbf rfl) (zab [0,1] kr rfl)
 rintro ⟨out1,hd1⟩ h
 rw [hj5] at h
 refine zaE ?_
 obtain ⟨q10,hq14,h⟩:=zbL h
 refine zbB 6 [(0,127,hd1.v),(1,128,v1),(2,129,.pointer (some ⟨zdz v1,(0:Int).toNat*3,none⟩)),(3,130,.pointer (some ⟨zdz v1,((0:Int).toNat)*3,none⟩)),(4,131,zI q10.cost),(5,2,hd1.v)] mixed kr kr dc (by rfl) kr kr (zyP 2 0 rfl (zad ?_ (zad ?_ (zad ?_ (zyP 1 5 rfl DrawPre.nil))))) ?_
 · exact fun D n d c u i=>za3 (k:=0) hq14 underlying135 zdL rfl dc (zam 1 u d) rfl rfl rfl (zar 2 u i)
 · exact fun D n d c u i=>zaa zfK rfl dc (zam 2 u d) (show _=((0:Int).toNat)*3 from rfl) (zar 3 u i)
 · exact fun D n d c u i=>zbD (i:=(0:Int).toNat) (j:=0) (k:=0) (q:=q10) zbW zbe rfl dc (zam 3 u d) rfl (zbo hq14) rfl dc rfl (zar 4 u i)
 refine zyR 1 rfl (zyN (zau ?_))
 cases h
 exact zbt (rs:=[.tmp 2,.tmp 3]) hd1.v (.inl rfl) results88 (.cons (.tmp rfl) (.cons (.tmp rfl) .nil)) rfl (zab [1] kr rfl)
def zel (t1:zbm) (from1:Int) (to1:Int):Option zBA := zan (zdf t1.cells from1) fun (q1:zaH) => grd (I64 (to1 - 1)) <| zan (zdf t1.cells (to1 - 1)) fun (q2:zaH) => grd (0≤(q1.Span_From:Int)∧(q1.Span_From:Int)≤q2.Span_To∧(q2.Span_To:Int)≤(t1.s.size:Int)) <| some (zdR t1.s q1.Span_From q2.Span_To)
theorem zju {bt1:Nat} {t1:zbm} {t1_h0 t1_h1 t1_h2:Hd} {from1:Int} {to1:Int} {r:zBA} (h:zel t1 from1 to1=some r):FnR prog 89 [zP bt1,zI from1,zI to1] [cells bt1 [.string t1.s,t1_h0.v,t1_h1.v,t1_h2.v,zI t1.first,zI t1.rest] 156,zv3 t1_h0.v t1.cells,zv0 t1_h1.v t1.wide,zv0 t1_h2.v t1.ends] [] (fun _:Unit=>(.string r)) (fun _=>[]):=by
 unfold zel at h
 refine FnR.intro func89 rfl ntmps89 (by simp) ?_
 intro w0 K hrd
 refine zyG (zyR 1 rfl (zyN (zaE ?_)))
 obtain ⟨q1,hq1,h⟩:=zbL h
 obtain ⟨hg1,h⟩:=zbQ h
 obtain ⟨q2,hq2,h⟩:=zbL h
 obtain ⟨hg2,h⟩:=zbQ h
 refine zbB 23 [(0,7,zP bt1),(1,8,zP bt1),(2,9,zP bt1),(3,10,.string t1.s),(4,11,zP bt1),(5,12,zP bt1),(6,13,.pointer (some ⟨bt1,1,none⟩)),(7,14,t1_h0.v),(8,15,zI from1),(9,16,.pointer (some ⟨zdz t1_h0.v,(0+(from1:Int).toNat)*3,none⟩)),(10,17,.pointer (some ⟨zdz t1_h0.v,(0+(from1:Int).toNat)*3,none⟩)),(11,18,.pointer (some ⟨zdz t1_h0.v,(0+(from1:Int).toNat)*3,none⟩)),(12,19,zI q1.Span_From),(13,20,zP bt1),(14,21,zP bt1),(15,22,.pointer (some ⟨bt1,1,none⟩)),(16,23,t1_h0.v),(17,24,zI to1),(18,25,zI (to1 - 1)),(19,26,.pointer (some ⟨zdz t1_h0.v,(0+(to1 - 1:Int).toNat)*3,none⟩)),(20,27,.pointer (some ⟨zdz t1_h0.v,(0+(to1 - 1:Int).toNat)*3,none⟩)),(21,28,.pointer (some ⟨zdz t1_h0.v,(0+(to1 - 1:Int).toNat)*3+1,none⟩)),(22,29,zI q2.Span_To)] mixed kr kr dc (by rfl) kr kr (zyP 1 0 rfl (zad ?_ (zad ?_ (zad ?_ (zyP 1 4 rfl (zad ?_ (zad ?_ (zad ?_ (zyP 1 8 rfl (zad ?_ (zad ?_ (zad ?_ (zad ?_ (zyP 1 13 rfl (zad ?_ (zad ?_ (zad ?_ (zyP 1 17 rfl (zad ?_ (zad ?_ (zad ?_ (zad ?_ (zad ?_ DrawPre.nil))))))))))))))))))))))) ?_
 · exact fun D n d c u i=>zai rfl dc (zam 0 u d) (zar 1 u i)
 · exact fun D n d c u i=>zaa zrF rfl dc (zam 1 u d) (show _=0 from rfl) (zar 2 u i)
 · exact fun D n d c u i=>zbs (i:=0) hrd rfl zhk rfl dc (zam 2 u d) rfl (zar 3 u i)
 · exact fun D n d c u i=>zai rfl dc (zam 4 u d) (zar 5 u i)
 · exact fun D n d c u i=>zaa zgt rfl dc (zam 5 u d) (show _=1 from rfl) (zar 6 u i)
 · exact fun D n d c u i=>zbs (i:=0) hrd rfl zis rfl dc (zam 6 u d) rfl (zar 7 u i)
 · exact fun D n d c u i=>zbv (hrd.vw (i:=1) rfl) hq1 underlying123 zla rfl dc (zam 7 u d) (zam 8 u d) rfl (zar 9 u i)
 · exact fun D n d c u i=>zaa zhr rfl dc (zam 9 u d) (show _=(0+(from1:Int).toNat)*3 from rfl) (zar 10 u i)
 · exact fun D n d c u i=>zaa zhb rfl dc (zam 10 u d) (show _=(0+(from1:Int).toNat)*3 from rfl) (zar 11 u i)
 · exact fun D n d c u i=>zde (n:=0+(from1:Int).toNat) (j:=0) (i:=1) (q:=q1) hrd rfl zbW zdw rfl dc (zam 11 u d) (Vw.get (hrd.vw (i:=1) rfl) hq1) rfl dc rfl (zar 12 u i)
 · exact fun D n d c u i=>zai rfl dc (zam 13 u d) (zar 14 u i)
 · exact fun D n d c u i=>zaa zgt rfl dc (zam 14 u d) (show _=1 from rfl) (zar 15 u i)
 · exact fun D n d c u i=>zbs (i:=0) hrd rfl zis rfl dc (zam 15 u d) rfl (zar 16 u i)
 · exact fun D n d c u i=>zb6 rfl dc (zam 17 u d) rfl (zce (r:=to1 - 1) (IntWalk.i64_in _ hg1)) (zar 18 u i)
 · exact fun D n d c u i=>zbv (hrd.vw (i:=1) rfl) hq2 underlying123 zla rfl dc (zam 16 u d) (zam 18 u d) rfl (zar 19 u i)
 · exact fun D n d c u i=>zaa zhr rfl dc (zam 19 u d) (show _=(0+(to1 - 1:Int).toNat)*3 from rfl) (zar 20 u i)
 · exact fun D n d c u i=>zaa zdK rfl dc (zam 20 u d) (show _=(0+(to1 - 1:Int).toNat)*3+1 from rfl) (zar 21 u i)
 · exact fun D n d c u i=>zde (n:=0+(to1 - 1:Int).toNat) (j:=1) (i:=1) (q:=q2) hrd rfl zbW zdw rfl dc (zam 21 u d) (Vw.get (hrd.vw (i:=1) rfl) hq2) rfl dc rfl (zar 22 u i)
 refine zdA rfl dc rfl rfl rfl (zcX (i:=q1.Span_From) (j:=q2.Span_To) underlying9 (.inr rfl) (.inr rfl) hg2) (zyR 1 rfl (zyN (zau ?_)))
 cases h
 exact za2 6 results89
def zdd (s1:zBA) (indent1:Int) (l1:zaO) (x1:zaH) (ag1:(List zaH)→(List Int)→(List Int)→Option zbm) (t10:List zaH) (t11:List Int) (t12:List Int):Option zbm := zbE (fun (j2:(List Int)→Int→Option zbm) => grd (t10.length+1≤2147483648) <| grd (I64 (((t10++[x1]).length:Int) - 1)) <| zan (zdf t11 (((t10++[x1]).length:Int) - 1)) fun (q1:Int) => grd (I64 (q1+x1.Columns)) <| grd (t11.length+1≤2147483648) <| grd (I64 ((((t10++[x1]).length:Int) - 1)+1)) <| zan (zcC (⟨s1,t10++[x1],t11++[q1+x1.Columns],t12,max 1 (l1.Width - indent1),l1.Width - l1.Turn⟩:zbm) (((t10++[x1]).length:Int) - 1)) fun (r2:Bool) => zaB (r2) ( zan (zdf t12 (((t10++[x1]).length:Int) - 1)) fun (q2:Int) => j2 (t11++[q1+x1.Columns]) q2
) ( j2 (t11++[q1+x1.Columns]) ((((t10++[x1]).length:Int) - 1)+1)
)
) (fun (t13:List Int) (end1:Int) => grd (t12.length+1≤2147483648) <| ag1 (t10++[x1]) t13 (t12++[end1])
)
def zeg (s1:zBA) (indent1:Int) (l1:zaO):Option zbm := zbE (fun (j1:(List zaH)→(List Int)→(List Int)→Option zbm) => grd (I64 (l1.Width - indent1)) <| grd (I64 (l1.Width - l1.Turn)) <| zan (zgx s1) fun (r1:zBA) => zan (zei r1) fun (its1:(List zaH)) => zbE (fun (dn1:(List zaH)→(List Int)→(List Int)→Option zbm) => zcQ dn1 (zdd s1 indent1 l1) its1 ([]:List zaH) ([0]:List Int) ([0]:List Int)
) (fun (t10:List zaH) (t11:List Int) (t12:List Int) => j1 t10 t11 t12
)
) (fun (t1:List zaH) (t2:List Int) (t3:List Int) => some (⟨s1,t1,t2,t3,max 1 (l1.Width - indent1),l1.Width - l1.Turn⟩:zbm)
)
theorem zhJ {s1:zBA} {indent1:Int} {l1:zaO} {r:zbm} (h:zeg s1 indent1 l1=some r):Fn prog 64 [.string s1,zI indent1,.agg (zr0 l1).toArray] [] (fun b:Nat×Hd×Hd×Hd=>zP b.1) (fun b=>[cells b.1 [.string r.s,b.2.1.v,b.2.2.1.v,b.2.2.2.v,zI r.first,zI r.rest] 156,zv3 b.2.1.v r.cells,zv0 b.2.2.1.v r.wide,zv0 b.2.2.2.v r.ends]):=by
 unfold zeg at h
 refine Fn.intro func64 rfl ntmps64 (by simp) ?_
 intro w0 K
 refine zgz ?_
 obtain ⟨j1,hj1,h⟩:=zbT h
 refine za8 (β:=(List zaH)×(List Int)×(List Int)×Nat×Nat×Hd×Hd×Hd×(List Nat)) 2 rfl (fun b=>j1 b.1 b.2.1 b.2.2.1=some r) (fun b=>zec b.2.2.2.2.2.2.2.2) (fun b=>[(7,zP b.2.2.2.1)]) (fun b=>[cells b.2.2.2.1 [zP b.2.2.2.2.1] 153,cells b.2.2.2.2.1 [.string s1,b.2.2.2.2.2.1.v,b.2.2.2.2.2.2.1.v,b.2.2.2.2.2.2.2.1.v,zI (max 1 (l1.Width - indent1)),zI (l1.Width - l1.Turn)] 156,zv3 b.2.2.2.2.2.1.v b.1,zv0 b.2.2.2.2.2.2.1.v b.2.1,zv0 b.2.2.2.2.2.2.2.1.v b.2.2.1,zhG ((b.2.2.2.2.2.2.2.2:List Nat).map zib)]) (fun cut => ?_) ?_
 ·
  refine zyG ?_
  refine zdi rfl dc rfl (fun b3 => ?_)
  refine zyR 1 rfl (zyH (zyR 1 rfl ?_))
  refine zbc (cs:=[zI 0]) (te:=3) (ps:=[(0,.const (zI 0))]) rfl dc rfl (fun _=>by kernel_rfl) (fun b4 => ?_)
  refine zbc (cs:=[zI 0]) (te:=3) (ps:=[(0,.const (zI 0))]) rfl dc rfl (fun _=>by kernel_rfl) (fun b5 => ?_)
  refine zaa zoG rfl dc rfl (show _=0 from rfl) (zaj (k:=1) zbW rfl dc rfl rfl rfl (zyR 1 rfl ?_))
  obtain ⟨hg1,h⟩:=zbQ h
  refine zaS rfl (zce (r:=l1.Width - indent1) (IntWalk.i64_in _ hg1)) (zk5 rfl dc rfl rfl (zaa zoG rfl dc rfl (show _=0 from rfl) (zaj (k:=1) zbW rfl dc rfl rfl rfl (zaa zoE rfl dc rfl (show _=2 from rfl) (zaj (k:=1) zbW rfl dc rfl rfl rfl ?_)))))
  obtain ⟨hg2,h⟩:=zbQ h
  refine zaS rfl (zce (r:=l1.Width - l1.Turn) (IntWalk.i64_in _ hg2)) ?_
  refine zbA (v:=.agg #[.string s1,.slice none 0 0,.slice (some ⟨b4,0,none⟩) 1 1,.slice (some ⟨b5,0,none⟩) 1 1,zI (max 1 (l1.Width - indent1)),zI (l1.Width - l1.Turn)]) (ps:=[(0,.tmp 11),(2,.tmp 12),(3,.tmp 13),(4,.tmp 18),(5,.tmp 23)]) rfl dc rfl (fun _=>by kernel_rfl) ?_
  refine zkp ([0]:List Int) (k:=2) rfl zcJ rfl (show 1≤maxLen by decide) ?_
  refine zkp ([0]:List Int) (k:=3) rfl zcJ rfl (show 1≤maxLen by decide) ?_
  refine zdi rfl dc rfl (fun b6 => ?_)
  refine zbh zyo rfl dc (fun b7 => ?_)
  refine zaT (k:=5) (l':=[zP b6]) zyL rfl rfl rfl rfl rfl (fun _ _=>rfl) rfl ?_
  refine zyN (cut (zyG (zyR 1 rfl ?_)))
  obtain ⟨r1,hq1,h⟩:=zbL h
  refine zcE (vs:=[.string s1]) rfl dc rfl rfl rfl zzb (ziQ hq1) Splits.nil ?_
  rintro b8
  refine zcs (L':=[zhG ((([]:List Nat):List Nat).map zib),cells b3 (zr0 l1) 23,zv0 (.slice (some ⟨b4,0,none⟩) 1 1) ([0]:List Int),zv0 (.slice (some ⟨b5,0,none⟩) 1 1) ([0]:List Int),cells b6 [.string s1,.slice none 0 0,(.slice (some ⟨b4,0,none⟩) 1 1),(.slice (some ⟨b5,0,none⟩) 1 1),zI (max 1 (l1.Width - indent1)),zI (l1.Width - l1.Turn)] 156,cells b7 [zP b6] 153,cells b8 [.string r1] 9]) (zab [0,1,2,3,4,5,6] kr rfl) (zyN (zaG ?_))
  obtain ⟨its1,hq2,h⟩:=zbL h
  refine zer (enc:=zfr) (e:=158) (size:=3) ?_
  obtain ⟨dn1,hdn1,h⟩:=zbT h
  refine zgA (α:=zaH) (β:=(List zaH)×(List Int)×(List Int)×Hd×Hd×Hd) (γ:=Unit) (δ:=Nat) (ps:=[28]) Ro.nil rfl zwv (zhu hq2) (fun pre b=>∀ post,its1=pre++post→zcQ dn1 (zdd s1 indent1 l1) post b.1 b.2.1 b.2.2.1=some r) (fun pre b=>[cells b7 [zP b6] 153,cells b6 [.string s1,b.2.2.2.1.v,b.2.2.2.2.1.v,b.2.2.2.2.2.v,zI (max 1 (l1.Width - indent1)),zI (l1.Width - l1.Turn)] 156,zv3 b.2.2.2.1.v b.1,zv0 b.2.2.2.2.1.v b.2.1,zv0 b.2.2.2.2.2.v b.2.2.1]) (fun c pre g=>False) (fun c pre g=>[]) (fun pre x b j=>[(6,.pointer none),(7,zP b7),(27,.func (.func 108) #[] #[zP b8]),(8,zP j)]) (fun pre x b j=>[cells b7 [zP b6] 153,cells b6 [.string s1,b.2.2.2.1.v,b.2.2.2.2.1.v,b.2.2.2.2.2.v,zI (max 1 (l1.Width - indent1)),zI (l1.Width - l1.Turn)] 156,zv3 b.2.2.2.1.v b.1,zv0 b.2.2.2.2.1.v b.2.1,zv0 b.2.2.2.2.2.v b.2.2.1,cells j (zr3 x) 158]) (([]:List zaH),([0]:List Int),([0]:List Int),Hd.nil,(⟨some ⟨b4,0,none⟩,1,1⟩:Hd),(⟨some ⟨b5,0,none⟩,1,1⟩:Hd)) (fun post e=>by rw [List.nil_append] at e; subst e; exact h) (zab [5,4,7,2,3] kr rfl) ⟨.inl ⟨6,rfl⟩,trivial⟩ (fun _=>rfl) dc ?_ ?_ ?_ ?_
  ·
   rintro lp rc pre x1 post ⟨t10,t11,t12,hd10,hd11,hd12⟩ w1 K1 hxs1 hext hro hinv
   refine zas ?_
   refine zbh zsS rfl dc (fun b9 => ?_)
   refine zaZ (k:=5) (vs:=(zr3 x1)) (l':=(zr3 x1)) zla rfl rfl rfl rfl rfl (show _≤_ by simp) rfl rfl ?_
   refine zaP ?_
   exact fun a w ha hw=>⟨b9,(zbf rfl) _ _ _ ha,hw.weaken (zab [0,1,2,3,4,5] kr rfl)⟩
  ·
   rintro lp rc pre x1 post1 ⟨t10,t11,t12,hd10,hd11,hd12⟩ jb1 w1 K1 hxs1 hext hro hinv
   have h:=hinv (x1::post1) hxs1
   obtain ⟨ag1,hag1⟩:∃ ag,ag=zcQ dn1 (zdd s1 indent1 l1) post1:=⟨_,rfl⟩
   have h:zdd s1 indent1 l1 x1 ag1 t10 t11 t12=some r:=by rw [hag1]; exact h
   unfold zdd at h
   refine zaG ?_
   obtain ⟨j2,hj2,h⟩:=zbT h
   refine za8 (β:=(List Int)×Int×Hd×Hd) 4 rfl (fun b=>j2 b.1 b.2.1=some r) (fun b=>[]) (fun b=>[(6,.pointer none),(7,zP b7),(10,zI b.2.1),(27,.func (.func 108) #[] #[zP b8])]) (fun b=>[cells b7 [zP b6] 153,cells b6 [.string s1,b.2.2.1.v,b.2.2.2.v,hd12.v,zI (max 1 (l1.Width - indent1)),zI (l1.Width - l1.Turn)] 156,zv3 b.2.2.1.v (t10++[x1]),zv0 b.2.2.2.v b.1,zv0 hd12.v t12]) (fun cut => ?_) ?_
   ·
    refine zaE ?_
    obtain ⟨hg3,h⟩:=zbQ h
    refine zgG 1 ?_
    refine let vals1:(Nat×Hd)→List (Nat×Nat×Value):=fun b=>[(0,29,zP b6),(1,30,zP b6),(2,31,zP b6),(3,32,.pointer (some ⟨b6,1,none⟩)),(4,33,hd10.v),(5,34,.agg (zr3 x1).toArray),(6,35,.slice (some ⟨b.1,0,none⟩) 1 1),(7,36,b.2.v)]; let LL1:(Nat→Prop)→(Nat×Hd)→List Asn:=fun D b=>[cells b7 [zP b6] 153,cells b6 [.string s1,hd10.v,hd11.v,hd12.v,zI (max 1 (l1.Width - indent1)),zI (l1.Width - l1.Turn)] 156,eD D (zv3 hd10.v t10) [(7,zv3 b.2.v (t10++[x1]))],zv0 hd11.v t11,zv0 hd12.v t12,cells jb1 (zr3 x1) 158,eD D emp [(6,cells b.1 (zr3 x1) 158)]]; ?_
    have zhq:zyQ [6,7] LL1:=fun i h D b=>zac rfl (zac rfl (zac (zkr rfl h) (zac rfl (zac rfl (zac rfl (zac (zkr rfl h) rfl))))))
    refine zeb (β:=Nat×Hd) 8 ((0:Nat),Hd.nil) vals1 LL1 mixed kr kr dc (fun _=>rfl) (zez (zac zci (zcK (zac zci rfl)))) (zhC zhq rfl (fun _=>rfl) (fun _=>rfl) ?_ (zhC zhq rfl (fun _=>rfl) (fun _=>rfl) ?_ (zyq zhq rfl (fun _=>rfl) (fun _=>rfl) ?_ (zyq zhq rfl (fun _=>rfl) (fun _=>rfl) ?_ (zhC zhq rfl (fun _=>rfl) (fun _=>rfl) ?_ (zhC zhq rfl (fun _=>rfl) (fun _=>rfl) ?_ (zaF ?_ (zaF ?_ DrawG.nil)))))))) ?_
    · exact fun D ⟨b10,hd15⟩ n d c u i=>⟨_,(zp3 rfl),zaj (k:=0) zir rfl dc (zbd (by rfl) rfl) rfl rfl (zar 0 u i)⟩
    · exact fun D ⟨b10,hd15⟩ n d c u i=>⟨_,(zez (zac (zah (fun hD=>n (c 2 _ rfl (c 3 _ rfl (c 4 _ rfl (c 7 _ rfl hD 4 dc) 3 dc) 2 dc) 1 dc)) zat) (zfu rfl))),zaj (k:=0) zir rfl dc (zbd (by rfl) rfl) rfl rfl (zar 1 u i)⟩
    · exact fun D ⟨b10,hd15⟩ n d c u i=>zai rfl dc (zam 1 u d) (zar 2 u i)
    · exact fun D ⟨b10,hd15⟩ n d c u i=>zaa zgt rfl dc (zam 2 u d) (show _=1 from rfl) (zar 3 u i)
    · exact fun D ⟨b10,hd15⟩ n d c u i=>⟨_,(zez (zac (zah (fun hD=>n (c 7 _ rfl hD 4 dc)) zat) (zfu rfl))),zaj (k:=1) zis rfl dc (zam 3 u d) rfl rfl (zar 4 u i)⟩
    · exact fun D ⟨b10,hd15⟩ n d c u i=>⟨_,(zez (zac (zah (fun hD=>n (c 6 _ rfl (c 7 _ rfl hD 6 dc) 5 dc)) zat) (zcK (zac (zah (fun hD=>n (c 6 _ rfl hD 5 dc)) zat) rfl)))),zaV (k:=5) (cs:=(zr3 x1)) zit rfl dc (zbd (by rfl) rfl) rfl rfl rfl (zar 5 u i)⟩
    ·
     intro D b hn hd hcl
     obtain ⟨zb0,hd15⟩:=b
     refine zaY (zez (zac (zah (fun hD=>hn (hcl 7 _ rfl hD 6 dc)) zat) (zcK (zac (zah hn zat) rfl)))) ?_
     refine zbc (cs:=(zr3 x1)) (te:=158) (ps:=[(0,.tmp 34)]) rfl dc (evP.cons (zaI (m:=5) rfl rfl (hd 5 dc)) evP.nil) (fun _=>by kernel_rfl) (fun b10 => ?_)
     refine zdg 6 rfl rfl ?_
     exact za4 (b:=(zb0,hd15)) (b10,hd15) 6 (by rfl) (by rfl) rfl (zvM (zaz (fun hD=>absurd hD hn) (zaz (fun _=>rfl) rfl))) (zez (zac ((zav (by rfl)).trans (zah (fun hD=>hn (hcl 7 _ rfl hD 6 dc)) zat)) (zcK (zac (zaW (Or.inr rfl) rfl) rfl))))
    ·
     intro D b hn hd hcl
     obtain ⟨b10,zb1⟩:=b
     refine zaY (zez (zac (zah hn zat) (zcK (zac (zaW (hd 6 dc) rfl) rfl)))) ?_
     refine zbx (k:=2) (k2:=6) (ys:=[x1]) underlying123 zwz zdw zhN rfl dc (zaI (m:=4) rfl rfl (hd 4 dc)) (zaI (m:=6) rfl rfl (hd 6 dc)) rfl rfl rfl rfl hg3 (fun v1 => ?_)
     refine zbJ (k:=2) rfl (fun hd15 he1 => ?_)
     subst he1
     exact za4 (b:=(b10,zb1)) (b10,hd15) 7 (by rfl) (by rfl) rfl (zls (zaz (fun hD=>absurd hD hn) rfl)) (zez (zac (zaW (Or.inr rfl) rfl) (zcK (zac ((zav (by rfl)).trans (zaW (hd 6 dc) rfl)) rfl))))
    intro D b hall
    obtain ⟨b10,hd15⟩:=b
    refine zaY (zez (zac (zaW (hall 7 dc) rfl) (zcK (zac (zaW (hall 6 dc) rfl) rfl)))) (zai rfl dc rfl (zaa zgt rfl dc rfl (show _=1 from rfl) ?_))
    refine zaT (k:=1) (l':=[.string s1,hd15.v,hd11.v,hd12.v,zI (max 1 (l1.Width - indent1)),zI (l1.Width - l1.Turn)]) zwa rfl rfl rfl rfl rfl (fun _ _=>rfl) rfl ?_
    refine zyH (zaj (k:=0) zir rfl dc rfl rfl rfl (zai rfl dc rfl (zaa zgt rfl dc rfl (show _=1 from rfl) (zaj (k:=1) zis rfl dc rfl rfl rfl (zdu (k:=2) rfl dc rfl rfl underlying123 ?_)))))
    obtain ⟨hg4,h⟩:=zbQ h
    refine zaS rfl (zce (r:=((t10++[x1]).length:Int) - 1) (IntWalk.i64_in _ hg4)) (zyR 1 rfl (zyN (zaE ?_)))
    obtain ⟨q1,hq3,h⟩:=zbL h
    obtain ⟨hg5,h⟩:=zbQ h
    obtain ⟨hg6,h⟩:=zbQ h
    refine zgG 1 ?_
    refine let vals2:(Nat×Hd)→List (Nat×Nat×Value):=fun b=>[(0,45,zP b6),(1,46,zP b6),(2,47,zP b6),(3,48,.pointer (some ⟨b6,2,none⟩)),(4,49,hd11.v),(5,50,zP b6),(6,51,zP b6),(7,52,.pointer (some ⟨b6,2,none⟩)),(8,53,hd11.v),(9,54,zI (((t10++[x1]).length:Int) - 1)),(10,55,.pointer (some ⟨zdz hd11.v,(((t10++[x1]).length:Int) - 1:Int).toNat*1,none⟩)),(11,56,zI q1),(12,57,.pointer (some ⟨jb1,2,none⟩)),(13,58,zI x1.Columns),(14,59,zI (q1+x1.Columns)),(15,60,.slice (some ⟨b.1,0,none⟩) 1 1),(16,61,b.2.v)]; let LL2:(Nat→Prop)→(Nat×Hd)→List Asn:=fun D b=>[cells b7 [zP b6] 153,cells b6 [.string s1,hd15.v,hd11.v,hd12.v,zI (max 1 (l1.Width - indent1)),zI (l1.Width - l1.Turn)] 156,zv3 hd15.v (t10++[x1]),eD D (zv0 hd11.v t11) [(16,zv0 b.2.v (t11++[q1+x1.Columns]))],zv0 hd12.v t12,cells jb1 (zr3 x1) 158,cells b10 (zr3 x1) 158,eD D emp [(15,cells b.1 [zI (q1+x1.Columns)] 3)]]; ?_
    refine zeb (β:=Nat×Hd) 17 ((0:Nat),Hd.nil) vals2 LL2 mixed kr kr dc (fun _=>rfl) (zcK (zac zci (zcK (zac zci rfl)))) (zaF ?_ (zaF ?_ (zaF ?_ (zaF ?_ (zaF ?_ (zaF ?_ (zaF ?_ (zaF ?_ (zaF ?_ (zaF ?_ (zaF ?_ (zaF ?_ (zaF ?_ (zaF ?_ (zaF ?_ (zaF ?_ (zaF ?_ DrawG.nil))))))))))))))))) ?_
    ·
     intro D b hn hd hcl
     obtain ⟨b11,hd16⟩:=b
     refine zaY (zjE rfl) (zaj (k:=0) zir rfl dc (zbd (by rfl) rfl) rfl rfl ?_)
     exact za4 (b:=(b11,hd16)) (b11,hd16) 0 (by rfl) (by rfl) rfl (zn7 (zd5 rfl)) (zcK (zac (zav (by rfl)) (zcK (zac (zav (by rfl)) rfl))))
    ·
     intro D b hn hd hcl
     obtain ⟨b11,hd16⟩:=b
     refine zaY (zcK (zac (zah (fun hD=>hn (hcl 2 _ rfl (hcl 3 _ rfl (hcl 4 _ rfl (hcl 16 _ rfl hD 4 dc) 3 dc) 2 dc) 1 dc)) zat) (zfu rfl))) ?_
     refine zaj (k:=0) zir rfl dc (zbd (by rfl) rfl) rfl rfl ?_
     exact za4 (b:=(b11,hd16)) (b11,hd16) 1 (by rfl) (by rfl) rfl (zn7 (zd5 rfl)) (zcK (zac ((zav (by rfl)).trans (zah (fun hD=>hn (hcl 2 _ rfl (hcl 3 _ rfl (hcl 4 _ rfl (hcl 16 _ rfl hD 4 dc) 3 dc) 2 dc) 1 dc)) zat)) (zcK (zac (zav (by rfl)) rfl))))
    ·
     intro D b hn hd hcl
     obtain ⟨b11,hd16⟩:=b
     refine zaY (zcK (zac (zah (fun hD=>hn (hcl 3 _ rfl (hcl 4 _ rfl (hcl 16 _ rfl hD 4 dc) 3 dc) 2 dc)) zat) (zfu rfl))) ?_
     refine zai rfl dc (zaI (m:=1) rfl rfl (hd 1 dc)) ?_
     exact za4 (b:=(b11,hd16)) (b11,hd16) 2 (by rfl) (by rfl) rfl (zn7 (zd5 rfl)) (zcK (zac ((zav (by rfl)).trans (zah (fun hD=>hn (hcl 3 _ rfl (hcl 4 _ rfl (hcl 16 _ rfl hD 4 dc) 3 dc) 2 dc)) zat)) (zcK (zac (zav (by rfl)) rfl))))
    ·
     intro D b hn hd hcl
     obtain ⟨b11,hd16⟩:=b
     refine zaY (zcK (zac (zah (fun hD=>hn (hcl 4 _ rfl (hcl 16 _ rfl hD 4 dc) 3 dc)) zat) (zfu rfl))) ?_
     refine zaa zj5 rfl dc (zaI (m:=2) rfl rfl (hd 2 dc)) (show _=2 from rfl) ?_
     exact za4 (b:=(b11,hd16)) (b11,hd16) 3 (by rfl) (by rfl) rfl (zn7 (zd5 rfl)) (zcK (zac ((zav (by rfl)).trans (zah (fun hD=>hn (hcl 4 _ rfl (hcl 16 _ rfl hD 4 dc) 3 dc)) zat)) (zcK (zac (zav (by rfl)) rfl))))
    ·
     intro D b hn hd hcl
     obtain ⟨b11,hd16⟩:=b
     refine zaY (zcK (zac (zah (fun hD=>hn (hcl 16 _ rfl hD 4 dc)) zat) (zfu rfl))) ?_
     refine zaj (k:=1) zhS rfl dc (zaI (m:=3) rfl rfl (hd 3 dc)) rfl rfl ?_
     exact za4 (b:=(b11,hd16)) (b11,hd16) 4 (by rfl) (by rfl) rfl (zn7 (zd5 rfl)) (zcK (zac ((zav (by rfl)).trans (zah (fun hD=>hn (hcl 16 _ rfl hD 4 dc)) zat)) (zcK (zac (zav (by rfl)) rfl))))
    ·
     intro D b hn hd hcl
     obtain ⟨b11,hd16⟩:=b
     refine zaY (zcK (zac (zah (fun hD=>hn (hcl 6 _ rfl (hcl 7 _ rfl (hcl 8 _ rfl (hcl 10 _ rfl (hcl 11 _ rfl (hcl 14 _ rfl (hcl 15 _ rfl (hcl 16 _ rfl hD 15 dc) 14 dc) 11 dc) 10 dc) 8 dc) 7 dc) 6 dc) 5 dc)) zat) (zcK (zac (zah (fun hD=>hn (hcl 6 _ rfl (hcl 7 _ rfl (hcl 8 _ rfl (hcl 10 _ rfl (hcl 11 _ rfl (hcl 14 _ rfl (hcl 15 _ rfl hD 14 dc) 11 dc) 10 dc) 8 dc) 7 dc) 6 dc) 5 dc)) zat) rfl)))) ?_
     refine zaj (k:=0) zir rfl dc (zbd (by rfl) rfl) rfl rfl ?_
     exact za4 (b:=(b11,hd16)) (b11,hd16) 5 (by rfl) (by rfl) rfl (zn7 (zd5 rfl)) (zcK (zac ((zav (by rfl)).trans (zah (fun hD=>hn (hcl 6 _ rfl (hcl 7 _ rfl (hcl 8 _ rfl (hcl 10 _ rfl (hcl 11 _ rfl (hcl 14 _ rfl (hcl 15 _ rfl (hcl 16 _ rfl hD 15 dc) 14 dc) 11 dc) 10 dc) 8 dc) 7 dc) 6 dc) 5 dc)) zat)) (zcK (zac ((zav (by rfl)).trans (zah (fun hD=>hn (hcl 6 _ rfl (hcl 7 _ rfl (hcl 8 _ rfl (hcl 10 _ rfl (hcl 11 _ rfl (hcl 14 _ rfl (hcl 15 _ rfl hD 14 dc) 11 dc) 10 dc) 8 dc) 7 dc) 6 dc) 5 dc)) zat)) rfl))))
    ·
     intro D b hn hd hcl
     obtain ⟨b11,hd16⟩:=b
     refine zaY (zcK (zac (zah (fun hD=>hn (hcl 7 _ rfl (hcl 8 _ rfl (hcl 10 _ rfl (hcl 11 _ rfl (hcl 14 _ rfl (hcl 15 _ rfl (hcl 16 _ rfl hD 15 dc) 14 dc) 11 dc) 10 dc) 8 dc) 7 dc) 6 dc)) zat) (zcK (zac (zah (fun hD=>hn (hcl 7 _ rfl (hcl 8 _ rfl (hcl 10 _ rfl (hcl 11 _ rfl (hcl 14 _ rfl (hcl 15 _ rfl hD 14 dc) 11 dc) 10 dc) 8 dc) 7 dc) 6 dc)) zat) rfl)))) ?_
     refine zai rfl dc (zaI (m:=5) rfl rfl (hd 5 dc)) ?_
     exact za4 (b:=(b11,hd16)) (b11,hd16) 6 (by rfl) (by rfl) rfl (zn7 (zd5 rfl)) (zcK (zac ((zav (by rfl)).trans (zah (fun hD=>hn (hcl 7 _ rfl (hcl 8 _ rfl (hcl 10 _ rfl (hcl 11 _ rfl (hcl 14 _ rfl (hcl 15 _ rfl (hcl 16 _ rfl hD 15 dc) 14 dc) 11 dc) 10 dc) 8 dc) 7 dc) 6 dc)) zat)) (zcK (zac ((zav (by rfl)).trans (zah (fun hD=>hn (hcl 7 _ rfl (hcl 8 _ rfl (hcl 10 _ rfl (hcl 11 _ rfl (hcl 14 _ rfl (hcl 15 _ rfl hD 14 dc) 11 dc) 10 dc) 8 dc) 7 dc) 6 dc)) zat)) rfl))))
    ·
     intro D b hn hd hcl
     obtain ⟨b11,hd16⟩:=b
     refine zaY (zcK (zac (zah (fun hD=>hn (hcl 8 _ rfl (hcl 10 _ rfl (hcl 11 _ rfl (hcl 14 _ rfl (hcl 15 _ rfl (hcl 16 _ rfl hD 15 dc) 14 dc) 11 dc) 10 dc) 8 dc) 7 dc)) zat) (zcK (zac (zah (fun hD=>hn (hcl 8 _ rfl (hcl 10 _ rfl (hcl 11 _ rfl (hcl 14 _ rfl (hcl 15 _ rfl hD 14 dc) 11 dc) 10 dc) 8 dc) 7 dc)) zat) rfl)))) ?_
     refine zaa zj5 rfl dc (zaI (m:=6) rfl rfl (hd 6 dc)) (show _=2 from rfl) ?_
     exact za4 (b:=(b11,hd16)) (b11,hd16) 7 (by rfl) (by rfl) rfl (zn7 (zd5 rfl)) (zcK (zac ((zav (by rfl)).trans (zah (fun hD=>hn (hcl 8 _ rfl (hcl 10 _ rfl (hcl 11 _ rfl (hcl 14 _ rfl (hcl 15 _ rfl (hcl 16 _ rfl hD 15 dc) 14 dc) 11 dc) 10 dc) 8 dc) 7 dc)) zat)) (zcK (zac ((zav (by rfl)).trans (zah (fun hD=>hn (hcl 8 _ rfl (hcl 10 _ rfl (hcl 11 _ rfl (hcl 14 _ rfl (hcl 15 _ rfl hD 14 dc) 11 dc) 10 dc) 8 dc) 7 dc)) zat)) rfl))))
    ·
     intro D b hn hd hcl
     obtain ⟨b11,hd16⟩:=b
     refine zaY (zcK (zac (zah (fun hD=>hn (hcl 10 _ rfl (hcl 11 _ rfl (hcl 14 _ rfl (hcl 15 _ rfl (hcl 16 _ rfl hD 15 dc) 14 dc) 11 dc) 10 dc) 8 dc)) zat) (zcK (zac (zah (fun hD=>hn (hcl 10 _ rfl (hcl 11 _ rfl (hcl 14 _ rfl (hcl 15 _ rfl hD 14 dc) 11 dc) 10 dc) 8 dc)) zat) rfl)))) ?_
     refine zaj (k:=1) zhS rfl dc (zaI (m:=7) rfl rfl (hd 7 dc)) rfl rfl ?_
     exact za4 (b:=(b11,hd16)) (b11,hd16) 8 (by rfl) (by rfl) rfl (zn7 (zd5 rfl)) (zcK (zac ((zav (by rfl)).trans (zah (fun hD=>hn (hcl 10 _ rfl (hcl 11 _ rfl (hcl 14 _ rfl (hcl 15 _ rfl (hcl 16 _ rfl hD 15 dc) 14 dc) 11 dc) 10 dc) 8 dc)) zat)) (zcK (zac ((zav (by rfl)).trans (zah (fun hD=>hn (hcl 10 _ rfl (hcl 11 _ rfl (hcl 14 _ rfl (hcl 15 _ rfl hD 14 dc) 11 dc) 10 dc) 8 dc)) zat)) rfl))))
    ·
     intro D b hn hd hcl
     obtain ⟨b11,hd16⟩:=b
     refine zaY (zcK (zac (zah (fun hD=>hn (hcl 10 _ rfl (hcl 11 _ rfl (hcl 14 _ rfl (hcl 15 _ rfl (hcl 16 _ rfl hD 15 dc) 14 dc) 11 dc) 10 dc) 9 dc)) zat) (zcK (zac (zah (fun hD=>hn (hcl 10 _ rfl (hcl 11 _ rfl (hcl 14 _ rfl (hcl 15 _ rfl hD 14 dc) 11 dc) 10 dc) 9 dc)) zat) rfl)))) ?_
     refine zgq rfl dc (zbd (by rfl) rfl) ?_
     exact za4 (b:=(b11,hd16)) (b11,hd16) 9 (by rfl) (by rfl) rfl (zn7 (zd5 rfl)) (zcK (zac ((zav (by rfl)).trans (zah (fun hD=>hn (hcl 10 _ rfl (hcl 11 _ rfl (hcl 14 _ rfl (hcl 15 _ rfl (hcl 16 _ rfl hD 15 dc) 14 dc) 11 dc) 10 dc) 9 dc)) zat)) (zcK (zac ((zav (by rfl)).trans (zah (fun hD=>hn (hcl 10 _ rfl (hcl 11 _ rfl (hcl 14 _ rfl (hcl 15 _ rfl hD 14 dc) 11 dc) 10 dc) 9 dc)) zat)) rfl))))
    ·
     intro D b hn hd hcl
     obtain ⟨b11,hd16⟩:=b
     refine zaY (zcK (zac (zah (fun hD=>hn (hcl 11 _ rfl (hcl 14 _ rfl (hcl 15 _ rfl (hcl 16 _ rfl hD 15 dc) 14 dc) 11 dc) 10 dc)) zat) (zcK (zac (zah (fun hD=>hn (hcl 11 _ rfl (hcl 14 _ rfl (hcl 15 _ rfl hD 14 dc) 11 dc) 10 dc)) zat) rfl)))) ?_
     refine za3 (k:=3) hq3 underlying24 zeI rfl dc (zaI (m:=8) rfl rfl (hd 8 dc)) (zaI (m:=9) rfl rfl (hd 9 dc)) rfl rfl ?_
     exact za4 (b:=(b11,hd16)) (b11,hd16) 10 (by rfl) (by rfl) rfl (zn7 (zd5 rfl)) (zcK (zac ((zav (by rfl)).trans (zah (fun hD=>hn (hcl 11 _ rfl (hcl 14 _ rfl (hcl 15 _ rfl (hcl 16 _ rfl hD 15 dc) 14 dc) 11 dc) 10 dc)) zat)) (zcK (zac ((zav (by rfl)).trans (zah (fun hD=>hn (hcl 11 _ rfl (hcl 14 _ rfl (hcl 15 _ rfl hD 14 dc) 11 dc) 10 dc)) zat)) rfl))))
    ·
     intro D b hn hd hcl
     obtain ⟨b11,hd16⟩:=b
     refine zaY (zcK (zac (zah (fun hD=>hn (hcl 14 _ rfl (hcl 15 _ rfl (hcl 16 _ rfl hD 15 dc) 14 dc) 11 dc)) zat) (zcK (zac (zah (fun hD=>hn (hcl 14 _ rfl (hcl 15 _ rfl hD 14 dc) 11 dc)) zat) rfl)))) ?_
     refine zbD (i:=(((t10++[x1]).length:Int) - 1:Int).toNat) (j:=0) (k:=3) (q:=q1) zbW zcJ rfl dc (zaI (m:=10) rfl rfl (hd 10 dc)) rfl (zbo hq3) rfl dc rfl ?_
     exact za4 (b:=(b11,hd16)) (b11,hd16) 11 (by rfl) (by rfl) rfl (zn7 (zd5 rfl)) (zcK (zac ((zav (by rfl)).trans (zah (fun hD=>hn (hcl 14 _ rfl (hcl 15 _ rfl (hcl 16 _ rfl hD 15 dc) 14 dc) 11 dc)) zat)) (zcK (zac ((zav (by rfl)).trans (zah (fun hD=>hn (hcl 14 _ rfl (hcl 15 _ rfl hD 14 dc) 11 dc)) zat)) rfl))))
    ·
     intro D b hn hd hcl
     obtain ⟨b11,hd16⟩:=b
     refine zaY (zcK (zac (zah (fun hD=>hn (hcl 13 _ rfl (hcl 14 _ rfl (hcl 15 _ rfl (hcl 16 _ rfl hD 15 dc) 14 dc) 13 dc) 12 dc)) zat) (zcK (zac (zah (fun hD=>hn (hcl 13 _ rfl (hcl 14 _ rfl (hcl 15 _ rfl hD 14 dc) 13 dc) 12 dc)) zat) rfl)))) ?_
     refine zaa zj3 rfl dc (zbd (by rfl) rfl) (show _=2 from rfl) ?_
     exact za4 (b:=(b11,hd16)) (b11,hd16) 12 (by rfl) (by rfl) rfl (zn7 (zd5 rfl)) (zcK (zac ((zav (by rfl)).trans (zah (fun hD=>hn (hcl 13 _ rfl (hcl 14 _ rfl (hcl 15 _ rfl (hcl 16 _ rfl hD 15 dc) 14 dc) 13 dc) 12 dc)) zat)) (zcK (zac ((zav (by rfl)).trans (zah (fun hD=>hn (hcl 13 _ rfl (hcl 14 _ rfl (hcl 15 _ rfl hD 14 dc) 13 dc) 12 dc)) zat)) rfl))))
    ·
     intro D b hn hd hcl
     obtain ⟨b11,hd16⟩:=b
     refine zaY (zcK (zac (zah (fun hD=>hn (hcl 14 _ rfl (hcl 15 _ rfl (hcl 16 _ rfl hD 15 dc) 14 dc) 13 dc)) zat) (zcK (zac (zah (fun hD=>hn (hcl 14 _ rfl (hcl 15 _ rfl hD 14 dc) 13 dc)) zat) rfl)))) ?_
     refine zaj (k:=5) zbW rfl dc (zaI (m:=12) rfl rfl (hd 12 dc)) rfl rfl ?_
     exact za4 (b:=(b11,hd16)) (b11,hd16) 13 (by rfl) (by rfl) rfl (zn7 (zd5 rfl)) (zcK (zac ((zav (by rfl)).trans (zah (fun hD=>hn (hcl 14 _ rfl (hcl 15 _ rfl (hcl 16 _ rfl hD 15 dc) 14 dc) 13 dc)) zat)) (zcK (zac ((zav (by rfl)).trans (zah (fun hD=>hn (hcl 14 _ rfl (hcl 15 _ rfl hD 14 dc) 13 dc)) zat)) rfl))))
    ·
     intro D b hn hd hcl
     obtain ⟨b11,hd16⟩:=b
     refine zaY (zcK (zac (zah (fun hD=>hn (hcl 15 _ rfl (hcl 16 _ rfl hD 15 dc) 14 dc)) zat) (zcK (zac (zah (fun hD=>hn (hcl 15 _ rfl hD 14 dc)) zat) rfl)))) ?_
     refine zb6 rfl dc (zaI (m:=11) rfl rfl (hd 11 dc)) (zaI (m:=13) rfl rfl (hd 13 dc)) (zbb (r:=q1+x1.Columns) (IntWalk.i64_in _ hg5)) ?_
     exact za4 (b:=(b11,hd16)) (b11,hd16) 14 (by rfl) (by rfl) rfl (zn7 (zd5 rfl)) (zcK (zac ((zav (by rfl)).trans (zah (fun hD=>hn (hcl 15 _ rfl (hcl 16 _ rfl hD 15 dc) 14 dc)) zat)) (zcK (zac ((zav (by rfl)).trans (zah (fun hD=>hn (hcl 15 _ rfl hD 14 dc)) zat)) rfl))))
    ·
     intro D b hn hd hcl
     obtain ⟨zb0,hd16⟩:=b
     refine zaY (zcK (zac (zah (fun hD=>hn (hcl 16 _ rfl hD 15 dc)) zat) (zcK (zac (zah hn zat) rfl)))) ?_
     refine zbc (cs:=[zI (q1+x1.Columns)]) (te:=3) (ps:=[(0,.tmp 59)]) rfl dc (evP.cons (zaI (m:=14) rfl rfl (hd 14 dc)) evP.nil) (fun _=>by kernel_rfl) (fun b11 => ?_)
     refine zdg 7 rfl rfl ?_
     exact za4 (b:=(zb0,hd16)) (b11,hd16) 15 (by rfl) (by rfl) rfl (zuT (zd5 (zaz (fun hD=>absurd hD hn) (zaz (fun _=>rfl) rfl)))) (zcK (zac ((zav (by rfl)).trans (zah (fun hD=>hn (hcl 16 _ rfl hD 15 dc)) zat)) (zcK (zac (zaW (Or.inr rfl) rfl) rfl))))
    ·
     intro D b hn hd hcl
     obtain ⟨b11,zb1⟩:=b
     refine zaY (zcK (zac (zah hn zat) (zcK (zac (zaW (hd 15 dc) rfl) rfl)))) ?_
     refine zbx (k:=3) (k2:=7) (ys:=[q1+x1.Columns]) underlying24 zxM zcJ zgw rfl dc (zaI (m:=4) rfl rfl (hd 4 dc)) (zaI (m:=15) rfl rfl (hd 15 dc)) rfl rfl rfl rfl hg6 (fun v2 => ?_)
     refine zbJ (k:=3) rfl (fun hd16 he2 => ?_)
     subst he2
     exact za4 (b:=(b11,zb1)) (b11,hd16) 16 (by rfl) (by rfl) rfl (zzQ (zd5 (zaz (fun hD=>absurd hD hn) rfl))) (zcK (zac (zaW (Or.inr rfl) rfl) (zcK (zac ((zav (by rfl)).trans (zaW (hd 15 dc) rfl)) rfl))))
    intro D b hall
    obtain ⟨b11,hd16⟩:=b
    refine zaY (zcK (zac (zaW (hall 16 dc) rfl) (zcK (zac (zaW (hall 15 dc) rfl) rfl)))) (zai rfl dc rfl (zaa zj5 rfl dc rfl (show _=2 from rfl) ?_))
    refine zaT (k:=1) (l':=[.string s1,hd15.v,hd16.v,hd12.v,zI (max 1 (l1.Width - indent1)),zI (l1.Width - l1.Turn)]) zs6 rfl rfl rfl rfl rfl (fun _ _=>rfl) rfl ?_
    refine zyH (zyR 1 rfl ?_)
    obtain ⟨hg7,h⟩:=zbQ h
    refine zaS rfl (zbb (r:=(((t10++[x1]).length:Int) - 1)+1) (IntWalk.i64_in _ hg7)) (zyR 1 rfl (zyN (cut (zyG (zaj (k:=0) zir rfl dc rfl rfl rfl (zyR 1 rfl ?_))))))
    obtain ⟨r2,hq4,h⟩:=zbL h
    refine zbK (v:=.bool r2) (vs:=[zP b6,zI (((t10++[x1]).length:Int) - 1)]) (Rd.nil:Rd _ _ []) rfl dc rfl rfl rfl zxD (zfx (bt1:=b6) (t1:=(⟨s1,t10++[x1],t11++[q1+x1.Columns],t12,max 1 (l1.Width - indent1),l1.Width - l1.Turn⟩:zbm)) (t1_h0:=hd15) (t1_h1:=hd16) (t1_h2:=hd12) hq4) (.own (zab [1] kr rfl) (fun _ _ h=>sepL.one1.1 h) (.own (zab [2] kr rfl) (fun _ _ h=>sepL.one1.1 h) (.own (zab [3] kr rfl) (fun _ _ h=>sepL.one1.1 h) (.own (zab [4] kr rfl) (fun _ _ h=>sepL.one1.1 h) .nil)))) ?_
    refine zyN ?_
    refine zyB rfl h (fun h => ?_) (fun h => ?_)
    ·
     refine zas (zaj (k:=0) zir rfl dc rfl rfl rfl (zai rfl dc rfl (zaa zj4 rfl dc rfl (show _=3 from rfl) (zaj (k:=1) zhS rfl dc rfl rfl rfl (zyR 1 rfl ?_)))))
     obtain ⟨q2,hq5,h⟩:=zbL h
     refine za3 (k:=4) hq5 underlying24 zeI rfl dc rfl rfl rfl rfl (zbD (i:=(((t10++[x1]).length:Int) - 1:Int).toNat) (j:=0) (k:=4) (q:=q2) zbW zcJ rfl dc rfl rfl (zbo hq5) rfl dc rfl (zyR 1 rfl (zaP ?_)))
     exact zak (t11++[q1+x1.Columns],q2,hd15,hd16) h rfl (zbf rfl) (zab [0,1,2,3,4] kr rfl)
    refine zal ?_
    exact zak (t11++[q1+x1.Columns],(((t10++[x1]).length:Int) - 1)+1,hd15,hd16) h rfl (zbf rfl) (zab [0,1,2,3,4] kr rfl)
   rintro ⟨t13,end1,hd13,hd14⟩ h
   rw [hj2] at h
   obtain ⟨hg8,h⟩:=zbQ h
   refine zgG 1 ?_
   refine let vals3:(Nat×Hd)→List (Nat×Nat×Value):=fun b=>[(0,76,zP b6),(1,77,zP b6),(2,78,zP b6),(3,79,.pointer (some ⟨b6,3,none⟩)),(4,80,hd12.v),(5,81,zI end1),(6,82,.slice (some ⟨b.1,0,none⟩) 1 1),(7,83,b.2.v)]; let LL3:(Nat→Prop)→(Nat×Hd)→List Asn:=fun D b=>[cells b7 [zP b6] 153,cells b6 [.string s1,hd13.v,hd14.v,hd12.v,zI (max 1 (l1.Width - indent1)),zI (l1.Width - l1.Turn)] 156,zv3 hd13.v (t10++[x1]),zv0 hd14.v t13,eD D (zv0 hd12.v t12) [(7,zv0 b.2.v (t12++[end1]))],eD D emp [(6,cells b.1 [zI end1] 3)]]; ?_
   refine zeb (β:=Nat×Hd) 8 ((0:Nat),Hd.nil) vals3 LL3 mixed kr kr dc (fun _=>rfl) (zfu (zac zci (zac zci rfl))) (zaF ?_ (zaF ?_ (zaF ?_ (zaF ?_ (zaF ?_ (zaF ?_ (zaF ?_ (zaF ?_ DrawG.nil)))))))) ?_
   ·
    intro D b hn hd hcl
    obtain ⟨b12,hd17⟩:=b
    refine zaY (zwK rfl) (zaj (k:=0) zir rfl dc (zbd (by rfl) rfl) rfl rfl ?_)
    exact za4 (b:=(b12,hd17)) (b12,hd17) 0 (by rfl) (by rfl) rfl (zks rfl) (zfu (zac (zav (by rfl)) (zac (zav (by rfl)) rfl)))
   ·
    intro D b hn hd hcl
    obtain ⟨b12,hd17⟩:=b
    refine zaY (zfu (zac (zah (fun hD=>hn (hcl 2 _ rfl (hcl 3 _ rfl (hcl 4 _ rfl (hcl 7 _ rfl hD 4 dc) 3 dc) 2 dc) 1 dc)) zat) rfl)) ?_
    refine zaj (k:=0) zir rfl dc (zbd (by rfl) rfl) rfl rfl ?_
    exact za4 (b:=(b12,hd17)) (b12,hd17) 1 (by rfl) (by rfl) rfl (zks rfl) (zfu (zac ((zav (by rfl)).trans (zah (fun hD=>hn (hcl 2 _ rfl (hcl 3 _ rfl (hcl 4 _ rfl (hcl 7 _ rfl hD 4 dc) 3 dc) 2 dc) 1 dc)) zat)) (zac (zav (by rfl)) rfl)))
   ·
    intro D b hn hd hcl
    obtain ⟨b12,hd17⟩:=b
    refine zaY (zfu (zac (zah (fun hD=>hn (hcl 3 _ rfl (hcl 4 _ rfl (hcl 7 _ rfl hD 4 dc) 3 dc) 2 dc)) zat) rfl)) ?_
    refine zai rfl dc (zaI (m:=1) rfl rfl (hd 1 dc)) ?_
    exact za4 (b:=(b12,hd17)) (b12,hd17) 2 (by rfl) (by rfl) rfl (zks rfl) (zfu (zac ((zav (by rfl)).trans (zah (fun hD=>hn (hcl 3 _ rfl (hcl 4 _ rfl (hcl 7 _ rfl hD 4 dc) 3 dc) 2 dc)) zat)) (zac (zav (by rfl)) rfl)))
   ·
    intro D b hn hd hcl
    obtain ⟨b12,hd17⟩:=b
    refine zaY (zfu (zac (zah (fun hD=>hn (hcl 4 _ rfl (hcl 7 _ rfl hD 4 dc) 3 dc)) zat) rfl)) ?_
    refine zaa zj4 rfl dc (zaI (m:=2) rfl rfl (hd 2 dc)) (show _=3 from rfl) ?_
    exact za4 (b:=(b12,hd17)) (b12,hd17) 3 (by rfl) (by rfl) rfl (zks rfl) (zfu (zac ((zav (by rfl)).trans (zah (fun hD=>hn (hcl 4 _ rfl (hcl 7 _ rfl hD 4 dc) 3 dc)) zat)) (zac (zav (by rfl)) rfl)))
   ·
    intro D b hn hd hcl
    obtain ⟨b12,hd17⟩:=b
    refine zaY (zfu (zac (zah (fun hD=>hn (hcl 7 _ rfl hD 4 dc)) zat) rfl)) ?_
    refine zaj (k:=1) zhS rfl dc (zaI (m:=3) rfl rfl (hd 3 dc)) rfl rfl ?_
    exact za4 (b:=(b12,hd17)) (b12,hd17) 4 (by rfl) (by rfl) rfl (zks rfl) (zfu (zac ((zav (by rfl)).trans (zah (fun hD=>hn (hcl 7 _ rfl hD 4 dc)) zat)) (zac (zav (by rfl)) rfl)))
   ·
    intro D b hn hd hcl
    obtain ⟨b12,hd17⟩:=b
    refine zaY (zfu (zac (zah (fun hD=>hn (hcl 6 _ rfl (hcl 7 _ rfl hD 6 dc) 5 dc)) zat) (zac (zah (fun hD=>hn (hcl 6 _ rfl hD 5 dc)) zat) rfl))) ?_
    refine zgq rfl dc (zbd (by rfl) rfl) ?_
    exact za4 (b:=(b12,hd17)) (b12,hd17) 5 (by rfl) (by rfl) rfl (zks rfl) (zfu (zac ((zav (by rfl)).trans (zah (fun hD=>hn (hcl 6 _ rfl (hcl 7 _ rfl hD 6 dc) 5 dc)) zat)) (zac ((zav (by rfl)).trans (zah (fun hD=>hn (hcl 6 _ rfl hD 5 dc)) zat)) rfl)))
   ·
    intro D b hn hd hcl
    obtain ⟨zb0,hd17⟩:=b
    refine zaY (zfu (zac (zah (fun hD=>hn (hcl 7 _ rfl hD 6 dc)) zat) (zac (zah hn zat) rfl))) ?_
    refine zbc (cs:=[zI end1]) (te:=3) (ps:=[(0,.tmp 81)]) rfl dc (evP.cons (zaI (m:=5) rfl rfl (hd 5 dc)) evP.nil) (fun _=>by kernel_rfl) (fun b12 => ?_)
    refine zdg 5 rfl rfl ?_
    exact za4 (b:=(zb0,hd17)) (b12,hd17) 6 (by rfl) (by rfl) rfl (zvM (zaz (fun hD=>absurd hD hn) (zaz (fun _=>rfl) rfl))) (zfu (zac ((zav (by rfl)).trans (zah (fun hD=>hn (hcl 7 _ rfl hD 6 dc)) zat)) (zac (zaW (Or.inr rfl) rfl) rfl)))
   ·
    intro D b hn hd hcl
    obtain ⟨b12,zb1⟩:=b
    refine zaY (zfu (zac (zah hn zat) (zac (zaW (hd 6 dc) rfl) rfl))) ?_
    refine zbx (k:=4) (k2:=5) (ys:=[end1]) underlying24 zxM zcJ zgw rfl dc (zaI (m:=4) rfl rfl (hd 4 dc)) (zaI (m:=6) rfl rfl (hd 6 dc)) rfl rfl rfl rfl hg8 (fun v3 => ?_)
    refine zbJ (k:=4) rfl (fun hd17 he3 => ?_)
    subst he3
    exact za4 (b:=(b12,zb1)) (b12,hd17) 7 (by rfl) (by rfl) rfl (zls (zaz (fun hD=>absurd hD hn) rfl)) (zfu (zac (zaW (Or.inr rfl) rfl) (zac ((zav (by rfl)).trans (zaW (hd 6 dc) rfl)) rfl)))
   intro D b hall
   obtain ⟨b12,hd17⟩:=b
   refine zaY (zfu (zac (zaW (hall 7 dc) rfl) (zac (zaW (hall 6 dc) rfl) rfl))) (zai rfl dc rfl (zaa zj4 rfl dc rfl (show _=3 from rfl) ?_))
   refine zaT (k:=1) (l':=[.string s1,hd13.v,hd14.v,hd17.v,zI (max 1 (l1.Width - indent1)),zI (l1.Width - l1.Turn)]) zs6 rfl rfl rfl rfl rfl (fun _ _=>rfl) rfl ?_
   refine zaP (zae ?_)
   exact zcN (t10++[x1],t13,t12++[end1],hd13,hd14,hd17) (fun post2 e2=>by have e9:=zds hxs1 e2; subst e9; subst hag1; exact h) (zab [0,1,2,3,4] kr rfl)
  ·
   rintro dm1 ⟨t10,t11,t12,hd10,hd11,hd12⟩ hinv
   have h:dn1 t10 t11 t12=some r:=hinv [] (List.append_nil _).symm
   rw [hdn1] at h
   refine zew (k:=13) (j:=0) rfl rfl dc ?_
   refine zae ?_
   exact zak (t10,t11,t12,b7,b6,hd10,hd11,hd12,dm1::([]:List Nat)) h rfl (zbf rfl) (zab [8,9,10,11,12,0] kr rfl)
  rintro dm1 c pre x1 post g hxs hX
  exact (show False from hX).elim
 rintro ⟨t1,t2,t3,b1,b2,hd1,hd2,hd3,ds1⟩ h
 rw [hj1] at h
 refine zyG (zaj (k:=0) zir rfl dc rfl rfl rfl (zyR 1 rfl (zyN (zau ?_))))
 cases h
 exact zdh (rs:=[.tmp 6]) ds1 (b2,hd1,hd2,hd3) (.inl rfl) (zbq (k:=5) rfl) results64 (.cons (.tmp rfl) .nil) rfl (zab [1,2,3,4] kr rfl)
def zdY (j1:Int→(List zBA)→Option ((List zBA)×Int)) (r1:zbm) (r2:((List Int)×Int)) (ag1:(List zBA)→Int→Int→Option ((List zBA)×Int)) (out4:List zBA) (from3:Int) (x3:Int):Option ((List zBA)×Int) := zaB (decide ((x3:Int)<(r2.1.length:Int))) ( zan (zdf r2.1 x3) fun (q1:Int) => zan (zel r1 from3 q1) fun (r3:zBA) => grd (out4.length+1≤2147483648) <| grd (I64 (x3+1)) <| ag1 (out4++[r3]) q1 (x3+1)
) ( j1 r2.2 out4
)
def zfR (s1:zBA) (indent1:Int) (l1:zaO):Option ((List zBA)×Int) := zbE (fun (j1:Int→(List zBA)→Option ((List zBA)×Int)) => zan (zeg s1 indent1 l1) fun (r1:zbm) => zan (zem r1) fun (r2:((List Int)×Int)) => za1 (fun _ _ _=>none) (zdY j1 r1 r2) zcD ([]:List zBA) 0 0
) (fun (cost1:Int) (out1:List zBA) => some (out1,cost1)
)
theorem zlh {s1:zBA} {indent1:Int} {l1:zaO} {r:((List zBA)×Int)} (h:zfR s1 indent1 l1=some r):Fn prog 53 [.string s1,zI indent1,.agg (zr0 l1).toArray] [] (fun v0:Value=>.tuple #[v0,zI r.2]) (fun v0=>[zv2 v0 r.1]):=by
 unfold zfR at h
 refine Fn.intro func53 rfl ntmps53 (by simp) ?_
 intro w0 K
 obtain ⟨j1,hj1,h⟩:=zbT h
 refine za8 (β:=Int×(List zBA)×Hd) 5 rfl (fun b=>j1 b.1 b.2.1=some r) (fun b=>[]) (fun b=>[(10,zI b.1),(11,b.2.2.v)]) (fun b=>[zv2 b.2.2.v b.2.1]) (fun cut => ?_) ?_
 ·
  refine zyG ?_
  refine zdi rfl dc rfl (fun b1 => ?_)
  refine zyR 2 rfl (zyH (zyR 2 rfl (zaV (k:=0) (cs:=(zr0 l1)) zjs rfl dc rfl rfl rfl rfl ?_)))
  obtain ⟨r1,hq1,h⟩:=zbL h
  refine zcE (vs:=[.string s1,zI indent1,.agg (zr0 l1).toArray]) rfl dc rfl rfl rfl zzi (zhJ (l1:=l1) hq1) Splits.nil ?_
  rintro ⟨b2,hd2,hd3,hd4⟩
  refine zcs (L':=[cells b1 (zr0 l1) 23,cells b2 [.string r1.s,hd2.v,hd3.v,hd4.v,zI r1.first,zI r1.rest] 156,zv3 hd2.v r1.cells,zv0 hd3.v r1.wide,zv0 hd4.v r1.ends]) (zab [0,1,2,3,4] kr rfl) (zyR 1 rfl (zyH (zyR 1 rfl ?_)))
  obtain ⟨r2,hq2,h⟩:=zbL h
  refine zft (vs:=[zP b2]) (Rd.nil:Rd _ _ []) rfl dc rfl rfl rfl zAk (zjv (bt1:=b2) (t1:=r1) (t1_h0:=hd2) (t1_h1:=hd3) (t1_h2:=hd4) hq2) Splits.nil (.own (zab [1] kr rfl) (fun _ _ h=>sepL.one1.1 h) (.own (zab [2] kr rfl) (fun _ _ h=>sepL.one1.1 h) (.own (zab [3] kr rfl) (fun _ _ h=>sepL.one1.1 h) (.own (zab [4] kr rfl) (fun _ _ h=>sepL.one1.1 h) .nil)))) ?_
  rintro v1
  refine zbJ (k:=5) rfl (fun hd5 he1 => ?_)
  subst he1
  refine zyR 1 rfl (zaN rfl dc rfl rfl (zaN rfl dc rfl rfl (zyR 2 rfl (zyH (zyR 1 rfl (zyH ?_))))))
  refine zyR 1 rfl (zyN (cut (zyG (zyR 1 rfl (zdu (k:=5) rfl dc rfl rfl underlying24 (zyR 1 rfl (zyN (zaG (zer (enc:=zkv) (e:=9) (size:=1) ?_)))))))))
  refine zbP (β:=Nat×(List zBA)×Int×Int×Hd) (fun b=>za1 (fun _ _ _=>none) (zdY j1 r1 r2) b.1 b.2.1 b.2.2.1 b.2.2.2.1=some r) (fun b=>[]) (fun b=>[(8,zP b2),(10,zI r2.2),(11,b.2.2.2.2.v),(12,zI b.2.2.1),(24,hd5.v),(25,zI (r2.1.length:Int)),(26,zI b.2.2.2.1)]) (fun b=>[cells b2 [.string r1.s,hd2.v,hd3.v,hd4.v,zI r1.first,zI r1.rest] 156,zv3 hd2.v r1.cells,zv0 hd3.v r1.wide,zv0 hd4.v r1.ends,zv2 b.2.2.2.2.v b.2.1,zv0 hd5.v r2.1]) (fun b=>b.1) (zcD,([]:List zBA),0,0,Hd.nil) h rfl (zbf rfl) (zab [1,2,3,4,6,5] kr rfl) ?_
  rintro ⟨n1,out4,from3,x3,hd8⟩ h
  cases n1 with
  | zero=>exact zdO h
  | succ n1 =>
   obtain ⟨ag1,hag1⟩:∃ ag,ag=za1 (fun _ _ _=>none) (zdY j1 r1 r2) n1:=⟨_,rfl⟩
   have h:zdY j1 r1 r2 ag1 out4 from3 x3=some r:=by rw [hag1]; exact h
   unfold zdY at h
   refine zyG (zaS rfl zbF (zyN (zaE ?_)))
   refine zyB rfl h (fun h => ?_) (fun h => ?_)
   ·
    refine zal (zay (zaE (zaG (zyG ?_))))
    obtain ⟨q1,hq3,h⟩:=zbL h
    refine za3 (k:=5) hq3 underlying24 zeI rfl dc rfl rfl rfl rfl (zbD (i:=(x3:Int).toNat) (j:=0) (k:=5) (q:=q1) zbW zcJ rfl dc rfl rfl (zbo hq3) rfl dc rfl (zyR 1 rfl (zyH (zyR 4 rfl ?_))))
    obtain ⟨r3,hq4,h⟩:=zbL h
    refine zbK (v:=.string r3) (vs:=[zP b2,zI from3,zI q1]) (Rd.nil:Rd _ _ []) rfl dc rfl rfl rfl zAj (zju (bt1:=b2) (t1:=r1) (t1_h0:=hd2) (t1_h1:=hd3) (t1_h2:=hd4) hq4) (.own (zab [0] kr rfl) (fun _ _ h=>sepL.one1.1 h) (.own (zab [1] kr rfl) (fun _ _ h=>sepL.one1.1 h) (.own (zab [2] kr rfl) (fun _ _ h=>sepL.one1.1 h) (.own (zab [3] kr rfl) (fun _ _ h=>sepL.one1.1 h) .nil)))) ?_
    refine zbc (cs:=[.string r3]) (te:=9) (ps:=[(0,.tmp 34)]) rfl dc rfl (fun _=>by kernel_rfl) (fun b3 => ?_)
    obtain ⟨hg1,h⟩:=zbQ h
    refine zbx (k:=4) (k2:=6) (ys:=[r3]) underlying38 zyc zey zkg rfl dc rfl rfl rfl rfl rfl rfl hg1 (fun v2 => ?_)
    refine zbJ (k:=4) rfl (fun hd9 he2 => ?_)
    subst he2
    refine zyR 1 rfl (zyN (zas (zyR 2 rfl (zaP (zae (zay (zas ?_)))))))
    obtain ⟨hg2,h⟩:=zbQ h
    refine zaS rfl (zbb (r:=x3+1) (IntWalk.i64_in _ hg2)) (zyR 1 rfl (zaP ?_))
    subst hag1
    exact zbr (n1,out4++[r3],q1,x3+1,hd9) h (Nat.lt_succ_self _) rfl (zbf rfl) (zab [0,1,2,3,4,5] kr rfl)
   refine zbu (zaq (zaq (zaJ ?_)))
   exact zak (r2.2,out4,hd8) h rfl (zbf rfl) (zab [4] kr rfl)
 rintro ⟨cost1,out1,hd1⟩ h
 rw [hj1] at h
 refine zyG (zyR 4 rfl (zyN (zau ?_)))
 cases h
 exact zbt (rs:=[.tmp 6,.tmp 7]) hd1.v (.inl rfl) results53 (.cons (.tmp rfl) (.cons (.tmp rfl) .nil)) rfl (zab [0] kr rfl)
def zg8 (text1:zBA) (indent1:Int) (l1:zaO):Option ((List zBA)×Int×Int) := zan (zgm l1) fun (r1:Bool) => zaB (!r1) ( some (([]:List zBA),0,2)
) ( zaB (decide ((indent1:Int)<0)) ( some (([]:List zBA),0,2)
) ( zaB (decide ((1024:Int)<indent1)) ( some (([]:List zBA),0,2)
) ( zaB (decide ((1024:Int)<(text1.size:Int))) ( some (([]:List zBA),0,2)
) ( zan (zfR text1 indent1 l1) fun (r2:((List zBA)×Int)) => some (r2.1,r2.2,0)
)
)
)
)
theorem zpg {text1:zBA} {indent1:Int} {l1:zaO} {r:((List zBA)×Int×Int)} (h:zg8 text1 indent1 l1=some r):Fn prog 40 [.string text1,zI indent1,.agg (zr0 l1).toArray] [] (fun v0:Value=>.tuple #[v0,zI r.2.1,zI r.2.2]) (fun v0=>[zv2 v0 r.1]):=by
 unfold zg8 at h
 refine Fn.intro func40 rfl ntmps40 (by simp) ?_
 intro w0 K
 refine zyG ?_
 refine zdi rfl dc rfl (fun b1 => ?_)
 refine zyR 3 rfl (zyN (zaE (zyG (zaV (k:=0) (cs:=(zr0 l1)) zjs rfl dc rfl rfl rfl rfl ?_))))
 obtain ⟨r1,hq1,h⟩:=zbL h
 refine zbg (v:=.bool r1) (vs:=[.agg (zr0 l1).toArray]) rfl dc rfl rfl rfl zxJ (zjw (l1:=l1) hq1) (zdt rfl dc rfl zct (zyR 1 rfl ?_))
 refine zyS (s:=14) rfl h (fun h => ?_) (fun h => ?_)
 ·
  refine zyR 12 rfl (zyN ?_)
  refine zba rfl (zyG (zyR 3 rfl (zyN (zau (zaf (zgE (enc:=zkv) (e:=9) (size:=1) ?_))))))
  cases h
  exact zbt (rs:=[.tmp 6,.tmp 7,.tmp 8]) (.slice none 0 0) (.inl rfl) results40 (.cons (.tmp rfl) (.cons (.tmp rfl) (.cons (.tmp rfl) .nil))) rfl (zab [1] kr rfl)
 refine zyR 1 rfl (zaS rfl zbF (zyR 2 rfl ?_))
 refine zyS (s:=18) rfl h (fun h => ?_) (fun h => ?_)
 ·
  refine zyR 8 rfl (zyN (zba rfl (zyG (zyR 1 rfl ?_))))
  refine zyR 2 rfl (zyN (zau (zaf (zgE (enc:=zkv) (e:=9) (size:=1) ?_))))
  cases h
  exact zbt (rs:=[.tmp 6,.tmp 7,.tmp 8]) (.slice none 0 0) (.inl rfl) results40 (.cons (.tmp rfl) (.cons (.tmp rfl) (.cons (.tmp rfl) .nil))) rfl (zab [1] kr rfl)
 refine zyR 1 rfl (zaS rfl zc1 (zyR 2 rfl ?_))
 refine zyS (s:=22) rfl h (fun h => ?_) (fun h => ?_)
 ·
  refine zyR 4 rfl (zyN (zba rfl (zyG (zyR 3 rfl (zyN ?_)))))
  refine zau (zaf (zgE (enc:=zkv) (e:=9) (size:=1) ?_))
  cases h
  exact zbt (rs:=[.tmp 6,.tmp 7,.tmp 8]) (.slice none 0 0) (.inl rfl) results40 (.cons (.tmp rfl) (.cons (.tmp rfl) (.cons (.tmp rfl) .nil))) rfl (zab [1] kr rfl)
 refine zyR 1 rfl (zbC rfl dc rfl underlying9 (zaS rfl zc1 (zyR 1 rfl (zyN ?_))))
 refine zyB rfl h (fun h => ?_) (fun h => ?_)
 ·
  refine zyG (zyR 3 rfl (zyN (zau (zaf (zgE (enc:=zkv) (e:=9) (size:=1) ?_)))))
  cases h
  exact zbt (rs:=[.tmp 6,.tmp 7,.tmp 8]) (.slice none 0 0) (.inl rfl) results40 (.cons (.tmp rfl) (.cons (.tmp rfl) (.cons (.tmp rfl) .nil))) rfl (zab [1] kr rfl)
 refine zal (zay (zyG (zyR 2 rfl (zaV (k:=0) (cs:=(zr0 l1)) zjs rfl dc rfl rfl rfl rfl ?_))))
 obtain ⟨r2,hq2,h⟩:=zbL h
 refine zcE (vs:=[.string text1,zI indent1,.agg (zr0 l1).toArray]) rfl dc rfl rfl rfl zzn (zlh (l1:=l1) hq2) Splits.nil ?_
 rintro v1
 refine zyR 1 rfl (zaN rfl dc rfl rfl (zaN rfl dc rfl rfl (zyR 2 rfl (zyH (zyR 5 rfl ?_)))))
 refine zyN (zau ?_)
 cases h
 exact zbt (rs:=[.tmp 6,.tmp 7,.tmp 8]) v1 (.inl rfl) results40 (.cons (.tmp rfl) (.cons (.tmp rfl) (.cons (.tmp rfl) .nil))) rfl (zab [1] kr rfl)
abbrev zge:=zaH
def spB (s:zBA) (c:zge):Bool:=if c.Span_To=c.Span_From+1 then zkK s c.Span_From==some 32 else false
def ze6 (l:List zge):Int:=(l.map (·.Columns)).sum
theorem znW (a b:List zge):ze6 (a++b)=ze6 a+ze6 b:=by unfold ze6; rw [List.map_append,List.sum_append]
theorem zsG (c:zge):ze6 [c]=c.Columns:=by simp [ze6]
def eN (sp:zge→Bool) (l:List zge):Nat:=(l.reverse.dropWhile sp).length
theorem zqJ (sp:zge→Bool) (l:List zge) (x:zge):eN sp (l++[x])=if sp x then eN sp l else l.length+1:=by
 unfold eN
 rw [List.reverse_append,List.reverse_singleton,List.singleton_append,List.dropWhile_cons]
 split
 ·rfl
 ·simp
theorem zxO (sp:zge→Bool) (l:List zge):eN sp l≤l.length:=by
 unfold eN
 have:=(List.dropWhile_suffix sp (l:=l.reverse)).length_le
 rwa [List.length_reverse] at this
theorem znA {α:Type} {l:List α} {k:Nat} {x:α} (h:l[k]?=some x):l.take (k+1)=l.take k++[x]:=by
 rw [List.take_add_one,h]; rfl
theorem zqK (sp:zge→Bool) (C:List zge):∀ (d k:Nat),eN sp (C.take k)≤eN sp (C.take (k+d))
 | 0,k=>Nat.le_refl _
 | d+1,k=>by
  refine Nat.le_trans (zqK sp C d k) ?_
  by_cases h:k+d<C.length
  ·rw [show k+(d+1)=k+d+1 by omega,znA (List.getElem?_eq_getElem h),zqJ]
   split
   ·exact Nat.le_refl _
   ·have:=zxO sp (C.take (k+d)); omega
  ·rw [List.take_of_length_le (by omega),List.take_of_length_le (by omega)]; exact Nat.le_refl _
def wl (P:List zge):List Int:=(List.range (P.length+1)).map fun k=>ze6 (P.take k)
def el (sp:zge→Bool) (P:List zge):List Int:=(List.range (P.length+1)).map fun k=>((eN sp (P.take k):Nat):Int)
theorem zsU (P:List zge) (k:Nat) (h:k≤P.length):(wl P)[k]?=some (ze6 (P.take k)):=by
 unfold wl; rw [List.getElem?_map,List.getElem?_range (by omega)]; rfl
theorem zue (sp:zge→Bool) (P:List zge) (k:Nat) (h:k≤P.length):(el sp P)[k]?=some ((eN sp (P.take k):Nat):Int):=by
 unfold el; rw [List.getElem?_map,List.getElem?_range (by omega)]; rfl
theorem zyw (P:List zge):(wl P).length=P.length+1:=by unfold wl; simp
theorem zzC (sp:zge→Bool) (P:List zge):(el sp P).length=P.length+1:=by unfold el; simp
theorem zrd {β:Type} (f:List zge→β) (P:List zge) (x:zge):(List.range ((P++[x]).length+1)).map (fun k=>f ((P++[x]).take k))=(List.range (P.length+1)).map (fun k=>f (P.take k))++[f (P++[x])]:=by
 rw [show (P++[x]).length+1=(P.length+1)+1 by simp,List.range_succ,List.map_append,List.map_singleton]
 congr 1
 ·refine List.map_congr_left fun k hk => ?_
  rw [List.take_append_of_le_length (by have:=List.mem_range.1 hk; omega)]
 ·rw [List.take_of_length_le (by simp)]
theorem zwQ (P:List zge) (x:zge):wl (P++[x])=wl P++[ze6 P+x.Columns]:=by
 unfold wl; rw [zrd ze6,znW,zsG]
theorem zxL (sp:zge→Bool) (P:List zge) (x:zge):el sp (P++[x])=el sp P++[(((if sp x then eN sp P else P.length+1):Nat):Int)]:=by
 unfold el; rw [zrd (fun l=>((eN sp l:Nat):Int)),zqJ]
theorem Cov.mem:∀ {cs:List zge} {a b:Int},Cov a cs b→∀ c∈cs,a≤c.Span_From∧c.Span_From<c.Span_To∧c.Span_To≤b∧0≤c.Columns∧c.Columns≤2
 | [],a,b,_,c,hc=>by cases hc
 | d::cs,a,b,h,c,hc=>by
  obtain ⟨h1,h2,h3,h4⟩:=h
  have hle:∀ (cs:List zge) (a b:Int),Cov a cs b→a≤b:=by
   intro cs
   induction cs with
   | nil=>intro a b h; have:a=b:=h; omega
   | cons e es ih=>intro a b h; have:=ih _ _ h.2.2.2; have:=h.2.1; omega
  have:=hle _ _ _ h4
  rcases List.mem_cons.1 hc with rfl | hc
  ·exact ⟨by omega,by omega,this,h3.1,h3.2⟩
  ·have:=Cov.mem h4 c hc; omega
theorem zi3:∀ {l:List zge},(∀ c∈l,0≤c.Columns∧c.Columns≤2)→0≤ze6 l∧ze6 l≤2*l.length
 | [],_=>⟨Int.le_refl _,by simp [ze6]⟩
 | c::l,h=>by
  have h1:=h c (List.mem_cons_self ..)
  have h2:=zi3 (l:=l) fun d hd=>h d (List.mem_cons_of_mem _ hd)
  have e:ze6 (c::l)=c.Columns+ze6 l:=by simp [ze6]
  rw [e,List.length_cons]; omega
theorem zs8 (t:zbm) (k:Nat) (c:zge) (hc:t.cells[k]?=some c) (h0:0≤c.Span_From) (h1:c.Span_From<t.s.size) (hs:t.s.size≤100000):zcC t (k:Int)=some (spB t.s c):=by
 unfold zcC spB
 refine za7 (zeD hc) (zcm ⟨by omega,by omega⟩ ?_)
 by_cases h:c.Span_To=c.Span_From+1
 ·rw [if_pos h]
  obtain ⟨m,hm⟩:∃ m:Nat,c.Span_From=m:=⟨c.Span_From.toNat,by omega⟩
  have hg:=zqx hm (show m<t.s.size by omega)
  refine zaR (zmR h) (za7 hg ?_)
  rw [hg]
  show some _=some _
  congr 1
 ·rw [if_neg h]; exact zaK (zmS h) rfl
def zfv (s:zBA) (first rest:Int):zbm:=⟨s,zaD s,wl (zaD s),el (spB s) (zaD s),first,rest⟩
theorem ztL (s:zBA) (hs:s.size≤100000) (ind:Int) (l:zaO) (C:List zge) (hC:∀ c∈C,0≤c.Span_From∧c.Span_From<(s.size:Int)∧0≤c.Columns∧c.Columns≤2) (hl:C.length≤100000) (d:List zge→List Int→List Int→Option zbm) :
  ∀ (xs P:List zge),C=P++xs→zcQ d (zdd s ind l) xs P (wl P) (el (spB s) P)=d C (wl C) (el (spB s) C)
 | [],P,h=>by rw [List.append_nil] at h; subst h; rfl
 | x::xs,P,h=>by
  have ih:=ztL s hs ind l C hC hl d xs (P++[x]) (by rw [h]; simp)
  obtain ⟨c1,c2,c3,c4⟩:=hC x (by rw [h]; simp)
  have hPl:P.length+1+xs.length=C.length:=by rw [h]; simp; omega
  have hPs:=zi3 (l:=P) fun c hc=>by have:=hC c (by rw [h]; simp [hc]); omega
  rw [zhV]
  generalize zcQ d (zdd s ind l) xs=ag at ih ⊢
  unfold zdd
  have e1:((P++[x]).length:Int) - 1=(P.length:Int):=by simp
  have hg1:zdf (wl P) (P.length:Int)=some (ze6 P):=by
   have:=zeD (zsU P P.length (Nat.le_refl _)); rwa [List.take_length] at this
  have hg2:zdf (el (spB s) P) (P.length:Int)=some ((eN (spB s) P:Nat):Int):=by
   have:=zeD (zue (spB s) P P.length (Nat.le_refl _)); rwa [List.take_length] at this
  have hwl:=zyw P
  have hel:=zzC (spB s) P
  refine zcj (zcm (by omega) ?_)
  rw [e1]
  refine zcm ⟨by omega,by omega⟩ (za7 hg1 (zcm ⟨by omega,by omega⟩ (zcm (by omega) (zcm ⟨by omega,by omega⟩ ?_))))
  refine za7 (zs8 ⟨s,P++[x],wl P++[ze6 P+x.Columns],el (spB s) P,max 1 (l.Width - ind),l.Width - l.Turn⟩ P.length x (by simp) c1 c2 hs) ?_
  rw [← ih,zwQ,zxL]
  show zaB (spB s x) _ _=_
  cases hsp:spB s x with
  | true=>exact zaR rfl (za7 hg2 (zcm (by omega) rfl))
  | false=>exact zaK rfl (zcm (by omega) rfl)
theorem zmr (s:zBA) (hs:s.size≤100000) (ind:Int) (l:zaO) (h1:I64 (l.Width - ind)) (h2:I64 (l.Width - l.Turn)):zeg s ind l=some (zfv s (max 1 (l.Width - ind)) (l.Width - l.Turn)):=by
 unfold zeg
 refine zcj (zcm h1 (zcm h2 (za7 rfl (za7 (zzE s (by omega)) (zcj ?_)))))
 have hl:=zi4 s
 have hm:=(zfW s).mem
 have:=ztL s hs ind l (zaD s) (fun c hc=>by have:=hm c hc; omega) (by omega) (fun t10 t11 t12=>some (⟨s,t10,t11,t12,max 1 (l.Width - ind),l.Width - l.Turn⟩:zbm)) (zaD s) [] rfl
 exact this
def znX (sp:zge→Bool) (C:List zge) (f t:Nat):Int:=ze6 (C.take (max f (eN sp (C.take t)))) - ze6 (C.take f)
def zig (a b:Int) (f:Nat):Int:=if f=0 then a else b
def zoj (sp:zge→Bool) (C:List zge) (k:Nat):Bool:=match C[k]? with | some c=>sp c | none=>false
def zqj (sp:zge→Bool) (C:List zge) (a b:Int) (f t:Nat):Bool:=!(decide (0<f)&&zoj sp C f)&&(decide (znX sp C f t≤zig a b f)||decide (eN sp (C.take t)≤f+1))
def zqQ (sp:zge→Bool) (C:List zge) (a b:Int) (f t:Nat):Int:=(if 0<zig a b f - znX sp C f t then (zig a b f - znX sp C f t)*(zig a b f - znX sp C f t) else 0)+(if zoj sp C (t - 1) then 0 else 1000)
theorem zqk {s:zBA} {a b:Int} (f:Nat):zc2 (zfv s a b) (f:Int)=some (zig a b f):=by
 unfold zc2 zig
 by_cases h:f=0
 ·rw [if_pos h]; exact zaR (zmR (by omega)) rfl
 ·rw [if_neg h]; exact zaK (zmS (by omega)) rfl
theorem zrn {a b:Int} (ha:0≤a∧a≤1000000) (hb:0≤b∧b≤1000000) (f:Nat):0≤zig a b f∧zig a b f≤1000000:=by unfold zig; split <;> omega
section
variable {s:zBA} {a b:Int} (hs:s.size≤100000) (ha:0≤a∧a≤1000000) (hb:0≤b∧b≤1000000)
include hs
theorem zlD:(zaD s).length≤100000:=Nat.le_trans (zi4 s) hs
theorem zrO (k:Nat):0≤ze6 ((zaD s).take k)∧ze6 ((zaD s).take k)≤200000:=by
 have hm:=(zfW s).mem
 have hl:=zlD hs
 have:=zi3 (l:=(zaD s).take k) fun c hc=>by have:=hm c (List.mem_of_mem_take hc); omega
 have hk:((zaD s).take k).length≤(zaD s).length:=by rw [List.length_take]; omega
 omega
theorem zk0 (f t:Nat) (hf:f≤t) (ht:t≤(zaD s).length):zcA (zfv s a b) (f:Int) (t:Int)=some (znX (spB s) (zaD s) f t):=by
 unfold zcA
 have he:=zxO (spB s) ((zaD s).take t)
 rw [List.length_take] at he
 have h1:=zrO hs (max f (eN (spB s) ((zaD s).take t)))
 have h2:=zrO hs f
 refine za7 (zeD (zue (spB s) (zaD s) t ht)) (za7 (zfy (n:=max f (eN (spB s) ((zaD s).take t))) (by omega) (zsU _ _ (by omega))) (za7 (zeD (zsU _ f (by omega))) (zcm ⟨by omega,by omega⟩ rfl)))
theorem zri (k:Nat) (hk:k<(zaD s).length):zcC (zfv s a b) (k:Int)=some (zoj (spB s) (zaD s) k):=by
 have hx:(zaD s)[k]?=some (zaD s)[k]:=List.getElem?_eq_getElem hk
 have:=(zfW s).mem _ (List.mem_of_getElem? hx)
 unfold zoj
 rw [hx]
 exact zs8 (zfv s a b) k _ hx (by omega) (by show _<(s.size:Int); omega) hs
theorem zwj (f t:Nat) (hf:f<t) (ht:t≤(zaD s).length):zd4 (zfv s a b) (f:Int) (t:Int)=some (zqj (spB s) (zaD s) a b f t):=by
 unfold zd4 zqj
 have hle:=zlD hs
 have tail:(zan (zcA (zfv s a b) (f:Int) (t:Int)) fun (r2:Int)=>zan (zc2 (zfv s a b) (f:Int)) fun (r3:Int)=>zaB (decide ((r2:Int)≤r3)) (some true) (zan (zdf (zfv s a b).ends (t:Int)) fun (q1:Int)=>grd (I64 ((f:Int)+1))<|some (decide ((q1:Int)≤((f:Int)+1))))) =
   some (decide (znX (spB s) (zaD s) f t≤zig a b f)||decide (eN (spB s) ((zaD s).take t)≤f+1)):=by
  refine za7 (zk0 hs f t (by omega) ht) (za7 (zqk f) ?_)
  by_cases h:znX (spB s) (zaD s) f t≤zig a b f
  ·rw [decide_eq_true h]; exact zaR rfl rfl
  ·rw [decide_eq_false h]
   refine zaK rfl (za7 (zeD (zue (spB s) (zaD s) t ht)) (zcm ⟨by omega,by omega⟩ ?_))
   rw [Bool.false_or]
   congr 1
   by_cases h2:eN (spB s) ((zaD s).take t)≤f+1
   ·rw [decide_eq_true h2,decide_eq_true (by omega)]
   ·rw [decide_eq_false h2,decide_eq_false (by omega)]
 refine zcj ?_
 by_cases h0:0<f
 ·rw [decide_eq_true h0]
  refine zaR (decide_eq_true (by omega)) (za7 (zri hs f (by omega)) ?_)
  cases zoj (spB s) (zaD s) f with
  | true=>exact zaR rfl rfl
  | false=>exact zaK rfl tail
 ·rw [decide_eq_false h0]
  exact zaK (decide_eq_false (by omega)) tail
theorem zrR (f t:Nat) : -200000≤znX (spB s) (zaD s) f t∧znX (spB s) (zaD s) f t≤200000:=by
 have h1:=zrO hs (max f (eN (spB s) ((zaD s).take t)))
 have h2:=zrO hs f
 unfold znX; omega
include ha hb
theorem zhe (f t:Nat):0≤zqQ (spB s) (zaD s) a b f t∧zqQ (spB s) (zaD s) a b f t≤2000000000000:=by
 have h1:=zrn ha hb f
 have h2:=zrR hs f t
 have hz:zig a b f - znX (spB s) (zaD s) f t≤1200000:=by omega
 have hq:(if zoj (spB s) (zaD s) (t - 1) then (0:Int) else 1000)≤1000∧0≤(if zoj (spB s) (zaD s) (t - 1) then (0:Int) else 1000):=by split <;> omega
 unfold zqQ
 generalize zig a b f - znX (spB s) (zaD s) f t=z at *
 by_cases h:0<z
 ·rw [if_pos h]
  have g1:0≤z*z:=Int.mul_nonneg (by omega) (by omega)
  have g2:z*z≤1200000*1200000:=Int.mul_le_mul hz hz (by omega) (by omega)
  omega
 ·rw [if_neg h]; omega
theorem zuo (f t:Nat) (hf:f<t) (ht:t≤(zaD s).length):zdG (zfv s a b) (f:Int) (t:Int)=some (zqQ (spB s) (zaD s) a b f t):=by
 have h1:=zrn ha hb f
 have h2:=zrR hs f t
 have h3:=zhe hs ha hb f t
 have hle:=zlD hs
 unfold zdG
 refine zcj (za7 (zqk f) (za7 (zk0 hs f t (by omega) ht) (zcm ⟨by omega,by omega⟩ ?_)))
 have tail:∀ n:Int,0≤n→n≤2000000000000→zbE (fun (j2:Int→Option Int)=>grd (I64 ((t:Int) - 1))<|zan (zcC (zfv s a b) ((t:Int) - 1)) fun (r3:Bool)=>zaB (!r3) (grd (I64 (n+1000))<|j2 (n+1000)) (j2 n)) (fun (n2:Int)=>some n2)=some (n+(if zoj (spB s) (zaD s) (t - 1) then 0 else 1000)):=by
  intro n hn1 hn2
  have hsp:=zri (a:=a) (b:=b) hs (t - 1) (by omega)
  rw [show (((t - 1:Nat)):Int)=(t:Int) - 1 by omega] at hsp
  refine zcj (zcm ⟨by omega,by omega⟩ (za7 hsp ?_))
  cases zoj (spB s) (zaD s) (t - 1) with
  | true=>exact zaK rfl (congrArg some (Int.add_zero n).symm)
  | false=>exact zaR rfl (zcm ⟨by omega,by omega⟩ rfl)
 unfold zqQ at h3 ⊢
 have hq:(if zoj (spB s) (zaD s) (t - 1) then (0:Int) else 1000)≤1000∧0≤(if zoj (spB s) (zaD s) (t - 1) then (0:Int) else 1000):=by split <;> omega
 by_cases h:0<zig a b f - znX (spB s) (zaD s) f t
 ·rw [if_pos h] at h3 ⊢
  have hm:0≤(zig a b f - znX (spB s) (zaD s) f t)*(zig a b f - znX (spB s) (zaD s) f t):=Int.mul_nonneg (by omega) (by omega)
  refine zaR (decide_eq_true h) (zcm ⟨by omega,by omega⟩ (tail _ hm (by omega)))
 ·rw [if_neg h]
  exact zaK (decide_eq_false h) (tail 0 (by omega) (by omega))
end
abbrev Bst:=zaw
def b0:Bst:=⟨0,0,0⟩
def bm:Bst:=⟨0,-1,0⟩
section
variable (R:Nat→Nat→Bool) (K:Nat→Nat→Int) (n:Nat)
def zhP (T:Nat→Bst) (f t:Nat):Option Bst :=
 if R f t then (if t<n then (if (T t).rows<0 then none else some ⟨K f t+(T t).cost,(T t).rows+1,(t:Int)⟩) else some ⟨0,1,(t:Int)⟩) else none
def zsb (x:Bst):Option Bst→Bst
 | none=>x
 | some y=>if x.rows<0∨y.cost<x.cost∨(y.cost=x.cost∧y.rows≤x.rows) then y else x
def zf0 (T:Nat→Bst) (f:Nat):Nat→Nat→Bst→Bst
 | 0,_,x=>x
 | d+1,t,x=>zf0 T f d (t+1) (zsb x (zhP R K n T f t))
def Bf:Nat→Nat→Bst
 | 0,_=>b0
 | k+1,f=>if f+(k+1)=n then zf0 R K n (Bf k) f (n - f) (f+1) bm else Bf k f
end
section
variable {R:Nat→Nat→Bool} {K:Nat→Nat→Int} {n:Nat}
theorem zkM {T:Nat→Bst} {f:Nat}:∀ (d t:Nat) (x:Bst),(∀ t',t≤t'→t'<t+d→zhP R K n T f t'=none)→zf0 R K n T f d t x=x
 | 0,t,x,_=>rfl
 | d+1,t,x,h=>by
  unfold zf0
  rw [h t (Nat.le_refl _) (by omega)]
  exact zkM d (t+1) x fun t' h1 h2=>h t' (by omega) (by omega)
theorem zil (x y:Bst):zsb x (some y)=if x.rows<0∨y.cost<x.cost∨(y.cost=x.cost∧y.rows≤x.rows) then y else x:=rfl
theorem zwR (x:Bst) (c:Option Bst):zsb x c=x∨c=some (zsb x c):=by
 cases c with
 | none=>exact .inl rfl
 | some y =>
  rw [zil]
  split
  ·exact .inr rfl
  ·exact .inl rfl
theorem zmE {T:Nat→Bst} {f:Nat}:∀ (d t:Nat) (x:Bst),zf0 R K n T f d t x=x∨∃ t',t≤t'∧t'<t+d∧zhP R K n T f t'=some (zf0 R K n T f d t x)
 | 0,t,x=>.inl rfl
 | d+1,t,x=>by
  unfold zf0
  rcases zmE (T:=T) (f:=f) d (t+1) (zsb x (zhP R K n T f t)) with h | ⟨t',h1,h2,h3⟩
  ·rw [h]
   rcases zwR x (zhP R K n T f t) with h' | h'
   ·exact .inl h'
   ·exact .inr ⟨t,Nat.le_refl _,by omega,h'⟩
  ·exact .inr ⟨t',by omega,by omega,h3⟩
def le1 (x y:Bst):Prop:=0≤x.rows∧x.cost≤y.cost
theorem zwS {x y:Bst} (h:0≤x.rows) {c:Option Bst} (hc:∀ y,c=some y→0≤y.rows):le1 (zsb x c) x:=by
 cases c with
 | none=>exact ⟨h,Int.le_refl _⟩
 | some y =>
  have hy:=hc y rfl
  rw [zil]
  split
  ·exact ⟨hy,by omega⟩
  ·exact ⟨h,Int.le_refl _⟩
theorem zuW {x y:Bst} (hy:0≤y.rows):le1 (zsb x (some y)) y:=by
 rw [zil]
 split
 ·exact ⟨hy,Int.le_refl _⟩
 ·exact ⟨by omega,by omega⟩
theorem zoy {T:Nat→Bst} {f:Nat} (hT:∀ t y,zhP R K n T f t=some y→0≤y.rows):∀ (d t:Nat) (x:Bst),(0≤x.rows→le1 (zf0 R K n T f d t x) x)∧∀ t' y,t≤t'→t'<t+d→zhP R K n T f t'=some y→le1 (zf0 R K n T f d t x) y
 | 0,t,x=>⟨fun h=>⟨h,Int.le_refl _⟩,fun t' y h1 h2=>by omega⟩
 | d+1,t,x=>by
  have ih:=zoy hT d (t+1) (zsb x (zhP R K n T f t))
  unfold zf0
  refine ⟨fun h => ?_,fun t' y h1 h2 hc => ?_⟩
  ·have h1:=zwS (y:=x) h (hT t)
   have h2:=ih.1 h1.1
   exact ⟨h2.1,Int.le_trans h2.2 h1.2⟩
  ·by_cases e:t'=t
   ·subst e
    have hy:=hT t' y hc
    have h1:le1 (zsb x (zhP R K n T f t')) y:=by rw [hc]; exact zuW hy
    have h2:=ih.1 h1.1
    exact ⟨h2.1,Int.le_trans h2.2 h1.2⟩
   ·exact ih.2 t' y (by omega) (by omega) hc
theorem zhB (k f:Nat):Bf R K n (k+1) f=if f+(k+1)=n then zf0 R K n (Bf R K n k) f (n - f) (f+1) bm else Bf R K n k f:=rfl
theorem zx4:∀ (k f:Nat),f+k<n→Bf R K n k f=b0
 | 0,f,_=>rfl
 | k+1,f,h=>by rw [zhB,if_neg (by omega)]; exact zx4 k f (by omega)
theorem zoS:∀ (k j f:Nat),n≤f+k→Bf R K n (k+j) f=Bf R K n k f
 | k,0,f,_=>rfl
 | k,j+1,f,h=>by
  rw [show k+(j+1)=(k+j)+1 by omega,zhB,if_neg (by omega)]
  exact zoS k j f h
def BB (R:Nat→Nat→Bool) (K:Nat→Nat→Int) (n:Nat):Nat→Bst:=Bf R K n n
theorem zsH {T T':Nat→Bst} {f t:Nat} (h:T t=T' t):zhP R K n T f t=zhP R K n T' f t:=by unfold zhP; rw [h]
theorem zmF {T T':Nat→Bst} {f:Nat}:∀ (d t:Nat) (x:Bst),(∀ t',t≤t'→t'<t+d→T t'=T' t')→zf0 R K n T f d t x=zf0 R K n T' f d t x
 | 0,t,x,_=>rfl
 | d+1,t,x,h=>by
  unfold zf0
  rw [zsH (h t (Nat.le_refl _) (by omega))]
  exact zmF d (t+1) _ fun t' h1 h2=>h t' (by omega) (by omega)
theorem zA8:BB R K n n=b0:=by
 unfold BB
 cases n with
 | zero=>rfl
 | succ m=>rw [zhB,if_neg (by omega)]; have:=zoS (R:=R) (K:=K) (n:=m+1) 0 m (m+1) (by omega); rw [Nat.zero_add] at this; exact this
theorem zzO {f:Nat} (h:f<n):BB R K n f=zf0 R K n (BB R K n) f (n - f) (f+1) bm:=by
 have h1:Bf R K n n f=Bf R K n (n - f) f:=by
  have:=zoS (R:=R) (K:=K) (n:=n) (n - f) f f (by omega)
  rwa [show n - f+f=n by omega] at this
 unfold BB
 rw [h1]
 obtain ⟨k,hk⟩:∃ k,n - f=k+1:=⟨n - f - 1,by omega⟩
 rw [hk]
 rw [zhB,if_pos (by omega),hk]
 refine zmF _ _ _ fun t' h1 h2 => ?_
 have:=zoS (R:=R) (K:=K) (n:=n) k (n - k) t' (by omega)
 rw [show k+(n - k)=n by omega] at this
 exact this.symm
def okB (k:Nat) (x:Bst):Prop:=0≤x.cost∧x.cost≤2000000000000*k∧-1≤x.rows∧x.rows≤k
theorem zjB {T:Nat→Bst} {f t k:Nat} {y:Bst} (hK:∀ f t,0≤K f t∧K f t≤2000000000000) (hT:∀ t,okB k (T t)) (h:zhP R K n T f t=some y):okB (k+1) y∧0≤y.rows:=by
 unfold zhP at h
 have h1:=hK f t
 obtain ⟨t1,t2,t3,t4⟩:=hT t
 split at h
 ·split at h
  ·split at h
   ·cases h
   ·cases h
    refine ⟨⟨?_,?_,?_,?_⟩,?_⟩ <;> (try simp only) <;> (try push_cast) <;> (try omega)
  ·cases h
   refine ⟨⟨?_,?_,?_,?_⟩,?_⟩ <;> (try simp only) <;> (try push_cast) <;> (try omega)
 ·cases h
theorem ztH (k:Nat):okB k bm:=⟨Int.le_refl _,by show (0:Int)≤_; omega,Int.le_refl _,by show (-1:Int)≤_; omega⟩
theorem zve {k j:Nat} {x:Bst} (h:okB k x) (hj:k≤j):okB j x:=by obtain ⟨h1,h2,h3,h4⟩:=h; exact ⟨h1,by omega,h3,by omega⟩
theorem zvt {T:Nat→Bst} {f k:Nat} (hK:∀ f t,0≤K f t∧K f t≤2000000000000) (hT:∀ t,okB k (T t)) (d t:Nat) {x:Bst} (hx:okB (k+1) x):okB (k+1) (zf0 R K n T f d t x):=by
 rcases zmE (R:=R) (K:=K) (n:=n) (T:=T) (f:=f) d t x with h | ⟨t',_,_,h⟩
 ·rw [h]; exact hx
 ·exact (zjB hK hT h).1
theorem zp2 (hK:∀ f t,0≤K f t∧K f t≤2000000000000):∀ (k f:Nat),okB k (Bf R K n k f)
 | 0,f=>by show okB 0 b0; unfold okB b0; simp
 | k+1,f=>by
  rw [zhB]
  split
  ·exact zvt hK (zp2 hK k) _ _ (ztH _)
  ·exact zve (zp2 hK k f) (by omega)
theorem zx6 (hK:∀ f t,0≤K f t∧K f t≤2000000000000) {f t:Nat} {y:Bst} (h:zhP R K n (BB R K n) f t=some y):0≤y.rows:=(zjB hK (zp2 hK n) h).2
theorem zzN (hK:∀ f t,0≤K f t∧K f t≤2000000000000) {f:Nat} (hf:f<n) (hr:0≤(BB R K n f).rows):∃ t:Nat,(BB R K n f).to_=(t:Int)∧f<t∧t≤n∧R f t=true∧(t<n→0≤(BB R K n t).rows∧(BB R K n f).cost=K f t+(BB R K n t).cost)∧(t=n→(BB R K n f).cost=0):=by
 have he:=zzO (R:=R) (K:=K) hf
 rcases zmE (R:=R) (K:=K) (n:=n) (T:=BB R K n) (f:=f) (n - f) (f+1) bm with h | ⟨t,h1,h2,h3⟩
 ·rw [← he] at h; rw [h] at hr; exact absurd hr (by decide)
 ·rw [← he] at h3
  generalize BB R K n f=x at h3 hr ⊢
  refine ⟨t,?_⟩
  unfold zhP at h3
  by_cases hR:R f t=true
  ·rw [if_pos hR] at h3
   by_cases ht:t<n
   ·rw [if_pos ht] at h3
    by_cases hn:(BB R K n t).rows<0
    ·rw [if_pos hn] at h3; cases h3
    ·rw [if_neg hn] at h3
     cases h3
     exact ⟨rfl,by omega,by omega,hR,fun _=>⟨by omega,rfl⟩,fun h=>by omega⟩
   ·rw [if_neg ht] at h3
    cases h3
    exact ⟨rfl,by omega,by omega,hR,fun h=>absurd h ht,fun _=>rfl⟩
  ·rw [if_neg hR] at h3; cases h3
theorem zwJ (hK:∀ f t,0≤K f t∧K f t≤2000000000000) {f t:Nat} (hf:f<t) (ht:t≤n) (hR:R f t=true):(t=n→0≤(BB R K n f).rows∧(BB R K n f).cost≤0)∧(t<n→0≤(BB R K n t).rows→0≤(BB R K n f).rows∧(BB R K n f).cost≤K f t+(BB R K n t).cost):=by
 have he:=zzO (R:=R) (K:=K) (show f<n by omega)
 have hl:=(zoy (R:=R) (K:=K) (n:=n) (T:=BB R K n) (f:=f) (fun t y h=>zx6 hK h) (n - f) (f+1) bm).2
 rw [← he] at hl
 refine ⟨fun e => ?_,fun h hr => ?_⟩
 ·have hc:zhP R K n (BB R K n) f t=some ⟨0,1,(t:Int)⟩:=by unfold zhP; rw [if_pos hR,if_neg (by omega)]
  exact hl t _ (by omega) (by omega) hc
 ·have hc:zhP R K n (BB R K n) f t=some ⟨K f t+(BB R K n t).cost,(BB R K n t).rows+1,(t:Int)⟩:=by unfold zhP; rw [if_pos hR,if_pos h,if_neg (by omega)]
  exact hl t _ (by omega) (by omega) hc
end
theorem zy7 {R T:Type} {t:T→Option R} {k:T} {x:Option R} (Q:T→Prop) (hk:Q k) (h:∀ j,Q j→t j=x):zbE t k=x:=h k hk
section
variable {s:zBA} {a b:Int} (hs:s.size≤100000) (ha:0≤a∧a≤1000000) (hb:0≤b∧b≤1000000)
abbrev Rs (s:zBA) (a b:Int):Nat→Nat→Bool:=zqj (spB s) (zaD s) a b
abbrev Ks (s:zBA) (a b:Int):Nat→Nat→Int:=zqQ (spB s) (zaD s) a b
def zg1 (T:Nat→Bst) (n:Nat):List Bst:=(List.range (n+1)).map T
theorem zfI (T:Nat→Bst) (n k:Nat) (h:k≤n):(zg1 T n)[k]?=some (T k):=by unfold zg1; rw [List.getElem?_map,List.getElem?_range (by omega)]; rfl
theorem zhR (T:Nat→Bst) (n:Nat):(zg1 T n).length=n+1:=by unfold zg1; simp
theorem zur (sp:zge→Bool) (C:List zge) (hC:∀ c∈C,0≤c.Columns∧c.Columns≤2) (f t d:Nat):znX sp C f t≤znX sp C f (t+d):=by
 have he:=zqK sp C d t
 unfold znX
 have key:∀ i j:Nat,i≤j→ze6 (C.take i)≤ze6 (C.take j):=by
  intro i j h
  have:C.take j=C.take i++(C.take j).drop i:=by
   have:=(List.take_append_drop i (C.take j)).symm
   rwa [List.take_take,show min i j=i by omega] at this
  rw [this,znW]
  have:=zi3 (l:=(C.take j).drop i) fun c hc=>hC c (List.mem_of_mem_take (List.mem_of_mem_drop hc))
  omega
 have:=key (max f (eN sp (C.take t))) (max f (eN sp (C.take (t+d)))) (by omega)
 omega
theorem zw6 (sp:zge→Bool) (C:List zge) (hC:∀ c∈C,0≤c.Columns∧c.Columns≤2) {f t:Nat} (h:zqj sp C a b f t=false) (h2:zig a b f<znX sp C f t) (d:Nat):zqj sp C a b f (t+d)=false:=by
 have hm:=zur sp C hC f t d
 have he:=zqK sp C d t
 unfold zqj at h ⊢
 cases h0:(decide (0<f)&&zoj sp C f) with
 | true=>rfl
 | false =>
  rw [h0] at h
  simp only [Bool.not_false,Bool.true_and,Bool.or_eq_false_iff,decide_eq_false_iff_not] at h ⊢
  omega
include hs ha hb
theorem zw4 (k f:Nat) (hf:f<(zaD s).length) (hk:k≤100000) (j2:List Bst→Option ((List Int)×Int)) :
  ∀ (d t m:Nat) (x:Bst),f<t→t+d=(zaD s).length+1→d<m→okB (k+1) x→za1 (fun _ _=>none) (zco (zfv s a b) (f:Int) j2) m ((zg1 (Bf (Rs s a b) (Ks s a b) (zaD s).length k) (zaD s).length).set f x) (t:Int) =
   j2 ((zg1 (Bf (Rs s a b) (Ks s a b) (zaD s).length k) (zaD s).length).set f (zf0 (Rs s a b) (Ks s a b) (zaD s).length (Bf (Rs s a b) (Ks s a b) (zaD s).length k) f d t x)):=by
 have hle:=zlD hs
 have hK:=zhe hs ha hb
 have hcol:∀ c∈zaD s,0≤c.Columns∧c.Columns≤2:=fun c hc=>by have:=(zfW s).mem c hc; omega
 have hok:=zp2 (R:=Rs s a b) (K:=Ks s a b) (n:=(zaD s).length) hK k
 intro d
 induction d with
 | zero =>
  intro t m x hft htd hm hx
  obtain ⟨m,rfl⟩:∃ q,m=q+1:=⟨m - 1,by omega⟩
  rw [zen]
  generalize za1 (fun _ _=>none) (zco (zfv s a b) (f:Int) j2) m=ag
  unfold zco
  exact zaK (decide_eq_false (by show ¬ ((t:Int)≤((zaD s).length:Int)); omega)) rfl
 | succ d ih =>
  intro t m x hft htd hm hx
  obtain ⟨m,rfl⟩:∃ q,m=q+1:=⟨m - 1,by omega⟩
  have ih':=fun y hy=>ih (t+1) m y (by omega) (by omega) (by omega) hy
  rw [zen]
  generalize za1 (fun _ _=>none) (zco (zfv s a b) (f:Int) j2) m=ag at ih' ⊢
  have hn1:((t+1:Nat):Int)=(t:Int)+1:=by omega
  rw [hn1] at ih'
  unfold zco
  have htl:=zhR (Bf (Rs s a b) (Ks s a b) (zaD s).length k) (zaD s).length
  have hgt:∀ y:Bst,zdf ((zg1 (Bf (Rs s a b) (Ks s a b) (zaD s).length k) (zaD s).length).set f y) (t:Int)=some (Bf (Rs s a b) (Ks s a b) (zaD s).length k t):=fun y=>zeD (by rw [List.getElem?_set_ne (by omega)]; exact zfI _ _ _ (by omega))
  have hgf:∀ y:Bst,zdf ((zg1 (Bf (Rs s a b) (Ks s a b) (zaD s).length k) (zaD s).length).set f y) (f:Int)=some y:=fun y=>zeD (by rw [List.getElem?_set_self (by omega)])
  have hnext:∀ y,okB (k+1) y→(grd (I64 ((t:Int)+1))<|ag ((zg1 (Bf (Rs s a b) (Ks s a b) (zaD s).length k) (zaD s).length).set f y) ((t:Int)+1))=j2 ((zg1 (Bf (Rs s a b) (Ks s a b) (zaD s).length k) (zaD s).length).set f (zf0 (Rs s a b) (Ks s a b) (zaD s).length (Bf (Rs s a b) (Ks s a b) (zaD s).length k) f d (t+1) y)):=fun y hy=>zcm ⟨by omega,by omega⟩ (ih' y hy)
  refine zaR (decide_eq_true (by show (t:Int)≤((zaD s).length:Int); omega)) (zcj (za7 (zwj hs f t hft (by omega)) ?_))
  unfold zf0
  cases hR:zqj (spB s) (zaD s) a b f t with
  | false =>
   have hc:zhP (Rs s a b) (Ks s a b) (zaD s).length (Bf (Rs s a b) (Ks s a b) (zaD s).length k) f t=none:=by unfold zhP; rw [if_neg (by show ¬ (zqj (spB s) (zaD s) a b f t=true); rw [hR]; decide)]
   rw [hc]
   refine zaR rfl (za7 (zk0 hs f t (by omega) (by omega)) (za7 (zqk f) ?_))
   by_cases hw:zig a b f<znX (spB s) (zaD s) f t
   ·refine zaR (decide_eq_true hw) ?_
    rw [zkM d (t+1) (zsb x none) (fun t' h1 h2=>by
     have:=zw6 (a:=a) (b:=b) (spB s) (zaD s) hcol hR hw (t' - t)
     rw [show t+(t' - t)=t' by omega] at this
     unfold zhP; rw [if_neg (by show ¬ (zqj (spB s) (zaD s) a b f t'=true); rw [this]; decide)])]
    rfl
   ·exact zaK (decide_eq_false hw) (hnext x hx)
  | true =>
   refine zaK rfl (zy7 (fun j4=>∀ y:Bst,okB (k+1) y→y.to_=(t:Int)→j4 y.cost y.rows=j2 ((zg1 (Bf (Rs s a b) (Ks s a b) (zaD s).length k) (zaD s).length).set f (zf0 (Rs s a b) (Ks s a b) (zaD s).length (Bf (Rs s a b) (Ks s a b) (zaD s).length k) f d (t+1) (zsb x (some y))))) ?_ ?_)
   ·intro y hy hto
    have ey:(⟨y.cost,y.rows,(t:Int)⟩:zaw)=y:=by rw [← hto]
    have hput:(grd (I64 ((t:Int)+1))<|ag (((zg1 (Bf (Rs s a b) (Ks s a b) (zaD s).length k) (zaD s).length).set f x).set (f:Int).toNat (⟨y.cost,y.rows,(t:Int)⟩:zaw)) ((t:Int)+1))=j2 ((zg1 (Bf (Rs s a b) (Ks s a b) (zaD s).length k) (zaD s).length).set f (zf0 (Rs s a b) (Ks s a b) (zaD s).length (Bf (Rs s a b) (Ks s a b) (zaD s).length k) f d (t+1) y)):=by
     rw [ey,Int.toNat_natCast,List.set_set]; exact hnext y hy
    have hkeep:=hnext x hx
    refine za7 (hgf x) ?_
    rw [zil]
    by_cases h1:x.rows<0
    ·rw [if_pos (.inl h1)]; exact zaR (decide_eq_true h1) (za7 (hgf x) hput)
    refine zaK (decide_eq_false h1) ?_
    by_cases h2:y.cost<x.cost
    ·rw [if_pos (.inr (.inl h2))]; exact zaR (decide_eq_true h2) (za7 (hgf x) hput)
    refine zaK (decide_eq_false h2) ?_
    by_cases h3:y.cost=x.cost
    ·refine zaR (zmR h3) ?_
     by_cases h4:y.rows≤x.rows
     ·rw [if_pos (.inr (.inr ⟨h3,h4⟩))]; exact zaR (decide_eq_true h4) (za7 (hgf x) hput)
     ·rw [if_neg (by omega)]; exact zaK (decide_eq_false h4) hkeep
    ·rw [if_neg (by omega)]; exact zaK (zmS h3) hkeep
   intro j4 held
   by_cases ht:t<(zaD s).length
   ·refine zaR (decide_eq_true (by show (t:Int)<((zaD s).length:Int); omega)) (za7 (hgt x) ?_)
    obtain ⟨o1,o2,o3,o4⟩:=hok t
    have hk2:=hK f t
    by_cases hn:(Bf (Rs s a b) (Ks s a b) (zaD s).length k t).rows<0
    ·have hc:zhP (Rs s a b) (Ks s a b) (zaD s).length (Bf (Rs s a b) (Ks s a b) (zaD s).length k) f t=none:=by unfold zhP; rw [if_pos hR,if_pos ht,if_pos hn]
     rw [hc]
     exact zaR (decide_eq_true hn) (hnext x hx)
    ·have hc:zhP (Rs s a b) (Ks s a b) (zaD s).length (Bf (Rs s a b) (Ks s a b) (zaD s).length k) f t=some ⟨Ks s a b f t+(Bf (Rs s a b) (Ks s a b) (zaD s).length k t).cost,(Bf (Rs s a b) (Ks s a b) (zaD s).length k t).rows+1,(t:Int)⟩:=by unfold zhP; rw [if_pos hR,if_pos ht,if_neg hn]
     have hyok:=(zjB hK hok hc).1
     rw [hc]
     refine zaK (decide_eq_false hn) (za7 (zuo hs ha hb f t hft (by omega)) (za7 (hgt x) (zcm ⟨by omega,by omega⟩ (zcm ⟨by omega,by omega⟩ ?_))))
     exact held _ hyok rfl
   ·have hc:zhP (Rs s a b) (Ks s a b) (zaD s).length (Bf (Rs s a b) (Ks s a b) (zaD s).length k) f t=some ⟨0,1,(t:Int)⟩:=by unfold zhP; rw [if_pos hR,if_neg ht]
    have hyok:=(zjB hK hok hc).1
    rw [hc]
    refine zaK (decide_eq_false (by show ¬ ((t:Int)<((zaD s).length:Int)); omega)) ?_
    exact held _ hyok rfl
end
theorem ztI (sp:zge→Bool) (C:List zge):∀ (d f:Nat),f+d=C.length→f<C.length→∃ t,f<t∧t≤C.length∧(t=C.length∨zoj sp C t=false)∧∀ j,f<j→j<t→zoj sp C j=true
 | 0,f,h,hf=>by omega
 | d+1,f,h,hf=>by
  by_cases h1:f+1=C.length
  ·exact ⟨f+1,by omega,by omega,.inl h1,fun j a b=>by omega⟩
  ·cases h2:zoj sp C (f+1) with
   | false=>exact ⟨f+1,by omega,by omega,.inr h2,fun j a b=>by omega⟩
   | true =>
    obtain ⟨t,g1,g2,g3,g4⟩:=ztI sp C d (f+1) (by omega) (by omega)
    refine ⟨t,by omega,g2,g3,fun j a b => ?_⟩
    by_cases e:j=f+1
    ·rw [e]; exact h2
    ·exact g4 j (by omega) b
theorem zpA (sp:zge→Bool) (C:List zge) (f:Nat):∀ (i:Nat),f+1+i≤C.length→(∀ j,f<j→j<f+1+i→zoj sp C j=true)→eN sp (C.take (f+1+i))≤f+1
 | 0,h,_=>by have:=zxO sp (C.take (f+1)); rw [List.length_take] at this; show eN sp (C.take (f+1))≤_; omega
 | i+1,h,hsp=>by
  have hx:C[f+1+i]?=some C[f+1+i]:=List.getElem?_eq_getElem (by omega)
  have h1:=hsp (f+1+i) (by omega) (by omega)
  unfold zoj at h1
  rw [hx] at h1
  rw [show f+1+(i+1)=f+1+i+1 by omega,znA hx,zqJ,if_pos h1]
  exact zpA sp C f i (by omega) fun j a b=>hsp j a (by omega)
theorem zBe {sp:zge→Bool} {C:List zge} {a b:Int} {K:Nat→Nat→Int} (hK:∀ f t,0≤K f t∧K f t≤2000000000000):∀ (d f:Nat),C.length≤f+d→f<C.length→(f=0∨zoj sp C f=false)→0≤(BB (zqj sp C a b) K C.length f).rows
 | 0,f,h,hf,_=>by omega
 | d+1,f,h,hf,h0=>by
  obtain ⟨t,g1,g2,g3,g4⟩:=ztI sp C (C.length - f) f (by omega) hf
  have he:=zpA sp C f (t - (f+1)) (by omega) (fun j x y=>g4 j x (by omega))
  rw [show f+1+(t - (f+1))=t by omega] at he
  have hR:zqj sp C a b f t=true:=by
   unfold zqj
   have:(decide (0<f)&&zoj sp C f)=false:=by
    rcases h0 with h0 | h0
    ·subst h0; rfl
    ·rw [h0,Bool.and_false]
   rw [this,decide_eq_true he,Bool.or_true]; rfl
  have hm:=zwJ (R:=zqj sp C a b) (K:=K) (n:=C.length) hK g1 g2 hR
  by_cases e:t=C.length
  ·exact (hm.1 e).1
  ·have:=zBe (a:=a) (b:=b) hK d t (by omega) (by omega) (.inr (g3.resolve_left e))
   exact (hm.2 (by omega) this).1
section
variable {s:zBA} {a b:Int} (hs:s.size≤100000) (ha:0≤a∧a≤1000000) (hb:0≤b∧b≤1000000)
abbrev TT (s:zBA) (a b:Int):Nat→Bst:=BB (Rs s a b) (Ks s a b) (zaD s).length
def zqE (s:zBA) (a b:Int) (f:Nat):Prop:=f=(zaD s).length∨f<(zaD s).length∧0≤(TT s a b f).rows
def zjc (s:zBA) (a b:Int):Nat→Nat→List Nat
 | 0,_=>[]
 | m+1,f=>if f<(zaD s).length then (TT s a b f).to_.toNat::zjc s a b m (TT s a b f).to_.toNat else []
theorem zrc {T T':Nat→Bst} {n f:Nat} (hf:f≤n) (h1:∀ j,j≠f→T' j=T j):(zg1 T n).set f (T' f)=zg1 T' n:=by
 apply List.ext_getElem?
 intro j
 by_cases hj:j≤n
 ·rw [zfI T' n j hj]
  by_cases e:f=j
  ·subst e; rw [List.getElem?_set_self (by rw [zhR]; omega)]
  ·rw [List.getElem?_set_ne e,zfI T n j hj,h1 j (fun h=>e h.symm)]
 ·rw [List.getElem?_eq_none (by rw [List.length_set,zhR]; omega),List.getElem?_eq_none (by rw [zhR]; omega)]
include hs ha hb
theorem zu8 (j1:List Bst→Option ((List Int)×Int)):∀ (d k m:Nat),k+d=(zaD s).length→d<m→za1 (fun _ _=>none) (zcp (zfv s a b) j1) m (zg1 (Bf (Rs s a b) (Ks s a b) (zaD s).length k) (zaD s).length) (((zaD s).length:Int) - 1 - (k:Int)) =
  j1 (zg1 (TT s a b) (zaD s).length):=by
 have hle:=zlD hs
 intro d
 induction d with
 | zero =>
  intro k m hk hm
  obtain ⟨m,rfl⟩:∃ q,m=q+1:=⟨m - 1,by omega⟩
  rw [zen]
  generalize za1 (fun _ _=>none) (zcp (zfv s a b) j1) m=ag
  unfold zcp
  refine zaK (decide_eq_false (by omega)) ?_
  rw [show k=(zaD s).length by omega]; rfl
 | succ d ih =>
  intro k m hk hm
  obtain ⟨m,rfl⟩:∃ q,m=q+1:=⟨m - 1,by omega⟩
  have ih':=ih (k+1) m (by omega) (by omega)
  rw [zen]
  generalize za1 (fun _ _=>none) (zcp (zfv s a b) j1) m=ag at ih' ⊢
  obtain ⟨f,hf⟩:∃ f:Nat,f+(k+1)=(zaD s).length:=⟨d,by omega⟩
  rw [show ((zaD s).length:Int) - 1 - (k:Int)=(f:Int) by omega]
  rw [show ((zaD s).length:Int) - 1 - ((k+1:Nat):Int)=(f:Int) - 1 by omega] at ih'
  unfold zcp
  have hg:zdf (zg1 (Bf (Rs s a b) (Ks s a b) (zaD s).length k) (zaD s).length) (f:Int)=some b0:=by
   rw [zeD (zfI _ _ f (by omega)),zx4 k f (by omega)]
  refine zaR (decide_eq_true (by omega)) (zcj (za7 hg (zcm ⟨by omega,by omega⟩ ?_)))
  have hin:=zw4 hs ha hb k f (by omega) (by omega) (fun (all5:List zaw)=>grd (I64 ((f:Int) - 1))<|ag all5 ((f:Int) - 1)) ((zaD s).length - f) (f+1) zcD bm (by omega) (by omega) (by have:=zdI (n:=(zaD s).length) (by omega); omega) (ztH _)
  rw [show ((f+1:Nat):Int)=(f:Int)+1 by omega] at hin
  have et:(zg1 (Bf (Rs s a b) (Ks s a b) (zaD s).length k) (zaD s).length).set f (zf0 (Rs s a b) (Ks s a b) (zaD s).length (Bf (Rs s a b) (Ks s a b) (zaD s).length k) f ((zaD s).length - f) (f+1) bm)=zg1 (Bf (Rs s a b) (Ks s a b) (zaD s).length (k+1)) (zaD s).length:=by
   have e1:Bf (Rs s a b) (Ks s a b) (zaD s).length (k+1) f=zf0 (Rs s a b) (Ks s a b) (zaD s).length (Bf (Rs s a b) (Ks s a b) (zaD s).length k) f ((zaD s).length - f) (f+1) bm:=by rw [zhB,if_pos hf]
   rw [← e1]
   exact zrc (by omega) fun j hj=>by rw [zhB,if_neg (by omega)]
  rw [et] at hin
  refine hin.trans (zcm ⟨by omega,by omega⟩ ih')
theorem zoJ {f:Nat} (h:zqE s a b f) (hf:f<(zaD s).length):∃ t:Nat,(TT s a b f).to_=(t:Int)∧f<t∧t≤(zaD s).length∧Rs s a b f t=true∧zqE s a b t∧(t<(zaD s).length→(TT s a b f).cost=Ks s a b f t+(TT s a b t).cost)∧(t=(zaD s).length→(TT s a b f).cost=0):=by
 have hr:0≤(TT s a b f).rows:=by
  rcases h with h | h
  ·omega
  ·exact h.2
 obtain ⟨t,h1,h2,h3,h4,h5,h6⟩:=zzN (zhe hs ha hb) hf hr
 refine ⟨t,h1,h2,h3,h4,?_,fun h=>(h5 h).2,h6⟩
 by_cases e:t=(zaD s).length
 ·exact .inl e
 ·exact .inr ⟨by omega,(h5 (by omega)).1⟩
theorem zu9 (j5:List Int→Option ((List Int)×Int)):∀ (m f N:Nat) (out:List Int),zqE s a b f→(zaD s).length≤f+m→m<N→out.length≤f→f≤(zaD s).length→za1 (fun _ _=>none) (zcb (zfv s a b) (zg1 (TT s a b) (zaD s).length) j5) N out (f:Int)=j5 (out++(zjc s a b m f).map (fun t=>((t:Nat):Int))):=by
 have hle:=zlD hs
 intro m
 induction m with
 | zero =>
  intro f N out hfe hm hN ho hf
  obtain ⟨N,rfl⟩:∃ q,N=q+1:=⟨N - 1,by omega⟩
  rw [zen]
  generalize za1 (fun _ _=>none) (zcb (zfv s a b) (zg1 (TT s a b) (zaD s).length) j5) N=ag
  unfold zcb
  refine zaK (decide_eq_false (by show ¬ ((f:Int)<((zaD s).length:Int)); omega)) ?_
  show j5 out=j5 (out++[])
  rw [List.append_nil]
 | succ m ih =>
  intro f N out hfe hm hN ho hf
  obtain ⟨N,rfl⟩:∃ q,N=q+1:=⟨N - 1,by omega⟩
  rw [zen]
  have ih':=fun t out=>ih t N out
  generalize za1 (fun _ _=>none) (zcb (zfv s a b) (zg1 (TT s a b) (zaD s).length) j5) N=ag at ih' ⊢
  unfold zcb zjc
  by_cases h:f<(zaD s).length
  ·obtain ⟨t,h1,h2,h3,h4,h5,_⟩:=zoJ hs ha hb hfe h
   have hg:zdf (zg1 (TT s a b) (zaD s).length) (f:Int)=some (TT s a b f):=zeD (zfI _ _ f (by omega))
   rw [if_pos h,h1,Int.toNat_natCast]
   refine zaR (decide_eq_true (by show (f:Int)<((zaD s).length:Int); omega)) (za7 hg (zcm (by omega) (za7 hg ?_)))
   rw [h1]
   rw [ih' t (out++[(t:Int)]) h5 (by omega) (by omega) (by rw [List.length_append]; simp; omega) h3,List.append_assoc]; rfl
  ·rw [if_neg h]
   refine zaK (decide_eq_false (by show ¬ ((f:Int)<((zaD s).length:Int)); omega)) ?_
   show j5 out=j5 (out++[])
   rw [List.append_nil]
theorem zqF:zqE s a b 0:=by
 by_cases h:0<(zaD s).length
 ·exact .inr ⟨h,zBe (zhe hs ha hb) (zaD s).length 0 (by omega) h (.inl rfl)⟩
 ·exact .inl (by omega)
abbrev zlC (s:zBA) (a b:Int):List Nat:=zjc s a b (zaD s).length 0
theorem zw5:zem (zfv s a b)=some ((zlC s a b).map (fun t=>((t:Nat):Int)),(TT s a b 0).cost):=by
 have hle:=zlD hs
 unfold zem
 refine zcj (zcm ⟨by show _≤((zaD s).length:Int)+1; omega,by show ((zaD s).length:Int)+1≤_; omega⟩ (zcm ⟨by show _≤((zaD s).length:Int)+1; omega,by show ((zaD s).length:Int)+1≤_; omega⟩ (zcm ⟨by show _≤((zaD s).length:Int) - 1; omega,by show ((zaD s).length:Int) - 1≤_; omega⟩ ?_)))
 have e0:List.replicate (((zfv s a b).cells.length:Int)+1:Int).toNat (⟨0,0,0⟩:zaw)=zg1 (Bf (Rs s a b) (Ks s a b) (zaD s).length 0) (zaD s).length:=by
  show List.replicate (((zaD s).length:Int)+1:Int).toNat b0=_
  rw [show (((zaD s).length:Int)+1:Int).toNat=(zaD s).length+1 by omega]
  apply List.ext_getElem?
  intro j
  by_cases hj:j≤(zaD s).length
  ·rw [zfI _ _ j hj,List.getElem?_replicate,if_pos (by omega)]; rfl
  ·rw [List.getElem?_eq_none (by rw [List.length_replicate]; omega),List.getElem?_eq_none (by rw [zhR]; omega)]
 rw [e0]
 have ho:=zu8 hs ha hb (fun (all1:List zaw)=>zbE (fun (j5:(List Int)→Option ((List Int)×Int))=>za1 (fun _ _=>none) (zcb (zfv s a b) all1 j5) zcD ([]:List Int) 0) (fun (out1:List Int)=>zan (zdf all1 0) fun (q10:zaw)=>some (out1,q10.cost))) (zaD s).length 0 zcD (by omega) (by have:=zdI (n:=(zaD s).length) (by omega); omega)
 rw [show ((zaD s).length:Int) - 1 - ((0:Nat):Int)=((zaD s).length:Int) - 1 by omega] at ho
 refine ho.trans (zcj ?_)
 have he:=zu9 hs ha hb (fun (out1:List Int)=>zan (zdf (zg1 (TT s a b) (zaD s).length) 0) fun (q10:zaw)=>some (out1,q10.cost)) (zaD s).length 0 zcD [] (zqF hs ha hb) (by omega) (by have:=zdI (n:=(zaD s).length) (by omega); omega) (Nat.zero_le _) (Nat.zero_le _)
 rw [show ((0:Nat):Int)=0 from rfl,List.nil_append] at he
 refine he.trans (za7 (zfy (n:=0) rfl (zfI _ _ 0 (Nat.zero_le _))) rfl)
end
def stN (s:zBA) (k:Nat):Int:=match (zaD s)[k]? with | some c=>c.Span_From | none=>(s.size:Int)
theorem zrP:∀ (cs:List zge) (a b:Int),Cov a cs b→∀ (k:Nat) (c:zge),cs[k]?=some c→c.Span_To=(match cs[k+1]? with | some d=>d.Span_From | none=>b)
 | [],_,_,_,k,c,h=>by simp at h
 | d::cs,a,b,hc,k,c,h=>by
  obtain ⟨h1,h2,h3,h4⟩:=hc
  cases k with
  | zero =>
   have e:d=c:=by simpa using h
   subst e
   cases cs with
   | nil=>exact h4
   | cons e es=>exact h4.1.symm
  | succ k =>
   have:=zrP cs _ b h4 k c (by simpa using h)
   simpa using this
theorem zrf (s:zBA) {k:Nat} {c:zge} (h:(zaD s)[k]?=some c):stN s k=c.Span_From∧stN s (k+1)=c.Span_To∧0≤c.Span_From∧c.Span_From<c.Span_To∧c.Span_To≤(s.size:Int):=by
 have hm:=(zfW s).mem c (List.mem_of_getElem? h)
 refine ⟨by unfold stN; rw [h],?_,hm.1,hm.2.1,hm.2.2.1⟩
 have:=zrP _ _ _ (zfW s) k c h
 unfold stN; exact this.symm
theorem zjf (s:zBA):∀ (d f:Nat),f+d≤(zaD s).length→stN s f+d≤stN s (f+d)
 | 0,f,h=>by show stN s f+(0:Int)≤stN s f; omega
 | d+1,f,h=>by
  have ih:=zjf s d f (by omega)
  have hx:(zaD s)[f+d]?=some (zaD s)[f+d]:=List.getElem?_eq_getElem (by omega)
  obtain ⟨h1,h2,h3,h4,h5⟩:=zrf s hx
  rw [show f+(d+1)=f+d+1 by omega,h2]
  rw [h1] at ih
  push_cast; omega
theorem zwY (s:zBA):stN s 0=0:=by
 have h:=zfW s
 unfold stN
 cases hc:zaD s with
 | nil=>rw [hc] at h; exact (show (0:Int)=_ from h).symm
 | cons c cs=>rw [hc] at h; exact h.1
theorem zuZ (s:zBA):stN s (zaD s).length=(s.size:Int):=by
 unfold stN; rw [List.getElem?_eq_none (Nat.le_refl _)]
theorem zl9 (s:zBA) {k:Nat} (h:k≤(zaD s).length):0≤stN s k∧stN s k≤(s.size:Int):=by
 have h1:=zjf s k 0 (by omega)
 have h2:=zjf s ((zaD s).length - k) k (by omega)
 rw [Nat.zero_add,zwY] at h1
 rw [show k+((zaD s).length - k)=(zaD s).length by omega,zuZ] at h2
 omega
def zm9 (s:zBA) (f t:Nat):zBA:=zdR s (stN s f) (stN s t)
theorem zwX {s:zBA} {a b:Int} (hs:s.size≤100000) (f t:Nat) (hf:f<t) (ht:t≤(zaD s).length):zel (zfv s a b) (f:Int) (t:Int)=some (zm9 s f t):=by
 have hle:=zlD hs
 unfold zel zm9
 have hx:(zaD s)[f]?=some (zaD s)[f]:=List.getElem?_eq_getElem (by omega)
 have hy:(zaD s)[t - 1]?=some (zaD s)[t - 1]:=List.getElem?_eq_getElem (by omega)
 obtain ⟨h1,h2,h3,h4,h5⟩:=zrf s hx
 obtain ⟨g1,g2,g3,g4,g5⟩:=zrf s hy
 rw [show t - 1+1=t by omega] at g2
 have hl:=zjf s (t - f) f (by omega)
 rw [show f+(t - f)=t by omega] at hl
 refine za7 (zeD hx) (zcm ⟨by omega,by omega⟩ (za7 (zfy (n:=t - 1) (by omega) hy) (zcm ?_ ?_)))
 ·show 0≤(zaD s)[f].Span_From∧(zaD s)[f].Span_From≤(zaD s)[t - 1].Span_To∧(zaD s)[t - 1].Span_To≤(s.size:Int)
  rw [← h1,← g2]; omega
 ·show some (zdR s (zaD s)[f].Span_From (zaD s)[t - 1].Span_To)=_
  rw [h1,g2]
def zgg (s:zBA):Nat→List Nat→List zBA
 | _,[]=>[]
 | f,t::ts=>zm9 s f t::zgg s t ts
def zye (n:Nat):Nat→List Nat→Prop
 | _,[]=>True
 | f,t::ts=>f<t∧t≤n∧zye n t ts
section
variable {s:zBA} {a b:Int} (hs:s.size≤100000) (ha:0≤a∧a≤1000000) (hb:0≤b∧b≤1000000)
include hs ha hb
theorem ziP:∀ (m f:Nat),zqE s a b f→f≤(zaD s).length→zye (zaD s).length f (zjc s a b m f)
 | 0,f,_,_=>trivial
 | m+1,f,hfe,hf=>by
  unfold zjc
  split
  ·rename_i h
   obtain ⟨t,h1,h2,h3,h4,h5,_⟩:=zoJ hs ha hb hfe h
   rw [h1,Int.toNat_natCast]
   exact ⟨h2,h3,ziP m t h5 h3⟩
  ·trivial
end
theorem zsZ (s:zBA) (hs:s.size≤100000) (a b:Int) (c:Int) (j1:Int→List zBA→Option ((List zBA)×Int)) (E:List Nat):∀ (ts pre:List Nat) (f m:Nat) (out:List zBA),E=pre++ts→zye (zaD s).length f ts→ts.length<m→out.length≤pre.length→E.length≤100000 →
  za1 (fun _ _ _=>none) (zdY j1 (zfv s a b) (E.map (fun t=>((t:Nat):Int)),c)) m out (f:Int) (pre.length:Int)=j1 c (out++zgg s f ts)
 | [],pre,f,m,out,hE,_,hm,_,_=>by
  obtain ⟨m,rfl⟩:∃ q,m=q+1:=⟨m - 1,by simp at hm; omega⟩
  rw [zen]
  generalize za1 (fun _ _ _=>none) (zdY j1 (zfv s a b) (E.map (fun t=>((t:Nat):Int)),c)) m=ag
  unfold zdY
  refine zaK (decide_eq_false (by rw [List.length_map,hE]; simp)) ?_
  show j1 c out=j1 c (out++[])
  rw [List.append_nil]
 | t::ts,pre,f,m,out,hE,hr,hm,ho,hl=>by
  obtain ⟨m,rfl⟩:∃ q,m=q+1:=⟨m - 1,by simp at hm; omega⟩
  obtain ⟨r1,r2,r3⟩:=hr
  have ih:=zsZ s hs a b c j1 E ts (pre++[t]) t m (out++[zm9 s f t]) (by rw [hE]; simp) r3 (by simp at hm; omega) (by simp; omega) hl
  have hpl:pre.length<E.length:=by rw [hE]; simp
  rw [zen]
  generalize za1 (fun _ _ _=>none) (zdY j1 (zfv s a b) (E.map (fun t=>((t:Nat):Int)),c)) m=ag at ih ⊢
  have hg:(E.map (fun t=>((t:Nat):Int)))[pre.length]?=some (t:Int):=by rw [List.getElem?_map,hE]; simp
  rw [show (((pre++[t]).length:Nat):Int)=(pre.length:Int)+1 by simp] at ih
  unfold zdY
  refine zaR (zss hg) (za7 (zeD hg) (za7 (zwX hs f t r1 r2) (zcm (by omega) (zcm ⟨by omega,by omega⟩ ?_))))
  rw [ih,List.append_assoc]; rfl
theorem zlP {n:Nat}:∀ {ts:List Nat} {f:Nat},zye n f ts→f+ts.length≤max n f
 | [],f,_=>by simp; omega
 | t::ts,f,h=>by
  obtain ⟨h1,h2,h3⟩:=h
  have:=zlP h3
  rw [List.length_cons]; omega
theorem zvT (s:zBA) (hs:s.size≤100000) (ind:Int) (l:zaO) (h1:I64 (l.Width - ind)) (ha:0≤max 1 (l.Width - ind)∧max 1 (l.Width - ind)≤1000000) (hb:0≤l.Width - l.Turn∧l.Width - l.Turn≤1000000) :
  zfR s ind l=some (zgg s 0 (zlC s (max 1 (l.Width - ind)) (l.Width - l.Turn)),(TT s (max 1 (l.Width - ind)) (l.Width - l.Turn) 0).cost):=by
 unfold zfR
 refine zcj (za7 (zmr s hs ind l h1 ⟨by omega,by omega⟩) (za7 (zw5 hs ha hb) ?_))
 have hr:=ziP hs ha hb (zaD s).length 0 (zqF hs ha hb) (Nat.zero_le _)
 have hl:0+(zlC s (max 1 (l.Width - ind)) (l.Width - l.Turn)).length≤max (zaD s).length 0:=zlP hr
 have hle:=zlD hs
 have:=zsZ s hs (max 1 (l.Width - ind)) (l.Width - l.Turn) (TT s (max 1 (l.Width - ind)) (l.Width - l.Turn) 0).cost (fun (cost1:Int) (out1:List zBA)=>some (out1,cost1)) (zlC s (max 1 (l.Width - ind)) (l.Width - l.Turn)) (zlC s (max 1 (l.Width - ind)) (l.Width - l.Turn)) [] 0 zcD [] rfl hr (by have:=zdI (n:=(zaD s).length) (by omega); omega) (Nat.le_refl _) (by omega)
 exact this
def zc4 (elems1:List zBA) (j2:Int→Option zBA) (ag1:Int→Int→Option zBA) (n5:Int) (x3:Int):Option zBA := zaB (decide ((x3:Int)<(elems1.length:Int))) ( zan (zdf elems1 x3) fun (q2:zBA) => grd (I64 (9223372036854775807 - n5)) <| zaB (decide (((9223372036854775807 - n5):Int)<(q2.size:Int))) ( none
) ( grd (I64 (n5+(q2.size:Int))) <| grd (I64 (x3+1)) <| ag1 (n5+(q2.size:Int)) (x3+1)
)
) ( j2 n5
)
def zcP (elems1:List zBA) (sep1:zBA) (j3:zBA→Option zBA) (ag2:zBA→Int→Option zBA) (b6:zBA) (x6:Int):Option zBA := zaB (decide ((x6:Int)<((zp5 elems1 1 (elems1.length:Int)).length:Int))) ( zan (zdf (zp5 elems1 1 (elems1.length:Int)) x6) fun (q4:zBA) => grd (b6.size+sep1.size≤140737488355328) <| grd ((b6++sep1).size+q4.size≤140737488355328) <| grd (I64 (x6+1)) <| ag2 ((b6++sep1)++q4) (x6+1)
) ( j3 b6
)
def zeY (elems1:List zBA) (sep1:zBA):Option zBA := zaB (((elems1.length:Int):Int)==0) ( some (⟨#[]⟩:zBA)
) ( zaB (((elems1.length:Int):Int)==1) ( zan (zdf elems1 0) fun (q1:zBA) => some q1
) ( zbE (fun (j1:Int→Option zBA) => zaB (decide ((0:Int)<(sep1.size:Int))) ( grd (I64 ((elems1.length:Int) - 1)) <| grd (((elems1.length:Int) - 1)≠0) <| grd (I64 (Int.tdiv 9223372036854775807 ((elems1.length:Int) - 1))) <| zaB (decide (((Int.tdiv 9223372036854775807 ((elems1.length:Int) - 1)):Int)≤(sep1.size:Int))) ( none
) ( grd (I64 ((elems1.length:Int) - 1)) <| grd (I64 ((sep1.size:Int)*((elems1.length:Int) - 1))) <| grd (I64 (0+((sep1.size:Int)*((elems1.length:Int) - 1)))) <| j1 (0+((sep1.size:Int)*((elems1.length:Int) - 1)))
)
) ( j1 0
)
) (fun (n1:Int) => zbE (fun (j2:Int→Option zBA) => za1 (fun _ _=>none) (zc4 elems1 j2) zcD n1 0
) (fun (n2:Int) => zbE (fun (j3:zBA→Option zBA) => grd (0≤(n2:Int)∧(n2:Int)≤140737488355328) <| zan (zdf elems1 0) fun (q3:zBA) => grd ((⟨#[]⟩:zBA).size+q3.size≤140737488355328) <| grd (0≤(1:Int)∧(1:Int)≤(elems1.length:Int)∧((elems1.length:Int):Int)≤(elems1.length:Int)) <| za1 (fun _ _=>none) (zcP elems1 sep1 j3) zcD ((⟨#[]⟩:zBA)++q3) 0
) (fun (b2:zBA) => some b2
)
)
)
)
)
theorem zio {vvelems1 velems1:Value} {Lelems1:List zBA} {kelems1:Nat} {elems1:List zBA} (hwelems1:Vw vvelems1 Lelems1 1 kelems1 velems1 elems1) {sep1:zBA} {r:zBA} (h:zeY elems1 sep1=some r):FnR prog 42 [velems1,.string sep1] [zeJ zkv 1 vvelems1 kelems1 Lelems1] [] (fun _:Unit=>(.string r)) (fun _=>[]):=by
 unfold zeY at h
 refine FnR.intro func42 rfl ntmps42 (by simp) ?_
 intro w0 K hrd
 refine zyG (zyR 1 rfl (zyN (zaE (zyG (zyR 1 rfl (zcO hwelems1 rfl dc rfl underlying38 (zyN (zaG (zaE ?_)))))))))
 refine zas (zaS rfl zaL (zyR 1 rfl (zyN ?_)))
 refine zyB rfl h (fun h => ?_) (fun h => ?_)
 ·
  refine zyG (zyR 1 rfl (zyN (zau (zag (zaf ?_)))))
  cases h
  exact za2 4 results42
 refine zyG (zaS rfl zaL (zyR 1 rfl (zyN ?_)))
 refine zyB rfl h (fun h => ?_) (fun h => ?_)
 ·
  refine zyG (zyR 1 rfl ?_)
  obtain ⟨q1,hq1,h⟩:=zbL h
  refine zbv hwelems1 hq1 underlying38 zof rfl dc rfl rfl rfl (zcW (n:=kelems1+(0:Int).toNat) (j:=0) (i:=0) (q:=q1) hrd rfl (by omega) zhk rfl dc rfl (Vw.get hwelems1 hq1) rfl rfl (zyR 1 rfl (zyN (zau (zag (zaf ?_))))))
  cases h
  exact za2 4 results42
 refine zal (zae (zay ?_))
 obtain ⟨j1,hj1,h⟩:=zbT h
 refine za8 (β:=Int) 1 rfl (fun b=>j1 b=some r) (fun b=>[]) (fun b=>[(0,velems1),(1,.string sep1),(5,zI b)]) (fun b=>[]) (fun cut => ?_) ?_
 ·
  refine zyG (zyR 1 rfl (zyN (cut (zyG (zyR 1 rfl (zbC rfl dc rfl underlying9 (zaS rfl zc1 (zyN ?_))))))))
  refine zyB rfl h (fun h => ?_) (fun h => ?_)
  ·
   refine zaE (zyG (zyR 1 rfl (zbC rfl dc rfl underlying9 (zyR 1 rfl (zcO hwelems1 rfl dc rfl underlying38 ?_)))))
   obtain ⟨hg1,h⟩:=zbQ h
   refine zaS rfl (zce (r:=(elems1.length:Int) - 1) (IntWalk.i64_in _ hg1)) ?_
   obtain ⟨hg2,h⟩:=zbQ h
   obtain ⟨hg3,h⟩:=zbQ h
   refine zaS rfl (zxV hg2 (IntWalk.i64_in _ hg3)) (zaS rfl zbG (zyN ?_))
   refine zyB rfl h (fun h => ?_) (fun h => ?_)
   ·
    exact zdO h
   refine zal (zay (zas (zyR 2 rfl (zbC rfl dc rfl underlying9 (zyR 1 rfl (zcO hwelems1 rfl dc rfl underlying38 ?_))))))
   obtain ⟨hg4,h⟩:=zbQ h
   refine zaS rfl (zce (r:=(elems1.length:Int) - 1) (IntWalk.i64_in _ hg4)) ?_
   obtain ⟨hg5,h⟩:=zbQ h
   refine zaS rfl (zqT (r:=(sep1.size:Int)*((elems1.length:Int) - 1)) (IntWalk.i64_in _ hg5)) ?_
   obtain ⟨hg6,h⟩:=zbQ h
   refine zaS rfl (zbb (r:=0+((sep1.size:Int)*((elems1.length:Int) - 1))) (IntWalk.i64_in _ hg6)) (zyR 1 rfl (zaP ?_))
   exact zak (0+((sep1.size:Int)*((elems1.length:Int) - 1))) h rfl (zbf rfl) Splits.nil
  refine zal ?_
  exact zak 0 h rfl (zbf rfl) Splits.nil
 rintro n1 h
 rw [hj1] at h
 obtain ⟨j2,hj2,h⟩:=zbT h
 refine za8 (β:=Int) 0 rfl (fun b=>j2 b=some r) (fun b=>[]) (fun b=>[(0,velems1),(1,.string sep1),(5,zI b)]) (fun b=>[]) (fun cut => ?_) ?_
 ·
  refine cut (zyG (zyR 1 rfl (zcO hwelems1 rfl dc rfl underlying38 (zyR 1 rfl (zyN (zaG ?_))))))
  refine zbP (β:=Nat×Int×Int) (fun b=>za1 (fun _ _=>none) (zc4 elems1 j2) b.1 b.2.1 b.2.2=some r) (fun b=>[]) (fun b=>[(0,velems1),(1,.string sep1),(5,zI b.2.1),(39,velems1),(40,zI (elems1.length:Int)),(41,zI b.2.2)]) (fun b=>[]) (fun b=>b.1) (zcD,n1,0) h rfl (zbf rfl) Splits.nil ?_
  rintro ⟨n6,n5,x3⟩ h
  cases n6 with
  | zero=>exact zdO h
  | succ n6 =>
   obtain ⟨ag1,hag1⟩:∃ ag,ag=za1 (fun _ _=>none) (zc4 elems1 j2) n6:=⟨_,rfl⟩
   have h:zc4 elems1 j2 ag1 n5 x3=some r:=by rw [hag1]; exact h
   unfold zc4 at h
   refine zyG (zaS rfl zbF (zyN (zaE ?_)))
   refine zyB rfl h (fun h => ?_) (fun h => ?_)
   ·
    refine zal (zay (zaE (zaG (zyG ?_))))
    obtain ⟨q2,hq2,h⟩:=zbL h
    refine zbv hwelems1 hq2 underlying38 zof rfl dc rfl rfl rfl (zcW (n:=kelems1+(x3:Int).toNat) (j:=0) (i:=0) (q:=q2) hrd rfl (by omega) zhk rfl dc rfl (Vw.get hwelems1 hq2) rfl rfl (zyR 1 rfl (zyN (zaE (zyG (zyR 1 rfl (zbC rfl dc rfl underlying9 (zyR 1 rfl ?_))))))))
    obtain ⟨hg7,h⟩:=zbQ h
    refine zaS rfl (zce (r:=9223372036854775807 - n5) (IntWalk.i64_in _ hg7)) (zaS rfl zc1 (zyN ?_))
    refine zyB rfl h (fun h => ?_) (fun h => ?_)
    ·
     exact zdO h
    refine zal (zay (zas (zyR 2 rfl (zbC rfl dc rfl underlying9 ?_))))
    obtain ⟨hg8,h⟩:=zbQ h
    refine zaS rfl (zbb (r:=n5+(q2.size:Int)) (IntWalk.i64_in _ hg8)) (zyR 1 rfl (zaP (zae (zay (zas ?_)))))
    obtain ⟨hg9,h⟩:=zbQ h
    refine zaS rfl (zbb (r:=x3+1) (IntWalk.i64_in _ hg9)) (zyR 1 rfl (zaP ?_))
    subst hag1
    exact zbr (n6,n5+(q2.size:Int),x3+1) h (Nat.lt_succ_self _) rfl (zbf rfl) Splits.nil
   refine zbu (zaq (zaq (zaJ ?_)))
   exact zak n5 h rfl (zbf rfl) Splits.nil
 rintro n2 h
 rw [hj2] at h
 obtain ⟨j3,hj3,h⟩:=zbT h
 refine za8 (β:=zBA×Nat) 3 rfl (fun b=>j3 b.1=some r) (fun b=>[]) (fun b=>[(8,zP b.2)]) (fun b=>[zqS b.2 b.1]) (fun cut => ?_) ?_
 ·
  refine zyG ?_
  refine zbh zvQ rfl dc (fun b3 => ?_)
  refine zyH (zyR 1 rfl ?_)
  obtain ⟨hg10,h⟩:=zbQ h
  refine zcE (vs:=[zP b3,zI n2]) rfl dc rfl rfl rfl zAs (zxo b3 n2 hg10.1 hg10.2) (zab [0] kr rfl) ?_
  rintro _
  refine zyH (zyR 1 rfl ?_)
  obtain ⟨q3,hq3,h⟩:=zbL h
  refine zbv hwelems1 hq3 underlying38 zof rfl dc rfl rfl rfl (zcW (n:=kelems1+(0:Int).toNat) (j:=0) (i:=0) (q:=q3) hrd rfl (by omega) zhk rfl dc rfl (Vw.get hwelems1 hq3) rfl rfl ?_)
  obtain ⟨hg11,h⟩:=zbQ h
  refine zcE (vs:=[zP b3,.string q3]) rfl dc rfl rfl rfl zqI (zjp b3 (⟨#[]⟩:zBA) q3 hg11) (zab [1] kr rfl) ?_
  rintro u1
  refine zyN (cut (zyG (zyR 1 rfl ?_)))
  obtain ⟨hg12,h⟩:=zbQ h
  obtain ⟨v1,hv1,hs1⟩:=zrj (lo:=some (zI 1)) (hi:=none) hwelems1 underlying38 zof (.inr rfl) (.inl ⟨rfl,rfl⟩) hg12
  refine zdA rfl dc rfl rfl rfl hs1 (zcO hv1 rfl dc rfl underlying38 (zyR 1 rfl (zyN (zaG ?_))))
  refine zbP (β:=Nat×zBA×Int) (fun b=>za1 (fun _ _=>none) (zcP elems1 sep1 j3) b.1 b.2.1 b.2.2=some r) (fun b=>[]) (fun b=>[(1,.string sep1),(8,zP b3),(63,v1),(64,zI ((zp5 elems1 1 (elems1.length:Int)).length:Int)),(65,zI b.2.2)]) (fun b=>[zqS b3 b.2.1]) (fun b=>b.1) (zcD,(⟨#[]⟩:zBA)++q3,0) h rfl (zbf rfl) (zab [2] kr rfl) ?_
  rintro ⟨n7,b6,x6⟩ h
  cases n7 with
  | zero=>exact zdO h
  | succ n7 =>
   obtain ⟨ag2,hag2⟩:∃ ag,ag=za1 (fun _ _=>none) (zcP elems1 sep1 j3) n7:=⟨_,rfl⟩
   have h:zcP elems1 sep1 j3 ag2 b6 x6=some r:=by rw [hag2]; exact h
   unfold zcP at h
   refine zyG (zaS rfl zbF (zyN (zaE ?_)))
   refine zyB rfl h (fun h => ?_) (fun h => ?_)
   ·
    refine zal (zay (zaE (zaG (zyG ?_))))
    obtain ⟨q4,hq4,h⟩:=zbL h
    refine zbv hv1 hq4 underlying38 zof rfl dc rfl rfl rfl (zcW (n:=kelems1+(1:Int).toNat+(x6:Int).toNat) (j:=0) (i:=0) (q:=q4) hrd rfl (by omega) zhk rfl dc rfl (Vw.get hv1 hq4) rfl rfl (zyR 1 rfl (zyH (zyR 1 rfl ?_))))
    obtain ⟨hg13,h⟩:=zbQ h
    refine zcE (vs:=[zP b3,.string sep1]) rfl dc rfl rfl rfl zqI (zjp b3 b6 sep1 hg13) (zab [0] kr rfl) ?_
    rintro u2
    refine zyN (zas (zyR 1 rfl ?_))
    obtain ⟨hg14,h⟩:=zbQ h
    refine zcE (vs:=[zP b3,.string q4]) rfl dc rfl rfl rfl zqI (zjp b3 (b6++sep1) q4 hg14) (zab [1] kr rfl) ?_
    rintro u3
    refine zaP (zae (zay (zas ?_)))
    obtain ⟨hg15,h⟩:=zbQ h
    refine zaS rfl (zbb (r:=x6+1) (IntWalk.i64_in _ hg15)) (zyR 1 rfl (zaP ?_))
    subst hag2
    exact zbr (n7,(b6++sep1)++q4,x6+1) h (Nat.lt_succ_self _) rfl (zbf rfl) (zab [2] kr rfl)
   refine zbu (zaq (zaq (zaJ ?_)))
   exact zak (b6,b3) h rfl (zbf rfl) (zab [0] kr rfl)
 rintro ⟨b2,b1⟩ h
 rw [hj3] at h
 refine zyG (zcE (vs:=[zP b1]) rfl dc rfl rfl rfl zzk (zus b1 b2) (zab [0] kr rfl) ?_)
 rintro _
 refine zyR 1 rfl (zyN (zau ?_))
 cases h
 exact za2 4 results42
def zd1 (rows1:List zBA) (j1:Option (Int×Int)) (ag1:Int→Int→Option (Int×Int)) (size3:Int) (x3:Int):Option (Int×Int) := zaB (decide ((x3:Int)<(rows1.length:Int))) ( zan (zdf rows1 x3) fun (q1:zBA) => grd (I64 (size3+(q1.size:Int))) <| zaB (decide ((1024:Int)<(size3+(q1.size:Int)))) ( some (0,2)
) ( grd (I64 (x3+1)) <| ag1 (size3+(q1.size:Int)) (x3+1)
)
) ( j1
)
def zdZ (r3:zbm) (j4:zBA→Int→Int→Option (Int×Int)) (q2:zBA) (ag3:Int→Int→Option (Int×Int)) (to4:Int) (n6:Int):Option (Int×Int) := zaB (decide ((to4:Int)<(r3.cells.length:Int))) ( zaB (decide ((n6:Int)<(q2.size:Int))) ( zan (zdf r3.cells to4) fun (q3:zaH) => grd (I64 (q3.Span_To - q3.Span_From)) <| grd (I64 (n6+(q3.Span_To - q3.Span_From))) <| grd (I64 (to4+1)) <| ag3 (to4+1) (n6+(q3.Span_To - q3.Span_From))
) ( j4 q2 to4 n6
)
) ( j4 q2 to4 n6
)
def zd0 (rows1:List zBA) (j2:Int→Option (Int×Int)) (r3:zbm) (ag2:Int→Int→Int→Option (Int×Int)) (cost4:Int) (from3:Int) (x6:Int):Option (Int×Int) := zaB (decide ((x6:Int)<(rows1.length:Int))) ( zbE (fun (j3:Int→Int→Int→zBA→Int→Bool→Int→Bool→Bool→Option (Int×Int)) => zbE (fun (j4:zBA→Int→Int→Option (Int×Int)) => zan (zdf rows1 x6) fun (q2:zBA) => za1 (fun _ _=>none) (zdZ r3 j4 q2) zcD from3 0
) (fun (s1:zBA) (to1:Int) (n3:Int) => zaB (decide (s1=(⟨#[]⟩:zBA))) ( some (0,2)
) ( zaB ((n3:Int) != (s1.size:Int)) ( some (0,2)
) ( zan (zd4 r3 from3 to1) fun (r4:Bool) => zaB (!r4) ( some (0,2)
) ( zbE (fun (j5:Int→Option (Int×Int)) => grd (I64 ((rows1.length:Int) - 1)) <| zaB (decide ((x6:Int)<((rows1.length:Int) - 1))) ( zan (zdG r3 from3 to1) fun (r5:Int) => grd (I64 (cost4+r5)) <| j5 (cost4+r5)
) ( j5 cost4
)
) (fun (cost6:Int) => j3 cost6 to1 n3 s1 (s1.size:Int) ((n3:Int) != (s1.size:Int)) to1 r4 (!r4)
)
)
)
)
)
) (fun (cost5:Int) (from4:Int) (x7:Int) (x8:zBA) (x9:Int) (x10:Bool) (x11:Int) (x12:Bool) (x13:Bool) => grd (I64 (x6+1)) <| ag2 cost5 from4 (x6+1)
)
) ( j2 cost4
)
def zgn (rows1:List zBA) (indent1:Int) (l1:zaO):Option (Int×Int) := zbE (fun (j1:Option (Int×Int)) => za1 (fun _ _=>none) (zd1 rows1 j1) zcD 0 0
) ( zan (zgm l1) fun (r1:Bool) => zaB (!r1) ( some (0,2)
) ( zaB (decide ((indent1:Int)<0)) ( some (0,2)
) ( zaB (decide ((1024:Int)<indent1)) ( some (0,2)
) ( zbE (fun (j2:Int→Option (Int×Int)) => zan (zeY rows1 (⟨#[]⟩:zBA)) fun (r2:zBA) => zan (zeg r2 indent1 l1) fun (r3:zbm) => za1 (fun _ _ _=>none) (zd0 rows1 j2 r3) zcD 0 0 0
) (fun (cost1:Int) => some (cost1,0)
)
)
)
)
)
theorem zli {vvrows1 vrows1:Value} {Lrows1:List zBA} {krows1:Nat} {rows1:List zBA} (hwrows1:Vw vvrows1 Lrows1 1 krows1 vrows1 rows1) {indent1:Int} {l1:zaO} {r:(Int×Int)} (h:zgn rows1 indent1 l1=some r):FnR prog 41 [vrows1,zI indent1,.agg (zr0 l1).toArray] [zeJ zkv 1 vvrows1 krows1 Lrows1] [] (fun _:Unit=>(.tuple #[zI r.1,zI r.2])) (fun _=>[]):=by
 unfold zgn at h
 refine FnR.intro func41 rfl ntmps41 (by simp) ?_
 intro w0 K hrd
 obtain ⟨j1,hj1,h⟩:=zbT h
 refine za8 (β:=Nat) 2 rfl (fun b=>j1=some r) (fun b=>[]) (fun b=>[(0,vrows1),(1,zI indent1),(5,zP b)]) (fun b=>[cells b (zr0 l1) 23]) (fun cut => ?_) ?_
 ·
  refine zyG ?_
  refine zdi rfl dc rfl (fun b2 => ?_)
  refine zyR 2 rfl (zyH (zyR 1 rfl (zyN (cut (zyG (zyR 1 rfl (zcO hwrows1 rfl dc rfl underlying38 ?_)))))))
  refine zyR 1 rfl (zyN (zaG ?_))
  refine zbP (β:=Nat×Int×Int) (fun b=>za1 (fun _ _=>none) (zd1 rows1 j1) b.1 b.2.1 b.2.2=some r) (fun b=>[]) (fun b=>[(0,vrows1),(1,zI indent1),(5,zP b2),(8,zI b.2.1),(18,vrows1),(19,zI (rows1.length:Int)),(20,zI b.2.2)]) (fun b=>[cells b2 (zr0 l1) 23]) (fun b=>b.1) (zcD,0,0) h rfl (zbf rfl) (zab [0] kr rfl) ?_
  rintro ⟨n1,size3,x3⟩ h
  cases n1 with
  | zero=>exact zdO h
  | succ n1 =>
   obtain ⟨ag1,hag1⟩:∃ ag,ag=za1 (fun _ _=>none) (zd1 rows1 j1) n1:=⟨_,rfl⟩
   have h:zd1 rows1 j1 ag1 size3 x3=some r:=by rw [hag1]; exact h
   unfold zd1 at h
   refine zyG (zaS rfl zbF (zyN (zaE ?_)))
   refine zyB rfl h (fun h => ?_) (fun h => ?_)
   ·
    refine zal (zay (zaE (zaG (zyG ?_))))
    obtain ⟨q1,hq1,h⟩:=zbL h
    refine zbv hwrows1 hq1 underlying38 zof rfl dc rfl rfl rfl (zcW (n:=krows1+(x3:Int).toNat) (j:=0) (i:=0) (q:=q1) hrd rfl (by omega) zhk rfl dc rfl (Vw.get hwrows1 hq1) rfl rfl (zyR 1 rfl (zyH (zyR 2 rfl (zbC rfl dc rfl underlying9 ?_)))))
    obtain ⟨hg1,h⟩:=zbQ h
    refine zaS rfl (zbb (r:=size3+(q1.size:Int)) (IntWalk.i64_in _ hg1)) (zyR 1 rfl (zyH (zyR 1 rfl (zaS rfl zc1 (zyN ?_)))))
    refine zyB rfl h (fun h => ?_) (fun h => ?_)
    ·
     refine zyG (zyR 2 rfl (zyN (zau (zag (zaf (zaf (zag (zaf ?_))))))))
     cases h
     exact zbt (rs:=[.tmp 6,.tmp 7]) () (.inl rfl) results41 (.cons (.tmp rfl) (.cons (.tmp rfl) .nil)) rfl Splits.nil
    refine zal (zae (zay (zas ?_)))
    obtain ⟨hg2,h⟩:=zbQ h
    refine zaS rfl (zbb (r:=x3+1) (IntWalk.i64_in _ hg2)) (zyR 1 rfl (zaP ?_))
    subst hag1
    exact zbr (n1,size3+(q1.size:Int),x3+1) h (Nat.lt_succ_self _) rfl (zbf rfl) (zab [0] kr rfl)
   refine zbu (zaq (zaq (zaJ ?_)))
   exact zak b2 h rfl (zbf rfl) (zab [0] kr rfl)
 rintro b1 h
 rw [hj1] at h
 refine zaE (zyG (zaV (k:=0) (cs:=(zr0 l1)) zjs rfl dc rfl rfl rfl rfl ?_))
 obtain ⟨r1,hq2,h⟩:=zbL h
 refine zbg (v:=.bool r1) (vs:=[.agg (zr0 l1).toArray]) rfl dc rfl rfl rfl zxJ (zjw (l1:=l1) hq2) (zdt rfl dc rfl zct (zyR 1 rfl ?_))
 refine zyS (s:=34) rfl h (fun h => ?_) (fun h => ?_)
 ·
  refine zyR 7 rfl (zyN (zba rfl (zyG (zyR 2 rfl ?_))))
  refine zyN (zau (zaf ?_))
  cases h
  exact zbt (rs:=[.tmp 6,.tmp 7]) () (.inl rfl) results41 (.cons (.tmp rfl) (.cons (.tmp rfl) .nil)) rfl Splits.nil
 refine zyR 1 rfl (zaS rfl zbF (zyR 2 rfl ?_))
 refine zyS (s:=38) rfl h (fun h => ?_) (fun h => ?_)
 ·
  refine zyR 3 rfl (zyN (zba rfl (zyG (zyR 2 rfl (zyN (zau (zaf ?_)))))))
  cases h
  exact zbt (rs:=[.tmp 6,.tmp 7]) () (.inl rfl) results41 (.cons (.tmp rfl) (.cons (.tmp rfl) .nil)) rfl Splits.nil
 refine zyR 1 rfl (zaS rfl zc1 (zyR 1 rfl (zyN ?_)))
 refine zyB rfl h (fun h => ?_) (fun h => ?_)
 ·
  refine zyG (zyR 2 rfl (zyN (zau (zaf ?_))))
  cases h
  exact zbt (rs:=[.tmp 6,.tmp 7]) () (.inl rfl) results41 (.cons (.tmp rfl) (.cons (.tmp rfl) .nil)) rfl Splits.nil
 refine zal (zay ?_)
 obtain ⟨j2,hj2,h⟩:=zbT h
 refine za8 (β:=Int) 2 rfl (fun b=>j2 b=some r) (fun b=>[]) (fun b=>[(12,zI b)]) (fun b=>[]) (fun cut => ?_) ?_
 ·
  refine zaE ?_
  obtain ⟨r2,hq3,h⟩:=zbL h
  obtain ⟨r3,hq4,h⟩:=zbL h
  refine zbB 4 [(0,42,vrows1),(1,43,.string r2),(2,44,zI indent1),(3,45,.agg (zr0 l1).toArray)] mixed kr kr dc (by rfl) kr kr (zyP 1 0 rfl (zad ?_ (zyP 1 2 rfl (zad ?_ DrawPre.nil)))) ?_
  · exact fun D n d c u i=>zbK (v:=.string r2) (vs:=[vrows1,.string (⟨#[]⟩:zBA)]) hrd rfl dc rfl (evL.cons (zam 0 u d) (evL.cons rfl evL.nil)) rfl zzo (zio hwrows1 hq3) (.ro 0 rfl .nil) (zar 1 u i)
  · exact fun D n d c u i=>zaV (k:=0) (cs:=(zr0 l1)) zjs rfl dc (zbd (by rfl) rfl) rfl rfl rfl (zar 3 u i)
  refine zcE (vs:=[.string r2,zI indent1,.agg (zr0 l1).toArray]) rfl dc rfl rfl rfl zzi (zhJ (l1:=l1) hq4) Splits.nil ?_
  rintro ⟨b3,hd1,hd2,hd3⟩
  refine zcs (L':=[cells b1 (zr0 l1) 23,cells b3 [.string r3.s,hd1.v,hd2.v,hd3.v,zI r3.first,zI r3.rest] 156,zv3 hd1.v r3.cells,zv0 hd2.v r3.wide,zv0 hd3.v r3.ends]) (zab [0,1,2,3,4] kr rfl) (zyR 1 rfl (zyH (zyR 2 rfl (zyN (cut (zyG (zyR 1 rfl ?_)))))))
  refine zcO hwrows1 rfl dc rfl underlying38 (zyR 1 rfl (zyN (zaG ?_)))
  refine zbP (β:=Nat×Int×Int×Int) (fun b=>za1 (fun _ _ _=>none) (zd0 rows1 j2 r3) b.1 b.2.1 b.2.2.1 b.2.2.2=some r) (fun b=>[]) (fun b=>[(0,vrows1),(11,zP b3),(12,zI b.2.1),(13,zI b.2.2.1),(47,vrows1),(48,zI (rows1.length:Int)),(49,zI b.2.2.2)]) (fun b=>[cells b3 [.string r3.s,hd1.v,hd2.v,hd3.v,zI r3.first,zI r3.rest] 156,zv3 hd1.v r3.cells,zv0 hd2.v r3.wide,zv0 hd3.v r3.ends]) (fun b=>b.1) (zcD,0,0,0) h rfl (zbf rfl) (zab [1,2,3,4] kr rfl) ?_
  rintro ⟨n2,cost4,from3,x6⟩ h
  cases n2 with
  | zero=>exact zdO h
  | succ n2 =>
   obtain ⟨ag2,hag2⟩:∃ ag,ag=za1 (fun _ _ _=>none) (zd0 rows1 j2 r3) n2:=⟨_,rfl⟩
   have h:zd0 rows1 j2 r3 ag2 cost4 from3 x6=some r:=by rw [hag2]; exact h
   unfold zd0 at h
   refine zyG (zaS rfl zbF (zyN (zaE ?_)))
   refine zyB rfl h (fun h => ?_) (fun h => ?_)
   ·
    refine zal (zay ?_)
    obtain ⟨j3,hj3,h⟩:=zbT h
    refine za8 (β:=Int×Int×Int×zBA×Int×Bool×Int×Bool×Bool) 0 rfl (fun b=>j3 b.1 b.2.1 b.2.2.1 b.2.2.2.1 b.2.2.2.2.1 b.2.2.2.2.2.1 b.2.2.2.2.2.2.1 b.2.2.2.2.2.2.2.1 b.2.2.2.2.2.2.2.2=some r) (fun b=>[]) (fun b=>[(0,vrows1),(11,zP b3),(12,zI b.1),(13,zI b.2.1),(47,vrows1),(48,zI (rows1.length:Int)),(49,zI x6),(94,zI b.2.2.1),(95,.string b.2.2.2.1),(96,zI b.2.2.2.2.1),(97,.bool b.2.2.2.2.2.1),(100,zP b3),(101,zI from3),(102,zI b.2.2.2.2.2.2.1),(103,.bool b.2.2.2.2.2.2.2.1),(104,.bool b.2.2.2.2.2.2.2.2)]) (fun b=>[cells b3 [.string r3.s,hd1.v,hd2.v,hd3.v,zI r3.first,zI r3.rest] 156,zv3 hd1.v r3.cells,zv0 hd2.v r3.wide,zv0 hd3.v r3.ends]) (fun cut => ?_) ?_
    ·
     refine cut (zaG ?_)
     obtain ⟨j4,hj4,h⟩:=zbT h
     refine za8 (β:=zBA×Int×Int) 2 rfl (fun b=>j4 b.1 b.2.1 b.2.2=some r) (fun b=>[]) (fun b=>[(0,vrows1),(11,zP b3),(12,zI cost4),(13,zI from3),(14,zI x6),(15,.string b.1),(16,zI b.2.1),(17,zI b.2.2),(47,vrows1),(48,zI (rows1.length:Int)),(49,zI x6)]) (fun b=>[cells b3 [.string r3.s,hd1.v,hd2.v,hd3.v,zI r3.first,zI r3.rest] 156,zv3 hd1.v r3.cells,zv0 hd2.v r3.wide,zv0 hd3.v r3.ends]) (fun cut => ?_) ?_
     ·
      refine zyG (zyR 1 rfl ?_)
      obtain ⟨q2,hq5,h⟩:=zbL h
      refine zbv hwrows1 hq5 underlying38 zof rfl dc rfl rfl rfl (zcW (n:=krows1+(x6:Int).toNat) (j:=0) (i:=0) (q:=q2) hrd rfl (by omega) zhk rfl dc rfl (Vw.get hwrows1 hq5) rfl rfl (zyR 2 rfl (zyH (zyR 3 rfl (zyN (cut ?_))))))
      refine zaG ?_
      refine zbP (β:=Nat×Int×Int) (fun b=>za1 (fun _ _=>none) (zdZ r3 j4 q2) b.1 b.2.1 b.2.2=some r) (fun b=>[]) (fun b=>[(0,vrows1),(11,zP b3),(12,zI cost4),(13,zI from3),(14,zI x6),(15,.string q2),(16,zI b.2.1),(17,zI b.2.2),(47,vrows1),(48,zI (rows1.length:Int)),(49,zI x6)]) (fun b=>[cells b3 [.string r3.s,hd1.v,hd2.v,hd3.v,zI r3.first,zI r3.rest] 156,zv3 hd1.v r3.cells,zv0 hd2.v r3.wide,zv0 hd3.v r3.ends]) (fun b=>b.1) (zcD,from3,0) h rfl (zbf rfl) (zab [0,1,2,3] kr rfl) ?_
      rintro ⟨n7,to4,n6⟩ h
      cases n7 with
      | zero=>exact zdO h
      | succ n7 =>
       obtain ⟨ag3,hag3⟩:∃ ag,ag=za1 (fun _ _=>none) (zdZ r3 j4 q2) n7:=⟨_,rfl⟩
       have h:zdZ r3 j4 q2 ag3 to4 n6=some r:=by rw [hag3]; exact h
       unfold zdZ at h
       refine zaE (zyG (zyR 2 rfl (zai rfl dc rfl (zaa zgt rfl dc rfl (show _=1 from rfl) (zaj (k:=0) zis rfl dc rfl rfl rfl (zdu (k:=1) rfl dc rfl rfl underlying123 (zaS rfl zbF (zyR 1 rfl ?_))))))))
       refine zyS (s:=62) rfl h (fun h => ?_) (fun h => ?_)
       ·
        refine zyR 2 rfl (zbC rfl dc rfl underlying9 (zaS rfl zbF (zyR 1 rfl (zyN ?_))))
        refine zyB rfl h (fun h => ?_) (fun h => ?_)
        ·
         refine zal (zay (zaG (zaE ?_)))
         obtain ⟨q3,hq6,h⟩:=zbL h
         obtain ⟨hg3,h⟩:=zbQ h
         obtain ⟨hg4,h⟩:=zbQ h
         refine zbB 20 [(0,68,zI n6),(1,69,zP b3),(2,70,zP b3),(3,71,.pointer (some ⟨b3,1,none⟩)),(4,72,hd1.v),(5,73,zI to4),(6,74,.pointer (some ⟨zdz hd1.v,(to4:Int).toNat*3,none⟩)),(7,75,.pointer (some ⟨zdz hd1.v,((to4:Int).toNat)*3,none⟩)),(8,76,.pointer (some ⟨zdz hd1.v,((to4:Int).toNat)*3+1,none⟩)),(9,77,zI q3.Span_To),(10,78,zP b3),(11,79,zP b3),(12,80,.pointer (some ⟨b3,1,none⟩)),(13,81,hd1.v),(14,82,zI to4),(15,83,.pointer (some ⟨zdz hd1.v,(to4:Int).toNat*3,none⟩)),(16,84,.pointer (some ⟨zdz hd1.v,((to4:Int).toNat)*3,none⟩)),(17,85,.pointer (some ⟨zdz hd1.v,((to4:Int).toNat)*3,none⟩)),(18,86,zI q3.Span_From),(19,87,zI (q3.Span_To - q3.Span_From))] mixed kr kr dc (by rfl) kr kr (zyP 2 0 rfl (zad ?_ (zad ?_ (zad ?_ (zyP 1 5 rfl (zad ?_ (zad ?_ (zad ?_ (zad ?_ (zyP 1 10 rfl (zad ?_ (zad ?_ (zad ?_ (zyP 1 14 rfl (zad ?_ (zad ?_ (zad ?_ (zad ?_ (zad ?_ DrawPre.nil))))))))))))))))))) ?_
         · exact fun D n d c u i=>zai rfl dc (zam 1 u d) (zar 2 u i)
         · exact fun D n d c u i=>zaa zgt rfl dc (zam 2 u d) (show _=1 from rfl) (zar 3 u i)
         · exact fun D n d c u i=>zaj (k:=0) zis rfl dc (zam 3 u d) rfl rfl (zar 4 u i)
         · exact fun D n d c u i=>za3 (k:=1) hq6 underlying123 zla rfl dc (zam 4 u d) (zam 5 u d) rfl rfl (zar 6 u i)
         · exact fun D n d c u i=>zaa zhr rfl dc (zam 6 u d) (show _=((to4:Int).toNat)*3 from rfl) (zar 7 u i)
         · exact fun D n d c u i=>zaa zdK rfl dc (zam 7 u d) (show _=((to4:Int).toNat)*3+1 from rfl) (zar 8 u i)
         · exact fun D n d c u i=>zbD (i:=(to4:Int).toNat) (j:=1) (k:=1) (q:=q3) zbW zdw rfl dc (zam 8 u d) rfl (zbo hq6) rfl dc rfl (zar 9 u i)
         · exact fun D n d c u i=>zai rfl dc (zam 10 u d) (zar 11 u i)
         · exact fun D n d c u i=>zaa zgt rfl dc (zam 11 u d) (show _=1 from rfl) (zar 12 u i)
         · exact fun D n d c u i=>zaj (k:=0) zis rfl dc (zam 12 u d) rfl rfl (zar 13 u i)
         · exact fun D n d c u i=>za3 (k:=1) hq6 underlying123 zla rfl dc (zam 13 u d) (zam 14 u d) rfl rfl (zar 15 u i)
         · exact fun D n d c u i=>zaa zhr rfl dc (zam 15 u d) (show _=((to4:Int).toNat)*3 from rfl) (zar 16 u i)
         · exact fun D n d c u i=>zaa zhb rfl dc (zam 16 u d) (show _=((to4:Int).toNat)*3 from rfl) (zar 17 u i)
         · exact fun D n d c u i=>zbD (i:=(to4:Int).toNat) (j:=0) (k:=1) (q:=q3) zbW zdw rfl dc (zam 17 u d) rfl (zbo hq6) rfl dc rfl (zar 18 u i)
         · exact fun D n d c u i=>zb6 rfl dc (zam 9 u d) (zam 18 u d) (zce (r:=q3.Span_To - q3.Span_From) (IntWalk.i64_in _ hg3)) (zar 19 u i)
         refine zaS rfl (zbb (r:=n6+(q3.Span_To - q3.Span_From)) (IntWalk.i64_in _ hg4)) (zyR 1 rfl (zyN (zas (zyR 1 rfl ?_))))
         obtain ⟨hg5,h⟩:=zbQ h
         refine zaS rfl (zbb (r:=to4+1) (IntWalk.i64_in _ hg5)) (zyR 1 rfl (zaP (zae ?_)))
         subst hag3
         exact zbr (n7,to4+1,n6+(q3.Span_To - q3.Span_From)) h (Nat.lt_succ_self _) rfl (zbf rfl) (zab [0,1,2,3] kr rfl)
        refine zbu (zaq (zaq (zaJ ?_)))
        exact zak (q2,to4,n6) h rfl (zbf rfl) (zab [0,1,2,3] kr rfl)
       refine zyR 5 rfl (zyN (zaM rfl (zbu (zaq (zaq (zaJ ?_))))))
       exact zak (q2,to4,n6) h rfl (zbf rfl) (zab [0,1,2,3] kr rfl)
     rintro ⟨s1,to1,n3⟩ h
     rw [hj4] at h
     refine zaE (zyG (zyR 1 rfl (zaS rfl zhv (zyR 1 rfl ?_))))
     refine zyS (s:=93) rfl h (fun h => ?_) (fun h => ?_)
     ·
      refine zyR 12 rfl (zyN ?_)
      refine zba rfl (zyG (zyR 2 rfl (zyN (zau (zaf (zag (zaf (zaf (zag (zaf ?_))))))))))
      cases h
      exact zbt (rs:=[.tmp 6,.tmp 7]) () (.inl rfl) results41 (.cons (.tmp rfl) (.cons (.tmp rfl) .nil)) rfl Splits.nil
     refine zyR 2 rfl (zbC rfl dc rfl underlying9 (zaS rfl zbH (zyR 2 rfl ?_)))
     refine zyS (s:=99) rfl h (fun h => ?_) (fun h => ?_)
     ·
      refine zyR 6 rfl (zyN (zba rfl (zyG (zyR 2 rfl (zaP ?_)))))
      refine zay (zau (zaf (zag (zaf (zaf (zag (zaf ?_)))))))
      cases h
      exact zbt (rs:=[.tmp 6,.tmp 7]) () (.inl rfl) results41 (.cons (.tmp rfl) (.cons (.tmp rfl) .nil)) rfl Splits.nil
     refine zyR 3 rfl ?_
     obtain ⟨r4,hq7,h⟩:=zbL h
     refine zbK (v:=.bool r4) (vs:=[zP b3,zI from3,zI to1]) hrd rfl dc rfl rfl rfl zzh (zhn (bt1:=b3) (t1:=r3) (t1_h0:=hd1) (t1_h1:=hd2) (t1_h2:=hd3) hq7) (.own (zab [0] kr rfl) (fun _ _ h=>sepL.one1.1 h) (.own (zab [1] kr rfl) (fun _ _ h=>sepL.one1.1 h) (.own (zab [2] kr rfl) (fun _ _ h=>sepL.one1.1 h) (.own (zab [3] kr rfl) (fun _ _ h=>sepL.one1.1 h) .nil)))) ?_
     refine zdt rfl dc rfl zct (zyR 1 rfl (zyN ?_))
     refine zyB rfl h (fun h => ?_) (fun h => ?_)
     ·
      refine zyG (zyR 2 rfl (zyN (zau (zaf (zag (zaf (zaf (zag (zaf ?_)))))))))
      cases h
      exact zbt (rs:=[.tmp 6,.tmp 7]) () (.inl rfl) results41 (.cons (.tmp rfl) (.cons (.tmp rfl) .nil)) rfl Splits.nil
     refine zal (zay ?_)
     obtain ⟨j5,hj5,h⟩:=zbT h
     refine za8 (β:=Int) 0 rfl (fun b=>j5 b=some r) (fun b=>[]) (fun b=>[(0,vrows1),(11,zP b3),(12,zI b),(16,zI to1),(47,vrows1),(48,zI (rows1.length:Int)),(49,zI x6),(94,zI n3),(95,.string s1),(96,zI (s1.size:Int)),(97,.bool ((n3:Int) != (s1.size:Int))),(100,zP b3),(101,zI from3),(102,zI to1),(103,.bool r4),(104,.bool (!r4))]) (fun b=>[cells b3 [.string r3.s,hd1.v,hd2.v,hd3.v,zI r3.first,zI r3.rest] 156,zv3 hd1.v r3.cells,zv0 hd2.v r3.wide,zv0 hd3.v r3.ends]) (fun cut => ?_) ?_
     ·
      refine cut (zyG (zyR 2 rfl (zcO hwrows1 rfl dc rfl underlying38 ?_)))
      obtain ⟨hg6,h⟩:=zbQ h
      refine zaS rfl (zce (r:=(rows1.length:Int) - 1) (IntWalk.i64_in _ hg6)) (zaS rfl zbF (zyN ?_))
      refine zyB rfl h (fun h => ?_) (fun h => ?_)
      ·
       refine zas (zyR 4 rfl ?_)
       obtain ⟨r5,hq8,h⟩:=zbL h
       refine zbK (v:=zI r5) (vs:=[zP b3,zI from3,zI to1]) hrd rfl dc rfl rfl rfl zzg (zg6 (bt1:=b3) (t1:=r3) (t1_h0:=hd1) (t1_h1:=hd2) (t1_h2:=hd3) hq8) (.own (zab [0] kr rfl) (fun _ _ h=>sepL.one1.1 h) (.own (zab [1] kr rfl) (fun _ _ h=>sepL.one1.1 h) (.own (zab [2] kr rfl) (fun _ _ h=>sepL.one1.1 h) (.own (zab [3] kr rfl) (fun _ _ h=>sepL.one1.1 h) .nil)))) ?_
       obtain ⟨hg7,h⟩:=zbQ h
       refine zaS rfl (zbb (r:=cost4+r5) (IntWalk.i64_in _ hg7)) (zyR 1 rfl (zaP ?_))
       exact zak (cost4+r5) h rfl (zbf rfl) (zab [0,1,2,3] kr rfl)
      refine zal ?_
      exact zak cost4 h rfl (zbf rfl) (zab [0,1,2,3] kr rfl)
     rintro cost6 h
     rw [hj5] at h
     refine zas (zyR 2 rfl (zaP (zae ?_)))
     exact zak (cost6,to1,n3,s1,(s1.size:Int),(n3:Int) != (s1.size:Int),to1,r4,!r4) h rfl (zbf rfl) (zab [0,1,2,3] kr rfl)
    rintro ⟨cost5,from4,x7,x8,x9,x10,x11,x12,x13⟩ h
    rw [hj3] at h
    refine zas ?_
    obtain ⟨hg8,h⟩:=zbQ h
    refine zaS rfl (zbb (r:=x6+1) (IntWalk.i64_in _ hg8)) (zyR 1 rfl (zaP ?_))
    subst hag2
    exact zbr (n2,cost5,from4,x6+1) h (Nat.lt_succ_self _) rfl (zbf rfl) (zab [0,1,2,3] kr rfl)
   refine zbu (zaq (zaq (zaJ ?_)))
   exact zak cost4 h rfl (zbf rfl) Splits.nil
 rintro cost1 h
 rw [hj2] at h
 refine zyG (zyR 3 rfl (zyN (zau ?_)))
 cases h
 exact zbt (rs:=[.tmp 6,.tmp 7]) () (.inl rfl) results41 (.cons (.tmp rfl) (.cons (.tmp rfl) .nil)) rfl Splits.nil
def zij:List zBA→zBA
 | []=>⟨#[]⟩
 | x::xs=>x++zij xs
def zf1:List zBA→Nat
 | []=>0
 | x::xs=>x.size+zf1 xs
theorem zkn:∀ L:List zBA,(zij L).size=zf1 L
 | []=>rfl
 | x::L=>by show (x++zij L).size=x.size+zf1 L; rw [ByteArray.size_append,zkn L]
theorem zpz (x:zBA):(⟨#[]⟩:zBA)++x=x:=ByteArray.empty_append ..
theorem ziT (x:zBA):x++(⟨#[]⟩:zBA)=x:=ByteArray.append_empty ..
theorem zrx (L:List zBA) (hl:L.length≤1000000) (hz:zf1 L≤100000000) (j:Int→Option zBA):∀ (ts pre:List zBA) (m:Nat),L=pre++ts→ts.length<m→za1 (fun _ _=>none) (zc4 L j) m (zf1 pre:Int) (pre.length:Int)=j (zf1 L:Int)
 | [],pre,m,h,hm=>by
  obtain ⟨m,rfl⟩:∃ q,m=q+1:=⟨m - 1,by simp at hm; omega⟩
  rw [List.append_nil] at h; subst h
  rw [zen]
  generalize za1 (fun _ _=>none) (zc4 L j) m=ag
  unfold zc4
  exact zaK zxg rfl
 | t::ts,pre,m,h,hm=>by
  obtain ⟨m,rfl⟩:∃ q,m=q+1:=⟨m - 1,by simp at hm; omega⟩
  have hsz:∀ A B:List zBA,zf1 (A++B)=zf1 A+zf1 B:=by
   intro A B
   induction A with
   | nil=>show zf1 B=0+zf1 B; omega
   | cons x A ih=>show x.size+zf1 (A++B)=x.size+zf1 A+zf1 B; rw [ih]; omega
  have h1:zf1 (pre++[t])=zf1 pre+t.size:=by rw [hsz]; show zf1 pre+(t.size+0)=_; omega
  have h2:zf1 L=zf1 pre+(t.size+zf1 ts):=by rw [h,hsz]; rfl
  have ih:=zrx L hl hz j ts (pre++[t]) m (by rw [h]; simp) (by simp at hm; omega)
  rw [zen]
  generalize za1 (fun _ _=>none) (zc4 L j) m=ag at ih ⊢
  have hg:L[pre.length]?=some t:=by rw [h]; simp
  have hpl:=zrv hg
  rw [h1,show (((pre++[t]).length:Nat):Int)=(pre.length:Int)+1 by simp] at ih
  unfold zc4
  refine zaR (zss hg) (za7 (zeD hg) (zcm ⟨by omega,by omega⟩ (zaK (decide_eq_false (by omega)) (zcm ⟨by omega,by omega⟩ (zcm ⟨by omega,by omega⟩ ?_)))))
  rw [show (zf1 pre:Int)+(t.size:Int)=((zf1 pre+t.size:Nat):Int) by omega]
  exact ih
theorem zry (L:List zBA) (q:zBA) (T:List zBA) (hL:L=q::T) (hl:L.length≤1000000) (hz:zf1 L≤100000000) (j:zBA→Option zBA):∀ (ts pre:List zBA) (m:Nat) (b:zBA),T=pre++ts→ts.length<m→b.size+zf1 ts≤100000000 →
  za1 (fun _ _=>none) (zcP L ⟨#[]⟩ j) m b (pre.length:Int)=j (b++zij ts)
 | [],pre,m,b,h,hm,hb=>by
  obtain ⟨m,rfl⟩:∃ q,m=q+1:=⟨m - 1,by simp at hm; omega⟩
  rw [zen]
  generalize za1 (fun _ _=>none) (zcP L ⟨#[]⟩ j) m=ag
  unfold zcP
  have hc:zp5 L 1 (L.length:Int)=T:=by rw [hL]; unfold zp5; simp
  rw [hc]
  refine zaK (decide_eq_false (by rw [h]; simp)) ?_
  show j b=j (b++(⟨#[]⟩:zBA))
  rw [ziT]
 | t::ts,pre,m,b,h,hm,hb=>by
  obtain ⟨m,rfl⟩:∃ q,m=q+1:=⟨m - 1,by simp at hm; omega⟩
  have hb':b.size+(t.size+zf1 ts)≤100000000:=hb
  have ih:=zry L q T hL hl hz j ts (pre++[t]) m (b++t) (by rw [h]; simp) (by simp at hm; omega) (by rw [ByteArray.size_append]; omega)
  rw [zen]
  generalize za1 (fun _ _=>none) (zcP L ⟨#[]⟩ j) m=ag at ih ⊢
  have hc:zp5 L 1 (L.length:Int)=T:=by rw [hL]; unfold zp5; simp
  have hg:T[pre.length]?=some t:=by rw [h]; simp
  have hpl:=zrv hg
  have hTl:T.length≤1000000:=by rw [hL] at hl; simp at hl; omega
  rw [show (((pre++[t]).length:Nat):Int)=(pre.length:Int)+1 by simp] at ih
  unfold zcP
  rw [hc,ziT]
  refine zaR (zss hg) (za7 (zeD hg) (zcm (by show b.size+0≤_; omega) (zcm (by omega) (zcm ⟨by omega,by omega⟩ ?_))))
  rw [ih,ByteArray.append_assoc]; rfl
theorem zwq (L:List zBA) (hl:L.length≤1000000) (hz:zf1 L≤100000000):zeY L ⟨#[]⟩=some (zij L):=by
 unfold zeY
 cases L with
 | nil=>exact zaR rfl rfl
 | cons q T =>
  refine zaK (zmS (by rw [List.length_cons]; omega)) ?_
  by_cases h1:T=[]
  ·subst h1
   refine zaR rfl (za7 (zfy (n:=0) rfl rfl) ?_)
   show some q=some (q++(⟨#[]⟩:zBA))
   rw [ziT]
  ·obtain ⟨t,ts,rfl⟩:=List.exists_cons_of_ne_nil h1
   refine zaK (zmS (by simp only [List.length_cons]; omega)) (zcj (zaK rfl (zcj ?_)))
   have hq:q.size≤zf1 (q::t::ts):=by show q.size≤q.size+_; omega
   have h1:=zrx (q::t::ts) hl hz (fun (n2:Int)=>zbE (fun (j3:zBA→Option zBA)=>grd (0≤(n2:Int)∧(n2:Int)≤140737488355328)<|zan (zdf (q::t::ts) 0) fun (q3:zBA)=>grd ((⟨#[]⟩:zBA).size+q3.size≤140737488355328)<|grd (0≤(1:Int)∧(1:Int)≤((q::t::ts).length:Int)∧(((q::t::ts).length:Int):Int)≤((q::t::ts).length:Int))<|za1 (fun _ _=>none) (zcP (q::t::ts) ⟨#[]⟩ j3) zcD ((⟨#[]⟩:zBA)++q3) 0) (fun (b2:zBA)=>some b2)) (q::t::ts) [] zcD rfl (by have:=zdI (n:=(q::t::ts).length) (by omega); omega)
   refine h1.trans (zcj (zcm ⟨by omega,by omega⟩ (za7 (zfy (n:=0) rfl rfl) (zcm (by show 0+q.size≤_; omega) (zcm ⟨by omega,by rw [List.length_cons]; omega,by omega⟩ ?_)))))
   rw [zpz]
   have h2:=zry (q::t::ts) q (t::ts) rfl hl hz (fun (b2:zBA)=>some b2) (t::ts) [] zcD q rfl (by have:=zdI (n:=(q::t::ts).length) (by omega); rw [List.length_cons] at this; omega) (by show q.size+zf1 (t::ts)≤_; exact hz)
   exact h2
theorem zs7 {s:zBA} {i j:Nat} (hi:i≤(zaD s).length) (hj:j≤(zaD s).length) (h:stN s i=stN s j):i=j:=by
 rcases Nat.lt_or_ge i j with h1 | h1
 ·have:=zjf s (j - i) i (by omega)
  rw [show i+(j - i)=j by omega] at this; omega
 ·rcases Nat.lt_or_ge j i with h2 | h2
  ·have:=zjf s (i - j) j (by omega)
   rw [show j+(i - j)=i by omega] at this; omega
  ·omega
def ziq (s:zBA) (g:Int):Nat→Nat→Nat
 | 0,t=>t
 | d+1,t=>if stN s t<g then ziq s g d (t+1) else t
theorem ziX (s:zBA) (g:Int):∀ (d t:Nat),t≤ziq s g d t∧ziq s g d t≤t+d∧(ziq s g d t=t+d∨g≤stN s (ziq s g d t))∧∀ j,t≤j→j<ziq s g d t→stN s j<g
 | 0,t=>⟨Nat.le_refl _,Nat.le_refl _,.inl rfl,fun j h1 h2=>absurd h2 (by show ¬ j<t; omega)⟩
 | d+1,t=>by
  unfold ziq
  split
  ·rename_i h
   obtain ⟨h1,h2,h3,h4⟩:=ziX s g d (t+1)
   refine ⟨by omega,by omega,h3.imp (fun e=>by omega) id,fun j a b => ?_⟩
   by_cases e:j=t
   ·rw [e]; exact h
   ·exact h4 j (by omega) b
  ·rename_i h
   exact ⟨Nat.le_refl _,by omega,.inr (by omega),fun j a b=>by omega⟩
def zjA (s:zBA) (a b:Int):Nat→List zBA→Option Int
 | _,[]=>some 0
 | f,q::L=>if q=(⟨#[]⟩:zBA) then none else
   let t:=ziq s (stN s f+(q.size:Int)) ((zaD s).length - f) f
   if stN s t - stN s f≠(q.size:Int) then none else if Rs s a b f t=true then (zjA s a b t L).map (fun c=>(if L=[] then 0 else Ks s a b f t)+c) else none
section
variable {s:zBA} {a b:Int} (hs:s.size≤100000) (ha:0≤a∧a≤1000000) (hb:0≤b∧b≤1000000)
theorem zxQ (f:Nat) (q:zBA) (j4:zBA→Int→Int→Option (Int×Int)) (hs:s.size≤100000):∀ (d t m:Nat),t+d=(zaD s).length→f≤t→d<m→za1 (fun _ _=>none) (zdZ (zfv s a b) j4 q) m (t:Int) (stN s t - stN s f) =
  j4 q (ziq s (stN s f+(q.size:Int)) d t:Int) (stN s (ziq s (stN s f+(q.size:Int)) d t) - stN s f):=by
 have hle:=zlD hs
 intro d
 induction d with
 | zero =>
  intro t m ht hf hm
  obtain ⟨m,rfl⟩:∃ q,m=q+1:=⟨m - 1,by omega⟩
  rw [zen]
  generalize za1 (fun _ _=>none) (zdZ (zfv s a b) j4 q) m=ag
  unfold zdZ
  exact zaK (decide_eq_false (by show ¬ ((t:Int)<((zaD s).length:Int)); omega)) rfl
 | succ d ih =>
  intro t m ht hf hm
  obtain ⟨m,rfl⟩:∃ q,m=q+1:=⟨m - 1,by omega⟩
  have ih':=ih (t+1) m (by omega) (by omega) (by omega)
  rw [zen]
  generalize za1 (fun _ _=>none) (zdZ (zfv s a b) j4 q) m=ag at ih' ⊢
  have hx:(zaD s)[t]?=some (zaD s)[t]:=List.getElem?_eq_getElem (by omega)
  obtain ⟨h1,h2,h3,h4,h5⟩:=zrf s hx
  have hf0:=zl9 s (k:=f) (by omega)
  unfold zdZ ziq
  refine zaR (decide_eq_true (by show (t:Int)<((zaD s).length:Int); omega)) ?_
  by_cases h:stN s t<stN s f+(q.size:Int)
  ·rw [if_pos h]
   refine zaR (decide_eq_true (by omega)) (za7 (zeD hx) (zcm ⟨by omega,by omega⟩ (zcm ⟨by omega,by omega⟩ (zcm ⟨by omega,by omega⟩ ?_))))
   rw [show stN s t - stN s f+((zaD s)[t].Span_To - (zaD s)[t].Span_From)=stN s (t+1) - stN s f by omega,show (t:Int)+1=((t+1:Nat):Int) by omega]
   exact ih'
  ·rw [if_neg h]
   exact zaK (decide_eq_false (by omega)) rfl
def zBs (j:Int→Option (Int×Int)) (c:Int):Option Int→Option (Int×Int)
 | none=>some (0,2)
 | some x=>j (c+x)
include hs ha hb
theorem zun (rows:List zBA) (hl:rows.length≤100000) (j2:Int→Option (Int×Int)):∀ (L pre:List zBA) (f m:Nat) (c:Int),rows=pre++L→f≤(zaD s).length→L.length<m→0≤c∧c≤2000000000000*pre.length →
  za1 (fun _ _ _=>none) (zd0 rows j2 (zfv s a b)) m c (f:Int) (pre.length:Int)=zBs j2 c (zjA s a b f L)
 | [],pre,f,m,c,h,hf,hm,hc=>by
  obtain ⟨m,rfl⟩:∃ q,m=q+1:=⟨m - 1,by simp at hm; omega⟩
  rw [List.append_nil] at h; subst h
  rw [zen]
  generalize za1 (fun _ _ _=>none) (zd0 rows j2 (zfv s a b)) m=ag
  unfold zd0
  refine zaK zxg ?_
  show j2 c=j2 (c+0)
  rw [Int.add_zero]
 | q::L,pre,f,m,c,h,hf,hm,hc=>by
  obtain ⟨m,rfl⟩:∃ q,m=q+1:=⟨m - 1,by simp at hm; omega⟩
  have hle:=zlD hs
  obtain ⟨g1,g2,g3,g4⟩:=ziX s (stN s f+(q.size:Int)) ((zaD s).length - f) f
  have ih:=fun c' hc'=>zun rows hl j2 L (pre++[q]) (ziq s (stN s f+(q.size:Int)) ((zaD s).length - f) f) m c' (by rw [h]; simp) (by omega) (by simp at hm; omega) hc'
  have hin:=fun j4=>zxQ (s:=s) (a:=a) (b:=b) f q j4 hs ((zaD s).length - f) f zcD (by omega) (Nat.le_refl _) (by have:=zdI (n:=(zaD s).length) (by omega); omega)
  have hK:=zhe hs ha hb f (ziq s (stN s f+(q.size:Int)) ((zaD s).length - f) f)
  have hg:rows[pre.length]?=some q:=by rw [h]; simp
  have hpl:=zrv hg
  rw [zen]
  rw [show (((pre++[q]).length:Nat):Int)=(pre.length:Int)+1 by simp] at ih
  generalize za1 (fun _ _ _=>none) (zd0 rows j2 (zfv s a b)) m=ag at ih ⊢
  unfold zd0 zjA
  refine zaR (zss hg) (zcj (zcj (za7 (zeD hg) ?_)))
  rw [Int.sub_self] at hin
  rw [hin]
  generalize ziq s (stN s f+(q.size:Int)) ((zaD s).length - f) f=t at *
  by_cases he:q=(⟨#[]⟩:zBA)
  ·rw [if_pos he]; exact zaR (decide_eq_true he) rfl
  rw [if_neg he]
  refine zaK (decide_eq_false he) ?_
  simp only
  by_cases hz:stN s t - stN s f=(q.size:Int)
  ·have hqs:0<q.size:=by
    rcases Nat.eq_zero_or_pos q.size with h0 | h0
    ·exact absurd (ByteArray.ext (Array.eq_empty_of_size_eq_zero h0)) he
    ·exact h0
   have hft:f<t:=by
    rcases Nat.lt_or_ge f t with h' | h'
    ·exact h'
    ·have:t=f:=by omega
     rw [this] at hz; omega
   rw [if_neg (by omega)]
   refine zaK (zAe hz) (za7 (zwj hs f t hft (by omega)) ?_)
   have hRs:Rs s a b f t=zqj (spB s) (zaD s) a b f t:=rfl
   rw [hRs]
   cases hR:zqj (spB s) (zaD s) a b f t with
   | false=>exact zaR rfl (by rw [if_neg (by decide)]; rfl)
   | true =>
    rw [if_pos rfl]
    refine zaK rfl (zcj (zcm ⟨by omega,by omega⟩ ?_))
    by_cases hL:L=[]
    ·rw [if_pos hL]
     refine zaK (decide_eq_false (by rw [h,hL]; simp)) (zcm ⟨by omega,by omega⟩ ?_)
     rw [ih c ⟨hc.1,by omega⟩]
     cases zjA s a b t L with
     | none=>rfl
     | some x=>show j2 (c+x)=j2 (c+(0+x)); rw [Int.zero_add]
    ·rw [if_neg hL]
     have hLl:0<L.length:=List.length_pos_iff.2 hL
     have hrl:rows.length=pre.length+(1+L.length):=by rw [h]; simp; omega
     refine zaR (decide_eq_true (by omega)) (za7 (zuo hs ha hb f t hft (by omega)) (zcm ⟨by omega,by omega⟩ (zcm ⟨by omega,by omega⟩ ?_)))
     rw [ih (c+zqQ (spB s) (zaD s) a b f t) ⟨by omega,by omega⟩]
     cases zjA s a b t L with
     | none=>rfl
     | some x=>show j2 (c+_+x)=j2 (c+(_+x)); rw [Int.add_assoc]
  ·rw [if_pos hz]
   exact zaR (zAd hz) rfl
theorem znV:∀ (L:List zBA) (f:Nat) (c:Int),f≤(zaD s).length→stN s f+zf1 L=(s.size:Int)→zjA s a b f L=some c→(L=[]∧f=(zaD s).length)∨(f<(zaD s).length∧0≤(TT s a b f).rows∧(TT s a b f).cost≤c)
 | [],f,c,hf,hz,h=>by
  refine .inl ⟨rfl,zs7 hf (Nat.le_refl _) ?_⟩
  rw [zuZ]
  have:stN s f+((0:Nat):Int)=(s.size:Int):=hz
  omega
 | q::L,f,c,hf,hz,h=>by
  obtain ⟨g1,g2,g3,g4⟩:=ziX s (stN s f+(q.size:Int)) ((zaD s).length - f) f
  unfold zjA at h
  split at h
  ·cases h
  rename_i he
  simp only at h
  generalize ziq s (stN s f+(q.size:Int)) ((zaD s).length - f) f=t at *
  split at h
  ·cases h
  rename_i hq
  split at h
  ·rename_i hR
   have hqs:0<q.size:=by
    rcases Nat.eq_zero_or_pos q.size with h0 | h0
    ·exact absurd (ByteArray.ext (Array.eq_empty_of_size_eq_zero h0)) he
    ·exact h0
   have hq':stN s t - stN s f=(q.size:Int):=by omega
   have hft:f<t:=by
    rcases Nat.lt_or_ge f t with h' | h'
    ·exact h'
    ·have:t=f:=by omega
     rw [this] at hq'; omega
   have hz':stN s f+((q.size+zf1 L:Nat):Int)=(s.size:Int):=hz
   have hm:=zwJ (R:=Rs s a b) (K:=Ks s a b) (n:=(zaD s).length) (zhe hs ha hb) hft (by omega) hR
   cases hc:zjA s a b t L with
   | none=>rw [hc] at h; cases h
   | some c' =>
    rw [hc] at h
    have e:=Option.some.inj h
    simp only at e
    refine .inr ⟨by omega,?_⟩
    rcases znV L t c' (by omega) (by omega) hc with ⟨h1,h2⟩ | ⟨h1,h2,h3⟩
    ·rw [if_pos h1] at e
     have h0:c'=0:=by rw [h1] at hc; exact (Option.some.inj hc).symm
     have:=hm.1 h2
     exact ⟨this.1,by show (BB (Rs s a b) (Ks s a b) (zaD s).length f).cost≤c; omega⟩
    ·have h9:(BB (Rs s a b) (Ks s a b) (zaD s).length t).cost≤c':=h3
     have hL:L≠[]:=by
      intro e0
      rw [e0] at hz'
      have h0:stN s f+((q.size+0:Nat):Int)=(s.size:Int):=hz'
      have:stN s t=stN s (zaD s).length:=by rw [zuZ]; omega
      have:=zs7 (by omega) (Nat.le_refl _) this
      omega
     rw [if_neg hL] at e
     have:=hm.2 h1 h2
     exact ⟨this.1,by show (BB (Rs s a b) (Ks s a b) (zaD s).length f).cost≤c; omega⟩
  ·cases h
end
def zku (l:zaO):Bool:=decide ((8:Int)≤l.Width)&&(decide ((l.Width:Int)≤256)&&(decide ((4:Int)≤l.Height)&&(decide ((l.Height:Int)≤200)&&(decide ((0:Int)≤l.Turn)&&(decide ((l.Turn:Int)≤7)&&(decide ((0:Int)≤l.Every)&&decide ((l.Every:Int)≤512)))))))
theorem zqU (c d:Bool) (r:Option Bool) (h:r=some d):zaB c r (some false)=some (c&&d):=by
 cases c
 ·rfl
 ·exact h
theorem zxf (l:zaO):zgm l=some (zku l):=by
 unfold zgm zku
 exact zqU _ _ _ (zqU _ _ _ (zqU _ _ _ (zqU _ _ _ (zqU _ _ _ (zqU _ _ _ (zqU _ _ _ rfl))))))
theorem zru {l:zaO} (h:zku l=true):(8≤l.Width∧l.Width≤256)∧0≤l.Turn∧l.Turn≤7:=by
 unfold zku at h
 simp only [Bool.and_eq_true,decide_eq_true_eq] at h
 omega
abbrev zm4 (i:Int) (l:zaO):Int:=max 1 (l.Width - i)
abbrev zm3 (l:zaO):Int:=l.Width - l.Turn
theorem zm7 {i:Int} {l:zaO} (hm:zku l=true) (hi:0≤i∧i≤1024):I64 (l.Width - i)∧(0≤zm4 i l∧zm4 i l≤1000000)∧(0≤zm3 l∧zm3 l≤1000000):=by
 have:=zru hm
 refine ⟨⟨by omega,by omega⟩,?_,?_⟩
 ·show 0≤max 1 (l.Width - i)∧max 1 (l.Width - i)≤1000000
  omega
 ·show 0≤l.Width - l.Turn∧l.Width - l.Turn≤1000000
  omega
abbrev zqi (s:zBA) (i:Int) (l:zaO):List zBA:=zgg s 0 (zlC s (zm4 i l) (zm3 l))
theorem zzJ (s:zBA) (i:Int) (l:zaO):zg8 s i l=some (if zku l=true∧0≤i∧i≤1024∧s.size≤1024 then (zqi s i l,(TT s (zm4 i l) (zm3 l) 0).cost,0) else ([],0,2)):=by
 unfold zg8
 refine za7 (zxf l) ?_
 cases hm:zku l with
 | false=>exact zaR rfl (by rw [if_neg (fun h=>by cases h.1)])
 | true =>
  refine zaK rfl ?_
  by_cases h1:i<0
  ·exact zaR (decide_eq_true h1) (by rw [if_neg (fun h=>by omega)])
  refine zaK (decide_eq_false h1) ?_
  by_cases h2:1024<i
  ·exact zaR (decide_eq_true h2) (by rw [if_neg (fun h=>by omega)])
  refine zaK (decide_eq_false h2) ?_
  by_cases h3:(1024:Int)<(s.size:Int)
  ·exact zaR (decide_eq_true h3) (by rw [if_neg (fun h=>by omega)])
  refine zaK (decide_eq_false h3) ?_
  obtain ⟨g1,g2,g3⟩:=zm7 hm (i:=i) ⟨by omega,by omega⟩
  refine za7 (zvT s (by omega) i l g1 g2 g3) ?_
  rw [if_pos ⟨rfl,by omega,by omega,by omega⟩]
theorem zol:∀ A B:List zBA,zf1 (A++B)=zf1 A+zf1 B
 | [],B=>by show zf1 B=0+zf1 B; omega
 | x::A,B=>by show x.size+zf1 (A++B)=x.size+zf1 A+zf1 B; rw [zol A B]; omega
theorem zum (L:List zBA) (hl:L.length≤2147483648) (hb:∀ x∈L,x.size≤140737488355328) (j:Option (Int×Int)):∀ (ts pre:List zBA) (m:Nat),L=pre++ts→ts.length<m→zf1 pre≤1024 →
  za1 (fun _ _=>none) (zd1 L j) m (zf1 pre:Int) (pre.length:Int)=if zf1 L≤1024 then j else some (0,2)
 | [],pre,m,h,hm,hp=>by
  obtain ⟨m,rfl⟩:∃ q,m=q+1:=⟨m - 1,by simp at hm; omega⟩
  rw [List.append_nil] at h; subst h
  rw [zen]
  generalize za1 (fun _ _=>none) (zd1 L j) m=ag
  unfold zd1
  rw [if_pos hp]
  exact zaK zxg rfl
 | t::ts,pre,m,h,hm,hp=>by
  obtain ⟨m,rfl⟩:∃ q,m=q+1:=⟨m - 1,by simp at hm; omega⟩
  have h1:zf1 (pre++[t])=zf1 pre+t.size:=by rw [zol]; show zf1 pre+(t.size+0)=_; omega
  have h2:zf1 L=zf1 pre+(t.size+zf1 ts):=by rw [h,zol]; rfl
  have ih:=fun q=>zum L hl hb j ts (pre++[t]) m (by rw [h]; simp) (by simp at hm; omega) q
  rw [zen]
  generalize za1 (fun _ _=>none) (zd1 L j) m=ag at ih ⊢
  have hg:L[pre.length]?=some t:=by rw [h]; simp
  have hpl:=zrv hg
  have hbt:=hb t (List.mem_of_getElem? hg)
  rw [h1,show (((pre++[t]).length:Nat):Int)=(pre.length:Int)+1 by simp] at ih
  unfold zd1
  refine zaR (zss hg) (za7 (zeD hg) (zcm ⟨by omega,by omega⟩ ?_))
  by_cases hc:(1024:Int)<(zf1 pre:Int)+(t.size:Int)
  ·refine zaR (decide_eq_true hc) ?_
   rw [if_neg (by omega)]
  ·refine zaK (decide_eq_false hc) (zcm ⟨by omega,by omega⟩ ?_)
   rw [show (zf1 pre:Int)+(t.size:Int)=((zf1 pre+t.size:Nat):Int) by omega]
   exact ih (by omega)
def zBg:Option Int→Int×Int
 | none=>(0,2)
 | some c=>(c,0)
theorem zwI (L:List zBA) (hl:L.length≤100000) (hb:∀ x∈L,x.size≤140737488355328) (i:Int) (l:zaO):zgn L i l=some (if zku l=true∧0≤i∧i≤1024∧zf1 L≤1024 then zBg (zjA (zij L) (zm4 i l) (zm3 l) 0 L) else (0,2)):=by
 unfold zgn
 have hz:=fun j=>zum L (by omega) hb j L [] zcD rfl (by have:=zdI (n:=L.length) (by omega); omega) (Nat.zero_le _)
 refine zcj ((hz _).trans ?_)
 by_cases hs:zf1 L≤1024
 ·rw [if_pos hs]
  refine za7 (zxf l) ?_
  cases hm:zku l with
  | false=>exact zaR rfl (by rw [if_neg (fun h=>by cases h.1)])
  | true =>
   refine zaK rfl ?_
   by_cases h1:i<0
   ·exact zaR (decide_eq_true h1) (by rw [if_neg (fun h=>by omega)])
   refine zaK (decide_eq_false h1) ?_
   by_cases h2:1024<i
   ·exact zaR (decide_eq_true h2) (by rw [if_neg (fun h=>by omega)])
   refine zaK (decide_eq_false h2) (zcj (za7 (zwq L (by omega) (by omega)) ?_))
   obtain ⟨g1,g2,g3⟩:=zm7 hm (i:=i) ⟨by omega,by omega⟩
   have hcs:=zkn L
   have hmr:=zru hm
   refine za7 (zmr (zij L) (by omega) i l g1 ⟨by omega,by omega⟩) ?_
   have:=zun (s:=zij L) (a:=zm4 i l) (b:=zm3 l) (by omega) g2 g3 L hl (fun (cost1:Int)=>some (cost1,0)) L [] 0 zcD 0 rfl (Nat.zero_le _) (by have:=zdI (n:=L.length) (by omega); omega) ⟨Int.le_refl _,by simp⟩
   rw [if_pos ⟨rfl,by omega,by omega,hs⟩]
   refine this.trans ?_
   cases zjA (zij L) (zm4 i l) (zm3 l) 0 L with
   | none=>rfl
   | some x=>show some ((0:Int)+x,(0:Int))=some (x,0); rw [Int.zero_add]
 ·rw [if_neg hs,if_neg (fun h=>hs h.2.2.2)]
section
variable {R:Nat→Nat→Bool} {K:Nat→Nat→Int} {n:Nat}
end
section
variable {s:zBA} {a b:Int} (hs:s.size≤100000) (ha:0≤a∧a≤1000000) (hb:0≤b∧b≤1000000)
include hs ha hb
end
section
variable {R:Nat→Nat→Bool} {K:Nat→Nat→Int} {n:Nat} (hK:∀ f t,0≤K f t∧K f t≤2000000000000) (h1:∀ f,f<n→R f (f+1)=true)
include hK h1
theorem zoT:∀ (k t:Nat),n≤t+k→t≤n→0≤(Bf R K n k t).rows
 | 0,t,_,_=>Int.le_refl _
 | k+1,t,h,ht=>by
  rw [zhB]
  split
  ·rename_i he
   have hl:=(zoy (R:=R) (K:=K) (n:=n) (T:=Bf R K n k) (f:=t) (fun t y h=>(zjB hK (zp2 hK k) h).2) (n - t) (t+1) bm).2
   have hf:=zoT k (t+1) (by omega)
   by_cases hn:t+1<n
   ·have hc:zhP R K n (Bf R K n k) t (t+1)=some ⟨K t (t+1)+(Bf R K n k (t+1)).cost,(Bf R K n k (t+1)).rows+1,((t+1:Nat):Int)⟩:=by
     unfold zhP
     have:=hf (by omega)
     rw [if_pos (h1 t (by omega)),if_pos hn,if_neg (by omega)]
    exact (hl (t+1) _ (Nat.le_refl _) (by omega) hc).1
   ·have hc:zhP R K n (Bf R K n k) t (t+1)=some ⟨0,1,((t+1:Nat):Int)⟩:=by
     unfold zhP
     rw [if_pos (h1 t (by omega)),if_neg hn]
    exact (hl (t+1) _ (Nat.le_refl _) (by omega) hc).1
  ·exact zoT k t (by omega) ht
theorem zx5 (t:Nat) (ht:t≤n):0≤(BB R K n t).rows:=zoT hK h1 n t (by omega) ht
theorem zuO {f:Nat} (hf:f<n):∃ t:Nat,(BB R K n f).to_=(t:Int)∧f<t∧t≤n∧R f t=true:=by
 obtain ⟨t,h2,h3,h4,h5,_⟩:=zzN (R:=R) (K:=K) hK hf (zx5 hK h1 f (by omega))
 exact ⟨t,h2,h3,h4,h5⟩
end
def zsD (T:Nat→Bst) (n:Nat):Nat→Nat→List Nat
 | 0,_=>[]
 | m+1,f=>if f<n then (T f).to_.toNat::zsD T n m (T f).to_.toNat else []
def zq2 (R:Nat→Nat→Bool) (n:Nat):Nat→List Nat→Prop
 | f,[]=>f=n
 | f,t::ts=>f<t∧t≤n∧R f t=true∧zq2 R n t ts
theorem zi1 {R:Nat→Nat→Bool} {K:Nat→Nat→Int} {n:Nat} (hK:∀ f t,0≤K f t∧K f t≤2000000000000) (h1:∀ f,f<n→R f (f+1)=true):∀ (m f:Nat),f≤n→n≤f+m→zq2 R n f (zsD (BB R K n) n m f)
 | 0,f,hf,hm=>show f=n by omega
 | m+1,f,hf,hm=>by
  unfold zsD
  split
  ·rename_i h
   obtain ⟨t,h2,h3,h4,h5⟩:=zuO hK h1 h
   rw [h2,Int.toNat_natCast]
   exact ⟨h3,h4,h5,zi1 hK h1 m t h4 (by omega)⟩
  ·show f=n; omega
theorem zyF (R:Nat→Nat→Bool) (K:Nat→Nat→Int) (n:Nat):zg1 (Bf R K n 0) n=List.replicate (n+1) b0:=by
 apply List.ext_getElem?
 intro j
 by_cases hj:j≤n
 ·rw [zfI _ _ j hj,List.getElem?_replicate,if_pos (by omega)]; rfl
 ·rw [List.getElem?_eq_none (by rw [zhR]; omega),List.getElem?_eq_none (by rw [List.length_replicate]; omega)]
section
variable {s:zBA} {a b:Int} (hs:s.size≤100000) (ha:0≤a∧a≤1000000) (hb:0≤b∧b≤1000000)
include hs ha hb
theorem znU:∀ (m f:Nat),zqE s a b f→f≤(zaD s).length→(zaD s).length≤f+m→zjA s a b f (zgg s f (zjc s a b m f))=some (TT s a b f).cost
 | 0,f,hfe,hf,hm=>by
  have:f=(zaD s).length:=by omega
  subst this
  show some (0:Int)=some (BB _ _ _ _).cost
  rw [zA8]; rfl
 | m+1,f,hfe,hf,hm=>by
  unfold zjc
  by_cases h:f<(zaD s).length
  ·obtain ⟨t,h1,h2,h3,h4,h5,h6,h7⟩:=zoJ hs ha hb hfe h
   rw [if_pos h,h1,Int.toNat_natCast]
   have ih:=znU m t h5 h3 (by omega)
   have hl:=zjf s (t - f) f (by omega)
   rw [show f+(t - f)=t by omega] at hl
   have r1:=zl9 s (k:=f) (by omega)
   have r2:=zl9 s (k:=t) h3
   have hsz:((zm9 s f t).size:Int)=stN s t - stN s f:=by
    unfold zm9
    obtain ⟨p,hp⟩:∃ p:Nat,stN s f=p:=⟨(stN s f).toNat,by omega⟩
    obtain ⟨q,hq⟩:∃ q:Nat,stN s t=(p:Int)+q:=⟨(stN s t - p).toNat,by omega⟩
    have hc:=congrArg List.length (zgD s p q)
    rw [List.length_take,List.length_drop] at hc
    simp only [Array.length_toList] at hc
    rw [hp,hq]
    show ((zdR s p ((p:Int)+q)).data.size:Int)=_
    have:s.data.size=s.size:=rfl
    rw [hc]; omega
   have hseek:ziq s (stN s f+((zm9 s f t).size:Int)) ((zaD s).length - f) f=t:=by
    obtain ⟨g1,g2,g3,g4⟩:=ziX s (stN s f+((zm9 s f t).size:Int)) ((zaD s).length - f) f
    generalize ziq s (stN s f+((zm9 s f t).size:Int)) ((zaD s).length - f) f=t' at *
    rcases Nat.lt_trichotomy t' t with h' | h' | h'
    ·rcases g3 with g3 | g3
     ·omega
     ·have:=zjf s (t - t') t' (by omega)
      rw [show t'+(t - t')=t by omega] at this
      omega
    ·exact h'
    ·have:=g4 t (by omega) h'
     omega
   show zjA s a b f (zm9 s f t::zgg s t (zjc s a b m t))=_
   unfold zjA
   rw [if_neg (by intro e; rw [e] at hsz; have:((⟨#[]⟩:zBA).size:Int)=0:=rfl; omega)]
   simp only
   rw [hseek,if_neg (by omega),if_pos h4,ih]
   show some ((if zgg s t (zjc s a b m t)=[] then (0:Int) else Ks s a b f t)+(TT s a b t).cost)=_
   by_cases htn:t<(zaD s).length
   ·have hm1:1≤m:=by omega
    have hne:zgg s t (zjc s a b m t)≠[]:=by
     obtain ⟨m',rfl⟩:∃ m',m=m'+1:=⟨m - 1,by omega⟩
     unfold zjc
     rw [if_pos htn]
     exact List.cons_ne_nil _ _
    rw [if_neg hne,h6 htn]
   ·have e:t=(zaD s).length:=by omega
    have he:zjc s a b m t=[]:=by
     cases m with
     | zero=>rfl
     | succ m'=>unfold zjc; rw [if_neg htn]
    rw [he]
    have hz:(TT s a b t).cost=0:=by
     show (BB _ _ _ _).cost=0
     rw [e,zA8]; rfl
    rw [hz,h7 e]; rfl
  ·rw [if_neg h]
   have:f=(zaD s).length:=by omega
   subst this
   show some (0:Int)=some (BB _ _ _ _).cost
   rw [zA8]; rfl
end
theorem zpG (s:zBA):zdR s 0 (s.size:Int)=s:=by
 apply ByteArray.ext; apply Array.toList_inj.1
 have:=zgD s 0 s.size
 rw [show ((0:Nat):Int)=0 from rfl,Int.zero_add,List.drop_zero] at this
 rw [this,List.take_of_length_le (by simp)]
theorem zpF (s:zBA) (a b c:Int) (h:0≤a∧a≤b∧b≤c):zdR s a b++zdR s b c=zdR s a c:=by
 obtain ⟨p,rfl⟩:∃ p:Nat,a=p:=⟨a.toNat,by omega⟩
 obtain ⟨m,rfl⟩:∃ m:Nat,b=(p:Int)+m:=⟨(b - p).toNat,by omega⟩
 obtain ⟨n,rfl⟩:∃ n:Nat,c=((p+m:Nat):Int)+n:=⟨(c - p - m).toNat,by omega⟩
 apply ByteArray.ext; apply Array.toList_inj.1
 have h1:=zgD s p m
 have h2:=zgD s (p+m) n
 have h3:=zgD s p (m+n)
 rw [show (p:Int)+((m+n:Nat):Int)=((p+m:Nat):Int)+(n:Int) by omega] at h3
 rw [show ((p+m:Nat):Int)=(p:Int)+(m:Int) by omega] at h2 h3 ⊢
 rw [ByteArray.data_append,Array.toList_append,h1,h2,h3,List.take_add,List.drop_drop]
theorem zvC (s:zBA) (a:Int) (h:0≤a):zdR s a a=⟨#[]⟩:=by
 obtain ⟨p,rfl⟩:∃ p:Nat,a=p:=⟨a.toNat,by omega⟩
 apply ByteArray.ext; apply Array.toList_inj.1
 have:=zgD s p 0
 rw [show (p:Int)+((0:Nat):Int)=(p:Int) by omega] at this
 rw [this]; rfl
theorem zpK (s:zBA):∀ (ts:List Nat) (f:Nat),zye (zaD s).length f ts→f≤(zaD s).length→zij (zgg s f ts)=zdR s (stN s f) (stN s (ts.getLastD f))
 | [],f,_,hf=>by
  have:=zl9 s hf
  show (⟨#[]⟩:zBA)=zdR s (stN s f) (stN s f)
  rw [zvC s _ this.1]
 | t::ts,f,⟨h1,h2,h3⟩,hf=>by
  have ih:=zpK s ts t h3 h2
  have hl:=zjf s (t - f) f (by omega)
  rw [show f+(t - f)=t by omega] at hl
  have hr:=zl9 s hf
  have hmono:∀ (ts:List Nat) (t:Nat),zye (zaD s).length t ts→t≤(zaD s).length→stN s t≤stN s (ts.getLastD t):=by
   intro ts
   induction ts with
   | nil=>intro t _ _; exact Int.le_refl _
   | cons u us ih =>
    intro t ⟨g1,g2,g3⟩ _
    have:=ih u g3 g2
    have hl:=zjf s (u - t) t (by omega)
    rw [show t+(u - t)=u by omega] at hl
    rw [List.getLastD_cons]; omega
  have:=hmono ts t h3 h2
  show zdR s (stN s f) (stN s t)++zij (zgg s t ts)=_
  rw [ih,List.getLastD_cons,zpF s _ _ _ ⟨hr.1,by omega,this⟩]
section
variable {s:zBA} {a b:Int} (hs:s.size≤100000) (ha:0≤a∧a≤1000000) (hb:0≤b∧b≤1000000)
include hs ha hb
theorem zpx:∀ (m f:Nat),zqE s a b f→f≤(zaD s).length→(zaD s).length≤f+m→(zjc s a b m f).getLastD f=(zaD s).length
 | 0,f,_,hf,hm=>by show f=_; omega
 | m+1,f,hfe,hf,hm=>by
  unfold zjc
  split
  ·rename_i h
   obtain ⟨t,h1,h2,h3,h4,h5,_⟩:=zoJ hs ha hb hfe h
   rw [h1,Int.toNat_natCast,List.getLastD_cons]
   exact zpx m t h5 h3 (by omega)
  ·show f=_; omega
theorem zkm:zij (zgg s 0 (zlC s a b))=s:=by
 rw [zpK s _ 0 (ziP hs ha hb _ 0 (zqF hs ha hb) (Nat.zero_le _)) (Nat.zero_le _),zpx hs ha hb _ 0 (zqF hs ha hb) (Nat.zero_le _) (by omega),zwY,zuZ,zpG]
end
end Go.Proofs.YtmmhmppcemfdcaaGreatDoor
