/-
  Texts laid together: LfA, PlA, Ql, LfF, LfG, LfP, LfT, Qt, PlB, Qa, Qb, Qc, Qd, LfR, Qr, LfU, Qe, LfW2, LfS, Qf, Qg, Qh, Qk, LfW0, LfW1, LfSa, Qi, LfG2, LfW3, LfSg, Qj, Qw, Qs, Qp, Qu, Qz, LpR. Nothing is assumed.
-/
import Derived.Test.YtifpjbgnikjglaaDoorCollateBack2
set_option maxRecDepth 100000
set_option maxHeartbeats 4000000
namespace Go.Proofs.YtifpjbgnikjglaaDoor
abbrev zI (x : Int) : Value := .int .i64 x
abbrev zP (x : Nat) : Value := .pointer (some ⟨x, 0, none⟩)
end Go.Proofs.YtifpjbgnikjglaaDoor
namespace Go.Proofs.YtifpjbgnikjglaaDoor
open Go.RowKit Go.Lib
open Tryd
set_option linter.unusedVariables false
set_option linter.unusedSimpArgs false
end Go.Proofs.YtifpjbgnikjglaaDoor


namespace Go.Proofs.YtifpjbgnikjglaaDoor
open Go.RowKit Go.Lib
open Tryd
set_option linter.unusedVariables false
set_option linter.unusedSimpArgs false
section
variable {R S:Type} {c:Prop} [Decidable c] {o x z:Option R} {p:Option S} {f:S→Option R} {b:Bool} {y:Option R}
theorem zct (h:c) (ho:o=x):grd c o=x:=(zr9 h).trans ho
theorem zaR {a:S} (h:p=some a) (hf:f a=x):zak p f=x:=(zt6 h).trans hf
theorem zaL (hb:b=true) (h:x=z):zat b x y=z:=(zv6 hb).trans h
theorem zaF (hb:b=false) (h:y=z):zat b x y=z:=(zv7 hb).trans h
theorem zb8 {T:Type} {t:T→Option R} {k:T} (h:t k=x):zbF t k=x:=h
theorem zfO {T:Type} {bot:T} {step:T→T} {n:Nat}:zaU bot step (n+1)=step (zaU bot step n):=rfl
theorem zse (k:Nat) (h:k≤1000):∃ n,zcG=n+k∧18446744073709550000≤n:=⟨18446744073709551616 - k,by unfold zcG; omega,by omega⟩
end
def vr (r:Int):Prop:=(0≤r∧r<55296)∨(57343<r∧r≤1114111)
instance (r:Int):Decidable (vr r):=by unfold vr; infer_instance
def wd (r:Int):Int:=if vr r then (if r<128 then 1 else if r<2048 then 2 else if r<65536 then 3 else 4) else 0
theorem zh2 {l:List Int} {s:zBA} (h:l.map (fun x=>UInt8.ofNat x.toNat)=s.data.toList):zcZ l=s:=by
 apply ByteArray.ext; unfold zcZ; simp [h]
section
variable {R X A B:Type} {xs:List X}
theorem zht {k:Nat} {x:X} (h:xs[k]?=some x):zd7 xs (k:Int)=some x:=zdq h
theorem zlD {k:Nat} {x:X} (h:xs[k]?=some x):decide ((k:Int)<(xs.length:Int))=true:=decide_eq_true (by have:=(List.getElem?_eq_some_iff.1 h).1; omega)
theorem zlE:decide ((xs.length:Int)<(xs.length:Int))=false:=decide_eq_false (by omega)
theorem zf8 {k:Nat} (h:k≤4611686018427387904):I64 ((k:Int)+1):=⟨by omega,by omega⟩
theorem zkb {k:Nat} {x:X} (h:xs[k]?=some x):k<xs.length:=(List.getElem?_eq_some_iff.1 h).1
theorem zrZ {F:(A→Int→Option R)→A→Int→Option R} {bot:A→Int→Option R} {f:A→X→A} {J:A→Option R} (Inv:Nat→A→Prop)
  (hs:∀ ag k x a,xs[k]?=some x→Inv k a→F ag a (k:Int)=ag (f a x) ((k:Int)+1)) (hI:∀ k x a,xs[k]?=some x→Inv k a→Inv (k+1) (f a x))
  (he:∀ ag a,Inv xs.length a→F ag a (xs.length:Int)=J a) {n:Nat} (hn:xs.length<n) {a:A} (h0:Inv 0 a):zaU bot F n a 0=J (xs.foldl f a):=by
 have key:∀ (n k:Nat) (a:A),k≤xs.length→xs.length - k<n→Inv k a→zaU bot F n a (k:Int)=J ((xs.drop k).foldl f a):=by
  intro n
  induction n with
  | zero=>intro k a _ h; omega
  | succ n ih =>
   intro k a hk hn hi
   rw [zfO]
   by_cases h:k<xs.length
   ·have hx:xs[k]?=some xs[k]:=List.getElem?_eq_getElem h
    rw [hs _ k _ a hx hi,List.drop_eq_getElem_cons h,List.foldl_cons]
    exact ih (k+1) _ (by omega) (by omega) (hI k _ a hx hi)
   ·have:k=xs.length:=by omega
    subst this
    rw [he _ a hi,List.drop_length]; rfl
 have:=key n 0 a (Nat.zero_le _) (by omega) h0
 simpa using this
theorem zyf {F:(A→B→Int→Option R)→A→B→Int→Option R} {bot:A→B→Int→Option R} {f:A×B→X→A×B} {J:A→B→Option R} (Inv:Nat→A×B→Prop)
  (hs:∀ ag k x (a:A×B),xs[k]?=some x→Inv k a→F ag a.1 a.2 (k:Int)=ag (f a x).1 (f a x).2 ((k:Int)+1)) (hI:∀ k x a,xs[k]?=some x→Inv k a→Inv (k+1) (f a x))
  (he:∀ ag (a:A×B),Inv xs.length a→F ag a.1 a.2 (xs.length:Int)=J a.1 a.2) {n:Nat} (hn:xs.length<n) {a:A×B} (h0:Inv 0 a):zaU bot F n a.1 a.2 0=J (xs.foldl f a).1 (xs.foldl f a).2:=by
 have key:∀ (n k:Nat) (a:A×B),k≤xs.length→xs.length - k<n→Inv k a→zaU bot F n a.1 a.2 (k:Int)=J ((xs.drop k).foldl f a).1 ((xs.drop k).foldl f a).2:=by
  intro n
  induction n with
  | zero=>intro k a _ h; omega
  | succ n ih =>
   intro k a hk hn hi
   rw [zfO]
   by_cases h:k<xs.length
   ·have hx:xs[k]?=some xs[k]:=List.getElem?_eq_getElem h
    rw [hs _ k _ a hx hi,List.drop_eq_getElem_cons h,List.foldl_cons]
    exact ih (k+1) _ (by omega) (by omega) (hI k _ a hx hi)
   ·have:k=xs.length:=by omega
    subst this
    rw [he _ a hi,List.drop_length]; rfl
 have:=key n 0 a (Nat.zero_le _) (by omega) h0
 simpa using this
theorem zzF {F:(Int→Option R)→Int→Option R} {bot:Int→Option R} {g:X→Option (Option R)} {J:Option R}
  (hs:∀ (ag:Int→Option R) (k:Nat) (x:X),xs[k]?=some x→F ag (k:Int)=(g x).getD (ag ((k:Int)+1))) (he:∀ ag,F ag (xs.length:Int)=J) {n:Nat} (hn:xs.length<n):zaU bot F n 0=(xs.findSome? g).getD J:=by
 have key:∀ (n k:Nat),k≤xs.length→xs.length - k<n→zaU bot F n (k:Int)=((xs.drop k).findSome? g).getD J:=by
  intro n
  induction n with
  | zero=>intro k _ h; omega
  | succ n ih =>
   intro k hk hn
   rw [zfO]
   by_cases h:k<xs.length
   ·have hx:xs[k]?=some xs[k]:=List.getElem?_eq_getElem h
    rw [hs _ k _ hx,List.drop_eq_getElem_cons h,List.findSome?_cons]
    have:=ih (k+1) (by omega) (by omega)
    push_cast at this
    rw [this]
    cases g xs[k] <;> rfl
   ·have:k=xs.length:=by omega
    subst this
    rw [he,List.drop_length]; rfl
 have:=key n 0 (Nat.zero_le _) (by omega)
 simpa using this
end
theorem zfs {n:Nat} (h:n≤4611686018427387904):n<zcG:=by unfold zcG; omega
end Go.Proofs.YtifpjbgnikjglaaDoor


namespace Go.Proofs.YtifpjbgnikjglaaDoor
open Go.RowKit Go.Lib
open Tryd
set_option linter.unusedVariables false
set_option linter.unusedSimpArgs false
theorem zaK {F:Fence} {P:Program} {w0:World} {K:Nat→Prop} {N:Nat} {dfs:List Deferred} {Q:Exit→Act→World→Prop} {σ:List (Nat×Value)} {L:List Asn} {ops:Array Oper} {vals:List (Nat×Nat×Value)} {D:Nat→Prop} (m:Nat) {i t:Nat} {v:Value} (hu:zcS (vals.map (fun p=>p.2.1))=true) (hi:zcS (vals.map (fun p=>p.1))=true) (hm:vals[m]?=some (i,t,v):=by exact rfl) :
    TO F P w0 K N dfs ops (Exit.then (fun a w=>At N dfs (Go.Proofs.YtifpjbgnikjglaaDoor.dl (fun j=>D j∨j=i) vals++σ) a∧Holds w0 K L w) Q) [] ((t,v)::(Go.Proofs.YtifpjbgnikjglaaDoor.dl D vals++σ)) L:=zkJ m hu hi hm
theorem zba {P:Program} {F:Fence} {w0:World} {K:Nat→Prop} {N:Nat} {σ:List (Nat×Value)} {L:List Asn} {fn:Func} {V:Unit→Value} {Bs:Unit→List Asn} {v:Value} (n:Nat) (hrs:fn.results=#[.tmp n]) (hσ:σ.lookup n=some v:=by rfl) (hv:v=V ():=by rfl) (hB:Bs ()=[]:=by rfl) :
    TX w0 K N [] (bodyPostM F 0 P fn (FR P V Bs w0 K)) .ret σ L :=
  zcu (rs:=[.tmp n]) () (.inl rfl) hrs (.cons (.tmp hσ) .nil) hv (by rw [hB]; exact Splits.nil)
theorem zzQ {R RD0 RD:List Asn} {A:Asn} (k:Nat) (h:RdS R RD0 RD) (hs:zfN R [k]=some [A]:=by kernel_rfl):RdS R RD0 (A::RD):=.own (zaa [k] hs rfl) (fun _ _ h=>sepL.one1.1 h) h
theorem zaT {D:Nat→Prop} {S:Nat→Prop} [DecidablePred S] {σ:List (Nat×Value)} {vals:List (Nat×Nat×Value)} {i t:Nat} {v:Value} (m:Nat) (hu:zcS (vals.map (fun p=>p.2.1))=true) (hd:∀ j,S j→D j) (hm:vals[m]?=some (i,t,v):=by exact rfl) (hs:decide (S i)=true:=by exact rfl):(dl D vals++σ).lookup t=some v:=zdZ hu hm (hd i (of_decide_eq_true hs))
theorem za9 {σ:List (Nat×Value)}:∀ {σ':List (Nat×Value)},σ'.map (fun p=>σ.lookup p.1)=σ'.map (fun p=>some p.2)→Sbs σ σ'
  | [],_=>znf
  | (t,v)::σ',h=>zng (List.cons.inj h).1 (za9 (List.cons.inj h).2)
theorem zuO {α:Type} {a0 a1:α} {l l':List α} (h:l=l'):a0::a1::l=a0::a1::l':=by rw [h]
theorem zxN {α:Type} {a0 a1 a2:α} {l l':List α} (h:l=l'):a0::a1::a2::l=a0::a1::a2::l':=by rw [h]
theorem zzV {α:Type} {a0 a1 a2 a3:α} {l l':List α} (h:l=l'):a0::a1::a2::a3::l=a0::a1::a2::a3::l':=by rw [h]
theorem zzU {α:Type} {a0 a1 a2 a3 a4:α} {l l':List α} (h:l=l'):a0::a1::a2::a3::a4::l=a0::a1::a2::a3::a4::l':=by rw [h]
theorem zp9 {α:Type} {a0 a1 a2 a3 a4 a5:α} {l l':List α} (h:l=l'):a0::a1::a2::a3::a4::a5::l=a0::a1::a2::a3::a4::a5::l':=by rw [h]
theorem zzT {α:Type} {a0 a1 a2 a3 a4 a5 a6:α} {l l':List α} (h:l=l'):a0::a1::a2::a3::a4::a5::a6::l=a0::a1::a2::a3::a4::a5::a6::l':=by rw [h]
theorem zzS {α:Type} {a0 a1 a2 a3 a4 a5 a6 a7:α} {l l':List α} (h:l=l'):a0::a1::a2::a3::a4::a5::a6::a7::l=a0::a1::a2::a3::a4::a5::a6::a7::l':=by rw [h]
theorem zzR {α:Type} {a0 a1 a2 a3 a4 a5 a6 a7 a8:α} {l l':List α} (h:l=l'):a0::a1::a2::a3::a4::a5::a6::a7::a8::l=a0::a1::a2::a3::a4::a5::a6::a7::a8::l':=by rw [h]
theorem zzz {α:Type} {a0 a1 a2 a3 a4 a5 a6 a7 a8 a9:α} {l l':List α} (h:l=l'):a0::a1::a2::a3::a4::a5::a6::a7::a8::a9::l=a0::a1::a2::a3::a4::a5::a6::a7::a8::a9::l':=by rw [h]
theorem zzy {α:Type} {a0 a1 a2 a3 a4 a5 a6 a7 a8 a9 a10:α} {l l':List α} (h:l=l'):a0::a1::a2::a3::a4::a5::a6::a7::a8::a9::a10::l=a0::a1::a2::a3::a4::a5::a6::a7::a8::a9::a10::l':=by rw [h]
theorem zzx {α:Type} {a0 a1 a2 a3 a4 a5 a6 a7 a8 a9 a10 a11:α} {l l':List α} (h:l=l'):a0::a1::a2::a3::a4::a5::a6::a7::a8::a9::a10::a11::l=a0::a1::a2::a3::a4::a5::a6::a7::a8::a9::a10::a11::l':=by rw [h]
theorem zz0 {D:Nat→Prop} {i0 t0 i1 t1:Nat} {v0 v1:Value} {r r':List (Nat×Nat×Value)} (h:dl D r=dl D r'):dl D ((i0,t0,v0)::(i1,t1,v1)::r)=dl D ((i0,t0,v0)::(i1,t1,v1)::r'):=zay (fun _=>rfl) (zay (fun _=>rfl) h)
theorem zzl {D:Nat→Prop} {i0 t0 i1 t1 i2 t2:Nat} {v0 v1 v2:Value} {r r':List (Nat×Nat×Value)} (h:dl D r=dl D r'):dl D ((i0,t0,v0)::(i1,t1,v1)::(i2,t2,v2)::r)=dl D ((i0,t0,v0)::(i1,t1,v1)::(i2,t2,v2)::r'):=zay (fun _=>rfl) (zay (fun _=>rfl) (zay (fun _=>rfl) h))
theorem zzZ {D:Nat→Prop} {i0 t0 i1 t1 i2 t2 i3 t3:Nat} {v0 v1 v2 v3:Value} {r r':List (Nat×Nat×Value)} (h:dl D r=dl D r'):dl D ((i0,t0,v0)::(i1,t1,v1)::(i2,t2,v2)::(i3,t3,v3)::r)=dl D ((i0,t0,v0)::(i1,t1,v1)::(i2,t2,v2)::(i3,t3,v3)::r'):=zay (fun _=>rfl) (zay (fun _=>rfl) (zay (fun _=>rfl) (zay (fun _=>rfl) h)))
theorem zzA {D:Nat→Prop} {i0 t0 i1 t1 i2 t2 i3 t3 i4 t4:Nat} {v0 v1 v2 v3 v4:Value} {r r':List (Nat×Nat×Value)} (h:dl D r=dl D r'):dl D ((i0,t0,v0)::(i1,t1,v1)::(i2,t2,v2)::(i3,t3,v3)::(i4,t4,v4)::r)=dl D ((i0,t0,v0)::(i1,t1,v1)::(i2,t2,v2)::(i3,t3,v3)::(i4,t4,v4)::r'):=zay (fun _=>rfl) (zay (fun _=>rfl) (zay (fun _=>rfl) (zay (fun _=>rfl) (zay (fun _=>rfl) h))))
theorem zzk {D:Nat→Prop} {i0 t0 i1 t1 i2 t2 i3 t3 i4 t4 i5 t5:Nat} {v0 v1 v2 v3 v4 v5:Value} {r r':List (Nat×Nat×Value)} (h:dl D r=dl D r'):dl D ((i0,t0,v0)::(i1,t1,v1)::(i2,t2,v2)::(i3,t3,v3)::(i4,t4,v4)::(i5,t5,v5)::r)=dl D ((i0,t0,v0)::(i1,t1,v1)::(i2,t2,v2)::(i3,t3,v3)::(i4,t4,v4)::(i5,t5,v5)::r'):=zay (fun _=>rfl) (zay (fun _=>rfl) (zay (fun _=>rfl) (zay (fun _=>rfl) (zay (fun _=>rfl) (zay (fun _=>rfl) h)))))
theorem zzY {D:Nat→Prop} {i0 t0 i1 t1 i2 t2 i3 t3 i4 t4 i5 t5 i6 t6:Nat} {v0 v1 v2 v3 v4 v5 v6:Value} {r r':List (Nat×Nat×Value)} (h:dl D r=dl D r'):dl D ((i0,t0,v0)::(i1,t1,v1)::(i2,t2,v2)::(i3,t3,v3)::(i4,t4,v4)::(i5,t5,v5)::(i6,t6,v6)::r)=dl D ((i0,t0,v0)::(i1,t1,v1)::(i2,t2,v2)::(i3,t3,v3)::(i4,t4,v4)::(i5,t5,v5)::(i6,t6,v6)::r'):=zay (fun _=>rfl) (zay (fun _=>rfl) (zay (fun _=>rfl) (zay (fun _=>rfl) (zay (fun _=>rfl) (zay (fun _=>rfl) (zay (fun _=>rfl) h))))))
theorem zzX {D:Nat→Prop} {i0 t0 i1 t1 i2 t2 i3 t3 i4 t4 i5 t5 i6 t6 i7 t7:Nat} {v0 v1 v2 v3 v4 v5 v6 v7:Value} {r r':List (Nat×Nat×Value)} (h:dl D r=dl D r'):dl D ((i0,t0,v0)::(i1,t1,v1)::(i2,t2,v2)::(i3,t3,v3)::(i4,t4,v4)::(i5,t5,v5)::(i6,t6,v6)::(i7,t7,v7)::r)=dl D ((i0,t0,v0)::(i1,t1,v1)::(i2,t2,v2)::(i3,t3,v3)::(i4,t4,v4)::(i5,t5,v5)::(i6,t6,v6)::(i7,t7,v7)::r'):=zay (fun _=>rfl) (zay (fun _=>rfl) (zay (fun _=>rfl) (zay (fun _=>rfl) (zay (fun _=>rfl) (zay (fun _=>rfl) (zay (fun _=>rfl) (zay (fun _=>rfl) h)))))))
theorem zzW {D:Nat→Prop} {i0 t0 i1 t1 i2 t2 i3 t3 i4 t4 i5 t5 i6 t6 i7 t7 i8 t8:Nat} {v0 v1 v2 v3 v4 v5 v6 v7 v8:Value} {r r':List (Nat×Nat×Value)} (h:dl D r=dl D r'):dl D ((i0,t0,v0)::(i1,t1,v1)::(i2,t2,v2)::(i3,t3,v3)::(i4,t4,v4)::(i5,t5,v5)::(i6,t6,v6)::(i7,t7,v7)::(i8,t8,v8)::r)=dl D ((i0,t0,v0)::(i1,t1,v1)::(i2,t2,v2)::(i3,t3,v3)::(i4,t4,v4)::(i5,t5,v5)::(i6,t6,v6)::(i7,t7,v7)::(i8,t8,v8)::r'):=zay (fun _=>rfl) (zay (fun _=>rfl) (zay (fun _=>rfl) (zay (fun _=>rfl) (zay (fun _=>rfl) (zay (fun _=>rfl) (zay (fun _=>rfl) (zay (fun _=>rfl) (zay (fun _=>rfl) h))))))))
theorem zzC {D:Nat→Prop} {i0 t0 i1 t1 i2 t2 i3 t3 i4 t4 i5 t5 i6 t6 i7 t7 i8 t8 i9 t9:Nat} {v0 v1 v2 v3 v4 v5 v6 v7 v8 v9:Value} {r r':List (Nat×Nat×Value)} (h:dl D r=dl D r'):dl D ((i0,t0,v0)::(i1,t1,v1)::(i2,t2,v2)::(i3,t3,v3)::(i4,t4,v4)::(i5,t5,v5)::(i6,t6,v6)::(i7,t7,v7)::(i8,t8,v8)::(i9,t9,v9)::r)=dl D ((i0,t0,v0)::(i1,t1,v1)::(i2,t2,v2)::(i3,t3,v3)::(i4,t4,v4)::(i5,t5,v5)::(i6,t6,v6)::(i7,t7,v7)::(i8,t8,v8)::(i9,t9,v9)::r'):=zay (fun _=>rfl) (zay (fun _=>rfl) (zay (fun _=>rfl) (zay (fun _=>rfl) (zay (fun _=>rfl) (zay (fun _=>rfl) (zay (fun _=>rfl) (zay (fun _=>rfl) (zay (fun _=>rfl) (zay (fun _=>rfl) h)))))))))
theorem zzB {D:Nat→Prop} {i0 t0 i1 t1 i2 t2 i3 t3 i4 t4 i5 t5 i6 t6 i7 t7 i8 t8 i9 t9 i10 t10:Nat} {v0 v1 v2 v3 v4 v5 v6 v7 v8 v9 v10:Value} {r r':List (Nat×Nat×Value)} (h:dl D r=dl D r'):dl D ((i0,t0,v0)::(i1,t1,v1)::(i2,t2,v2)::(i3,t3,v3)::(i4,t4,v4)::(i5,t5,v5)::(i6,t6,v6)::(i7,t7,v7)::(i8,t8,v8)::(i9,t9,v9)::(i10,t10,v10)::r)=dl D ((i0,t0,v0)::(i1,t1,v1)::(i2,t2,v2)::(i3,t3,v3)::(i4,t4,v4)::(i5,t5,v5)::(i6,t6,v6)::(i7,t7,v7)::(i8,t8,v8)::(i9,t9,v9)::(i10,t10,v10)::r'):=zay (fun _=>rfl) (zay (fun _=>rfl) (zay (fun _=>rfl) (zay (fun _=>rfl) (zay (fun _=>rfl) (zay (fun _=>rfl) (zay (fun _=>rfl) (zay (fun _=>rfl) (zay (fun _=>rfl) (zay (fun _=>rfl) (zay (fun _=>rfl) h))))))))))
theorem zww {D:Nat→Prop} {i0 t0 i1 t1 i2 t2 i3 t3 i4 t4 i5 t5 i6 t6 i7 t7 i8 t8 i9 t9 i10 t10 i11 t11:Nat} {v0 v1 v2 v3 v4 v5 v6 v7 v8 v9 v10 v11:Value} {r r':List (Nat×Nat×Value)} (h:dl D r=dl D r'):dl D ((i0,t0,v0)::(i1,t1,v1)::(i2,t2,v2)::(i3,t3,v3)::(i4,t4,v4)::(i5,t5,v5)::(i6,t6,v6)::(i7,t7,v7)::(i8,t8,v8)::(i9,t9,v9)::(i10,t10,v10)::(i11,t11,v11)::r)=dl D ((i0,t0,v0)::(i1,t1,v1)::(i2,t2,v2)::(i3,t3,v3)::(i4,t4,v4)::(i5,t5,v5)::(i6,t6,v6)::(i7,t7,v7)::(i8,t8,v8)::(i9,t9,v9)::(i10,t10,v10)::(i11,t11,v11)::r'):=zay (fun _=>rfl) (zay (fun _=>rfl) (zay (fun _=>rfl) (zay (fun _=>rfl) (zay (fun _=>rfl) (zay (fun _=>rfl) (zay (fun _=>rfl) (zay (fun _=>rfl) (zay (fun _=>rfl) (zay (fun _=>rfl) (zay (fun _=>rfl) (zay (fun _=>rfl) h)))))))))))
def zwk (lk:Nat→Option Value):Operand→Option Value
  | .tmp t=>lk t
  | .const v=>some v
  | .func f=>some (.func (.func f) #[] #[])
  | .global _=>none
def zxE (lk:Nat→Option Value) (ops:Array Oper):Option (Nat×Bool)→Option Bool
  | none=>some true
  | some (j,b)=>match (ops[j]?).bind (·.dst) with
    | some t=>match lk t with
      | some (.bool c)=>some (c==b)
      | some (.tuple _)=>some false
      | _=>none
    | none=>none
def zwx (lk:Nat→Option Value) (N:Nat) (ops:Array Oper) (o:Oper):Option (Nat×Value) :=
  match o.dst with
  | none=>none
  | some d=>match Nat.blt d N with
    | false=>none
    | true=>match zxE lk ops o.guard with
      | none=>none
      | some false=>some (d,undef)
      | some true=>match o.op with
        | .move x=>match zwk lk x with
          | some v=>some (d,v)
          | none=>none
        | .assign x=>match zwk lk x with
          | some v=>some (d,v)
          | none=>none
        | .pick x y z=>match zwk lk x with
          | some (.bool true)=>match zwk lk y with
            | some v=>some (d,v)
            | none=>none
          | some (.bool false)=>match zwk lk z with
            | some v=>some (d,v)
            | none=>none
          | _=>none
        | _=>none
theorem zjD {lk:Nat→Option Value} {S:List (Nat×Value)} (hl:∀ t v,lk t=some v→S.lookup t=some v) {x:Operand} {v:Value} (h:zwk lk x=some v):ev S x=some v:=by
  cases x with
  | tmp t=>exact hl t v h
  | const c=>exact h
  | func f=>exact h
  | global g=>exact h
theorem zuP {lk:Nat→Option Value} {S:List (Nat×Value)} {ops:Array Oper} (hl:∀ t v,lk t=some v→S.lookup t=some v) {g:Option (Nat×Bool)} {r:Bool} (h:zxE lk ops g=some r):gd ops S g=some r:=by
  cases g with
  | none=>exact h
  | some p =>
    obtain ⟨j,b⟩:=p
    unfold zxE at h; unfold gd
    dsimp only at h ⊢
    cases ht:(ops[j]?).bind (·.dst) with
    | none=>rw [ht] at h; cases h
    | some t =>
      rw [ht] at h; dsimp only at h ⊢
      cases hk:lk t with
      | none=>rw [hk] at h; cases h
      | some v=>rw [hk] at h; rw [hl t v hk]; exact h
theorem zml {F:Fence} [WideF F] {P:Program} {w0:World} {K:Nat→Prop} {N:Nat} {dfs:List Deferred} {ops:Array Oper} {Q:Exit→Act→World→Prop} {rest:List Oper} {lk:Nat→Option Value} {S:List (Nat×Value)} {L:List Asn} {o:Oper} {t:Nat} {v:Value}
    (hl:∀ t v,lk t=some v→S.lookup t=some v) (e:zwx lk N ops o=some (t,v)) (h:TO F P w0 K N dfs ops Q rest ((t,v)::S) L):TO F P w0 K N dfs ops Q (o::rest) S L:=by
  obtain ⟨dst,op,ty,pos,aft,g⟩:=o
  unfold zwx at e
  cases dst with
  | none=>cases e
  | some d =>
    dsimp only at e
    cases hb:Nat.blt d N with
    | false=>rw [hb] at e; cases e
    | true =>
    have hd:d<N:=Nat.lt_of_lt_of_le (Nat.lt_succ_self d) (Nat.le_of_ble_eq_true hb)
    rw [hb] at e; dsimp only at e
    cases hg:zxE lk ops g with
    | none=>rw [hg] at e; cases e
    | some gb =>
      rw [hg] at e
      have hg':=zuP hl hg
      cases gb with
      | false=>cases e; exact zwa hg' hd h
      | true =>
        cases op <;> dsimp only at e <;> first | (cases e; done) | skip
        · split at e
          · cases e; exact zwc hg' hd (zjD hl (by assumption)) h
          · cases e
        · split at e
          · cases e; exact zsX hg' hd (zjD hl (by assumption)) h
          · cases e
        · split at e
          · split at e
            · cases e; exact zsT (b:=true) hg' hd (zjD hl (by assumption)) (zjD hl (by assumption)) h
            · cases e
          · split at e
            · cases e; exact zsT (b:=false) hg' hd (zjD hl (by assumption)) (zjD hl (by assumption)) h
            · cases e
          · cases e
def zxO (N:Nat) (ops:Array Oper):Nat→List Oper→List (Nat×Value)→Option (List Oper×List (Nat×Value))
  | 0,r,σ=>some (r,σ)
  | n+1,o::r,σ=>match zwx (fun t=>σ.lookup t) N ops o with
    | some p=>zxO N ops n r (p::σ)
    | none=>none
  | _+1,[],_=>none
theorem zyR {F:Fence} [WideF F] {P:Program} {w0:World} {K:Nat→Prop} {N:Nat} {dfs:List Deferred} {ops:Array Oper} {Q:Exit→Act→World→Prop} {L:List Asn} (n:Nat):∀ {rest rest':List Oper} {σ σ':List (Nat×Value)},
    zxO N ops n rest σ=some (rest',σ')→TO F P w0 K N dfs ops Q rest' σ' L→TO F P w0 K N dfs ops Q rest σ L:=by
  induction n with
  | zero=>intro rest rest' σ σ' e h; cases e; exact h
  | succ n ih =>
    intro rest rest' σ σ' e h
    cases rest with
    | nil=>cases e
    | cons o r =>
      simp only [zxO] at e
      split at e
      · exact zml (fun _ _ h=>h) (by assumption) (ih e h)
      · cases e
def zwy (deps:List Nat) (σ:List (Nat×Value)) (t:Nat):List (Nat×Nat×Value)→Option Value
  | []=>σ.lookup t
  | (i,t',v)::r=>match Nat.beq t t' with
    | true=>match deps.contains i with
      | true=>some v
      | false=>none
    | false=>zwy deps σ t r
theorem zmm {D:Nat→Prop} {deps:List Nat} {σ:List (Nat×Value)} (hd:∀ j∈deps,D j) (t:Nat) (v:Value):∀ {vals:List (Nat×Nat×Value)},zwy deps σ t vals=some v→(dl D vals++σ).lookup t=some v
  | [],h=>h
  | (i,t',v')::r,h=>by
    unfold zwy at h
    cases hb:Nat.beq t t' with
    | true =>
      rw [hb] at h; dsimp only at h
      have e:t=t':=Nat.eq_of_beq_eq_true hb
      subst e
      split at h
      · cases h
        have hD:D i:=hd i (by simpa using (by assumption:deps.contains i=true))
        simp only [dl]
        rw [if_pos hD]
        simp
      · cases h
    | false =>
      rw [hb] at h; dsimp only at h
      have ih:=zmm (σ:=σ) hd t v h
      have hn:(t==t')=false:=by
        have:t≠t':=Nat.ne_of_beq_eq_false hb
        simpa using this
      simp only [dl]
      split
      · simp only [List.cons_append,List.lookup,hn]; exact ih
      · exact ih
def ztc (N:Nat) (ops:Array Oper) (σ:List (Nat×Value)) (vals:List (Nat×Nat×Value)):Nat→List Oper→Nat→Option (List Oper×Nat×List (Nat×Nat×Value))
  | 0,r,i=>some (r,i,[])
  | n+1,o::r,i=>match zwx (fun t=>zwy (zc9 o) σ t vals) N ops o with
    | some p=>match ztc N ops σ vals n r (i+1) with
      | some q=>some (q.1,q.2.1,(i,p.1,p.2)::q.2.2)
      | none=>none
    | none=>none
  | _+1,[],_=>none
section
variable {F:Fence} {P:Program} {w0:World} {K:Nat→Prop} {N:Nat} {dfs:List Deferred} {Q:Exit→Act→World→Prop} {σ:List (Nat×Value)} {L:List Asn} {ops:Array Oper}
theorem ziQ {vals:List (Nat×Nat×Value)} {n m i i':Nat} {o:Oper} {r rest':List Oper} (e:ztc N ops σ vals (n+1) (o::r) i=some (rest',i',(vals.drop m).take (n+1))) :
    ∃ t v,zwx (fun t=>zwy (zc9 o) σ t vals) N ops o=some (t,v)∧vals[m]?=some (i,t,v)∧ztc N ops σ vals n r (i+1)=some (rest',i',(vals.drop (m+1)).take n):=by
  simp only [ztc] at e
  split at e
  · rename_i p hp
    split at e
    · rename_i q hq
      obtain ⟨q1,q2,q3⟩:=q
      simp only [Option.some.injEq,Prod.mk.injEq] at e
      obtain ⟨rfl,rfl,e⟩:=e
      cases hdr:vals.drop m with
      | nil=>rw [hdr] at e; simp at e
      | cons x xs =>
        rw [hdr,List.take_succ_cons,List.cons.injEq] at e
        have hm:vals[m]?=some x:=by
          have:(vals.drop m)[0]?=some x:=by rw [hdr]; rfl
          simpa using this
        refine ⟨p.1,p.2,hp,by rw [hm,← e.1],?_⟩
        have:vals.drop (m+1)=xs:=by rw [← List.drop_drop,hdr]; rfl
        rw [this,← e.2]; exact hq
    · cases e
  · cases e
theorem zyP [WideF F] {vals:List (Nat×Nat×Value)} (n m:Nat):∀ {l rest':List Oper} {i i':Nat},ztc N ops σ vals n l i=some (rest',i',(vals.drop m).take n) →
    DrawPre F P w0 K N dfs Q ops σ L vals rest' i'→DrawPre F P w0 K N dfs Q ops σ L vals l i:=by
  induction n generalizing m with
  | zero=>intro l rest' i i' e h; cases e; exact h
  | succ n ih =>
    intro l rest' i i' e h
    cases l with
    | nil=>cases e
    | cons o r =>
      obtain ⟨t,v,h1,h2,h3⟩:=ziQ e
      exact zad (fun D hn hd hcl hu hi=>zml (fun t v h=>zmm hd t v h) h1 (zkJ m hu hi h2)) (ih (m+1) h3 h)
theorem zyE [WideF F] {vals:List (Nat×Nat×Value)} {x:Nat} (n m:Nat):∀ {l rest':List Oper} {i i':Nat},ztc N ops σ vals n l i=some (rest',i',(vals.drop m).take n) →
    DrawPreX F P w0 K N dfs Q ops σ L vals x rest' i'→DrawPreX F P w0 K N dfs Q ops σ L vals x l i:=by
  induction n generalizing m with
  | zero=>intro l rest' i i' e h; cases e; exact h
  | succ n ih =>
    intro l rest' i i' e h
    cases l with
    | nil=>cases e
    | cons o r =>
      obtain ⟨t,v,h1,h2,h3⟩:=ziQ e
      exact zaN (fun D hn hd hcl hu hi=>zml (fun t v h=>zmm hd t v h) h1 (zkJ m hu hi h2)) (ih (m+1) h3 h)
def zyQ {β:Type} (S:List Nat) (LL:(Nat→Prop)→β→List Asn):Prop:=∀ i,S.contains i=false→∀ D b,LL (fun j=>D j∨j=i) b=LL D b
theorem zwu {D:Nat→Prop} {i:Nat} {base:Asn} {r:List (Nat×Asn)} {S:List Nat} (hs:(r.map Prod.fst).all (fun x=>S.contains x)=true) (h:S.contains i=false):eD (fun j=>D j∨j=i) base r=eD D base r:=by
  refine zjU ?_
  cases hc:(r.map Prod.fst).contains i with
  | false=>rfl
  | true =>
    have h1:i∈r.map Prod.fst:=by simpa using hc
    have h2:=List.all_eq_true.1 hs i h1
    have h3:S.contains i=true:=h2
    rw [h] at h3; cases h3
theorem zxP {β:Type} {vals:β→List (Nat×Nat×Value)} {LL:(Nat→Prop)→β→List Asn} (hb:¬ Nonempty β):∀ (l:List Oper) (i:Nat),DrawG F P w0 K N dfs Q ops σ vals LL l i
  | [],_=>trivial
  | o::r,i=>⟨fun D b=>absurd ⟨b⟩ hb,zxP hb r (i+1)⟩
theorem zyq {β:Type} {vals:β→List (Nat×Nat×Value)} {LL:(Nat→Prop)→β→List Asn} {S:List Nat} {o:Oper} {rest:List Oper} {i:Nat} (hq:zyQ S LL) (hs:S.contains i=false)
    (hu:∀ b,zcS ((vals b).map (fun p=>p.2.1))=true) (hi:∀ b,zcS ((vals b).map (fun p=>p.1))=true)
    (h:∀ (D:Nat→Prop) (b:β),¬ D i→(∀ j∈zc9 o,D j)→Clo ops D→zcS ((vals b).map (fun p=>p.2.1))=true→zcS ((vals b).map (fun p=>p.1))=true →
      TO F P w0 K N dfs ops (Exit.then (fun a w=>At N dfs (dl (fun j=>D j∨j=i) (vals b)++σ) a∧Holds w0 K (LL D b) w) Q) [o] (dl D (vals b)++σ) (LL D b))
    (hr:DrawG F P w0 K N dfs Q ops σ vals LL rest (i+1)):DrawG F P w0 K N dfs Q ops σ vals LL (o::rest) i :=
  zgT (fun D b hn hd hcl a w ha hw=>by
    have h0:=h D b hn hd hcl (hu b) (hi b) a w ha hw
    exact zbX (fun a' w' h2=>⟨b,h2.1,by rw [hq i hs D b]; exact h2.2⟩) h0) hr
theorem zwv [WideF F] {β:Type} {vals:β→List (Nat×Nat×Value)} {LL:(Nat→Prop)→β→List Asn} {S:List Nat} (hq:zyQ S LL)
    (hu:∀ b,zcS ((vals b).map (fun p=>p.2.1))=true) (hi:∀ b,zcS ((vals b).map (fun p=>p.1))=true) (n m:Nat):∀ {l rest':List Oper} {i i':Nat},
    (∀ b,ztc N ops σ (vals b) n l i=some (rest',i',((vals b).drop m).take n))→(List.range n).all (fun j=>!S.contains (i+j))=true →
    DrawG F P w0 K N dfs Q ops σ vals LL rest' i'→DrawG F P w0 K N dfs Q ops σ vals LL l i:=by
  induction n generalizing m with
  | zero =>
    intro l rest' i i' e hs h
    by_cases hb:Nonempty β
    · obtain ⟨b⟩:=hb
      have e:=e b
      simp only [ztc,Option.some.injEq,Prod.mk.injEq] at e
      obtain ⟨rfl,rfl,_⟩:=e
      exact h
    · exact zxP hb _ _
  | succ n ih =>
    intro l rest' i i' e hs h
    by_cases hb:Nonempty β
    · obtain ⟨b0⟩:=hb
      cases l with
      | nil=>exact absurd (e b0) (by simp [ztc])
      | cons o r =>
        have hs0:S.contains i=false:=by
          have:=List.all_eq_true.1 hs 0 (by simp)
          simpa using this
        have hs1:(List.range n).all (fun j=>!S.contains (i+1+j))=true:=by
          refine List.all_eq_true.2 fun j hj => ?_
          have:=List.all_eq_true.1 hs (j+1) (by simp at hj ⊢; omega)
          rwa [show i+(j+1)=i+1+j by omega] at this
        refine zyq hq hs0 hu hi (fun D b hn hd hcl hu' hi' => ?_) (ih (m+1) (fun b => ?_) hs1 h)
        · obtain ⟨t,v,h1,h2,h3⟩:=ziQ (e b)
          exact zml (fun t v h=>zmm hd t v h) h1 (zkJ m hu' hi' h2)
        · obtain ⟨t,v,h1,h2,h3⟩:=ziQ (e b)
          exact h3
    · exact zxP hb _ _
end
section
variable {F:Fence} {P:Program} {w0:World} {K:Nat→Prop} {N:Nat} {dfs:List Deferred} {Q:Exit→Act→World→Prop} {σ:List (Nat×Value)} {L:List Asn} {ops:Array Oper}
theorem zre {β:Type} {vals:β→List (Nat×Nat×Value)} {LL:(Nat→Prop)→β→List Asn} {S:List Nat} {o:Oper} {rest:List Oper} {i:Nat} (hq:zyQ S LL) (hs:S.contains i=false)
    (hu:∀ b,zcS ((vals b).map (fun p=>p.2.1))=true) (hi:∀ b,zcS ((vals b).map (fun p=>p.1))=true)
    (h:∀ (D:Nat→Prop) (b:β),¬ D i→(∀ j∈zc9 o,D j)→Clo ops D→zcS ((vals b).map (fun p=>p.2.1))=true→zcS ((vals b).map (fun p=>p.1))=true→∃ L',LL D b=L' ∧
      TO F P w0 K N dfs ops (Exit.then (fun a w=>At N dfs (dl (fun j=>D j∨j=i) (vals b)++σ) a∧Holds w0 K L' w) Q) [o] (dl D (vals b)++σ) L')
    (hr:DrawG F P w0 K N dfs Q ops σ vals LL rest (i+1)):DrawG F P w0 K N dfs Q ops σ vals LL (o::rest) i :=
  zyq hq hs hu hi (fun D b hn hd hcl hu hi=>by obtain ⟨L',e,h0⟩:=h D b hn hd hcl hu hi; rw [e]; exact h0) hr
end
section
variable {R:Type} {F:Fence} {P:Program} {w0:World} {K:Nat→Prop} {N:Nat} {dfs:List Deferred} {ops:Array Oper} {Q:Exit→Act→World→Prop} {rest:List Oper} {σ:List (Nat×Value)} {L:List Asn} {x:Operand} {c c1 c2:Code} {p q:Option R} {r:R} {b:Bool}
theorem zyB (hc:ev σ x=some (.bool b)) (h:zat b p q=some r) (ht:p=some r→TC F P w0 K N dfs Q c1 σ L) (hf:q=some r→TC F P w0 K N dfs Q c2 σ L):TC F P w0 K N dfs Q (.cond x c1 c2) σ L:=zud hc (fun e=>ht (zlL e h)) (fun e=>hf (zlM e h))
theorem zaW [WideF F] {b:BinOp} {t yt ty:TypeId} {d:Nat} {pos:String} {aft:Array Edge} {g:Option (Nat×Bool)} {x y:Operand} {v v1 v2:Value} (e:(gd ops σ g,decide (d<N),ev σ x,ev σ y)=(some true,true,some v1,some v2))
    (hb:∀ w:World,(do eqGuard b t x y v1 v2; binOp b t v1 v2:Sem Value).run P w=.ok v w) (h:TO F P w0 K N dfs ops Q rest ((d,v)::σ) L) :
    TO F P w0 K N dfs ops Q (⟨some d,.binOp b t x y yt,ty,pos,aft,g⟩::rest) σ L:=by
  simp only [Prod.mk.injEq] at e
  exact zhj e.1 (of_decide_eq_true e.2.1) e.2.2.1 e.2.2.2 hb h
theorem zyN (h:TC F P w0 K N dfs Q c σ L):TO F P w0 K N dfs ops (Exit.then (c.wpIn F 0 P Q) Q) [] σ L:=zaE (zaG h)
theorem zyG {id:Nat} {l:List Oper} (h:TO F P w0 K N dfs l.toArray (Exit.then (c.wpIn F 0 P Q) Q) l σ L):TC F P w0 K N dfs Q (.seq (.region id l.toArray false) c) σ L:=zaM (zao h)
theorem zyH {id:Nat} {l:List Oper} (h:TO F P w0 K N dfs l.toArray (Exit.then (c.wpIn F 0 P Q) Q) l σ L):TO F P w0 K N dfs ops (Exit.then ((Code.seq (.region id l.toArray false) c).wpIn F 0 P Q) Q) [] σ L:=zaE (zaG (zaM (zao h)))
theorem zyS {s:Nat} (hs:σ.lookup s=some (.bool b)) (h:zat b p q=some r) (ht:p=some r→TO F P w0 K N dfs ops Q rest ((s,.bool true)::σ) L) (hf:q=some r→TO F P w0 K N dfs ops Q rest ((s,.bool false)::σ) L):TO F P w0 K N dfs ops Q rest σ L:=zt8 hs (fun e=>ht (zlL e h)) (fun e=>hf (zlM e h))
theorem zyO (h:zat b p q=some r) (ht:p=some r→TO F P w0 K N dfs ops Q rest σ L) (hf:q=some r→TO F P w0 K N dfs ops Q rest σ L):TO F P w0 K N dfs ops Q rest σ L:=zfC (b:=b) (fun e=>ht (zlL e h)) (fun e=>hf (zlM e h))
theorem zyC (h:zat b p q=some r) (ht:p=some r→TC F P w0 K N dfs Q c σ L) (hf:q=some r→TC F P w0 K N dfs Q c σ L):TC F P w0 K N dfs Q c σ L:=zq7 (b:=b) (fun e=>ht (zlL e h)) (fun e=>hf (zlM e h))
abbrev zz1 (F:Fence) (P:Program) (w0:World) (K:Nat→Prop) (N:Nat) (dfs:List Deferred) (ops:Array Oper) (Q:Exit→Act→World→Prop) (rest:List Oper) (σ:List (Nat×Value)) (L:List Asn):Prop:=TO F P w0 K N dfs ops Q rest σ L
end
abbrev zr0 (x:zam):List Value:=[zI x.At,zI x.Width,.int .i32 x.Rune,.bool x.Broken]
abbrev zr1 (x:zac):List Value:=[zI x.sort,zI x.place,.string x.digits,.string x.marks,zI x.great]
abbrev zr2 (x:zaJ):List Value:=[zI x.Err,zI x.At]
abbrev zv0 (v:Value):=vec zgU 9 1 v
abbrev zv1 (v:Value):=vec (zlf (.i32)) 21 1 v
abbrev zv2 (v:Value):=vec zbs 66 5 v
abbrev zv3 (v:Value):=vec za0 52 5 v
abbrev zv4 (v:Value):=vec zc3 116 2 v
abbrev zv5 (v:Value):=vec zbR 95 4 v
abbrev zLit0:zBA:=⟨#[195,159,115,115,32,195,166,97,101,32,195,184,111,32,195,176,100,32,195,190,116,104,32,196,145,100,32,196,167,104,32,196,177,105,32,196,179,105,106,32,196,184,113,32,197,128,108,32,197,130,108,32,197,137,110,32,197,139,110,103,32,197,147,111,101,32,197,167,116,32,197,191,115,32,207,130,207,131,32]⟩
def zgL (r1:Int):Option Bool := zbF (fun (j1:Bool→Option Bool) => zat (decide ((790:Int)≤r1)) ( zat (decide ((r1:Int)≤793)) ( j1 (decide ((r1:Int)≤793))
) ( zat (decide ((796:Int)≤r1)) ( zat (decide ((r1:Int)≤800)) ( j1 (decide ((r1:Int)≤800))
) ( zat (decide ((803:Int)≤r1)) ( zat (decide ((r1:Int)≤819)) ( j1 (decide ((r1:Int)≤819))
) ( zat (decide ((825:Int)≤r1)) ( zat (decide ((r1:Int)≤828)) ( j1 (decide ((r1:Int)≤828))
) ( zat (decide ((837:Int)≤r1)) ( j1 (decide ((r1:Int)≤841))
) ( j1 false
)
)
) ( zat (decide ((837:Int)≤r1)) ( j1 (decide ((r1:Int)≤841))
) ( j1 false
)
)
)
) ( zat (decide ((825:Int)≤r1)) ( zat (decide ((r1:Int)≤828)) ( j1 (decide ((r1:Int)≤828))
) ( zat (decide ((837:Int)≤r1)) ( j1 (decide ((r1:Int)≤841))
) ( j1 false
)
)
) ( zat (decide ((837:Int)≤r1)) ( j1 (decide ((r1:Int)≤841))
) ( j1 false
)
)
)
)
) ( zat (decide ((803:Int)≤r1)) ( zat (decide ((r1:Int)≤819)) ( j1 (decide ((r1:Int)≤819))
) ( zat (decide ((825:Int)≤r1)) ( zat (decide ((r1:Int)≤828)) ( j1 (decide ((r1:Int)≤828))
) ( zat (decide ((837:Int)≤r1)) ( j1 (decide ((r1:Int)≤841))
) ( j1 false
)
)
) ( zat (decide ((837:Int)≤r1)) ( j1 (decide ((r1:Int)≤841))
) ( j1 false
)
)
)
) ( zat (decide ((825:Int)≤r1)) ( zat (decide ((r1:Int)≤828)) ( j1 (decide ((r1:Int)≤828))
) ( zat (decide ((837:Int)≤r1)) ( j1 (decide ((r1:Int)≤841))
) ( j1 false
)
)
) ( zat (decide ((837:Int)≤r1)) ( j1 (decide ((r1:Int)≤841))
) ( j1 false
)
)
)
)
)
) ( zat (decide ((796:Int)≤r1)) ( zat (decide ((r1:Int)≤800)) ( j1 (decide ((r1:Int)≤800))
) ( zat (decide ((803:Int)≤r1)) ( zat (decide ((r1:Int)≤819)) ( j1 (decide ((r1:Int)≤819))
) ( zat (decide ((825:Int)≤r1)) ( zat (decide ((r1:Int)≤828)) ( j1 (decide ((r1:Int)≤828))
) ( zat (decide ((837:Int)≤r1)) ( j1 (decide ((r1:Int)≤841))
) ( j1 false
)
)
) ( zat (decide ((837:Int)≤r1)) ( j1 (decide ((r1:Int)≤841))
) ( j1 false
)
)
)
) ( zat (decide ((825:Int)≤r1)) ( zat (decide ((r1:Int)≤828)) ( j1 (decide ((r1:Int)≤828))
) ( zat (decide ((837:Int)≤r1)) ( j1 (decide ((r1:Int)≤841))
) ( j1 false
)
)
) ( zat (decide ((837:Int)≤r1)) ( j1 (decide ((r1:Int)≤841))
) ( j1 false
)
)
)
)
) ( zat (decide ((803:Int)≤r1)) ( zat (decide ((r1:Int)≤819)) ( j1 (decide ((r1:Int)≤819))
) ( zat (decide ((825:Int)≤r1)) ( zat (decide ((r1:Int)≤828)) ( j1 (decide ((r1:Int)≤828))
) ( zat (decide ((837:Int)≤r1)) ( j1 (decide ((r1:Int)≤841))
) ( j1 false
)
)
) ( zat (decide ((837:Int)≤r1)) ( j1 (decide ((r1:Int)≤841))
) ( j1 false
)
)
)
) ( zat (decide ((825:Int)≤r1)) ( zat (decide ((r1:Int)≤828)) ( j1 (decide ((r1:Int)≤828))
) ( zat (decide ((837:Int)≤r1)) ( j1 (decide ((r1:Int)≤841))
) ( j1 false
)
)
) ( zat (decide ((837:Int)≤r1)) ( j1 (decide ((r1:Int)≤841))
) ( j1 false
)
)
)
)
)
) (fun (x1:Bool) => zat (x1) ( some true
) ( zbF (fun (j2:Bool→Option Bool) => zat (decide ((845:Int)≤r1)) ( zat (decide ((r1:Int)≤846)) ( j2 (decide ((r1:Int)≤846))
) ( zat (decide ((851:Int)≤r1)) ( zat (decide ((r1:Int)≤854)) ( j2 (decide ((r1:Int)≤854))
) ( zat (decide ((857:Int)≤r1)) ( j2 (decide ((r1:Int)≤858))
) ( j2 false
)
)
) ( zat (decide ((857:Int)≤r1)) ( j2 (decide ((r1:Int)≤858))
) ( j2 false
)
)
)
) ( zat (decide ((851:Int)≤r1)) ( zat (decide ((r1:Int)≤854)) ( j2 (decide ((r1:Int)≤854))
) ( zat (decide ((857:Int)≤r1)) ( j2 (decide ((r1:Int)≤858))
) ( j2 false
)
)
) ( zat (decide ((857:Int)≤r1)) ( j2 (decide ((r1:Int)≤858))
) ( j2 false
)
)
)
) (fun (x2:Bool) => zat (x2) ( some true
) ( some false
)
)
)
)
theorem zoS {r1:Int} {r:Bool} (h:zgL r1=some r):FnP prog 75 [.int .i32 r1] (.bool r):=by
 unfold zgL at h
 refine FnP.intro func75 rfl ntmps75 (by simp) ?_
 intro w0 K
 refine zyG (zyR 1 rfl (zyN (zaM (zaA ?_))))
 obtain ⟨j1,hj1,h⟩:=zbT h
 refine za2 (β:=Bool) 0 rfl (fun b=>j1 b=some r) (fun b=>[]) (fun b=>[(0,.int .i32 r1),(3,.bool b)]) (fun b=>[]) (fun cut => ?_) ?_
 ·
  refine cut (zyG (zyR 1 rfl (zaW rfl zbN (zyR 1 rfl ?_))))
  refine zyS (s:=6) rfl h (fun h => ?_) (fun h => ?_)
  ·
   refine zyR 1 rfl (zaW rfl zci (zyR 2 rfl (zyN ?_)))
   refine zyB rfl h (fun h => ?_) (fun h => ?_)
   ·
    refine zaq ?_
    exact zaj (decide ((r1:Int)≤793)) h rfl (za9 rfl) Splits.nil
   refine zyG (zyR 1 rfl (zaW rfl zbN (zyR 1 rfl ?_)))
   refine zyS (s:=12) rfl h (fun h => ?_) (fun h => ?_)
   ·
    refine zyR 1 rfl (zaW rfl zci (zyR 2 rfl (zyN ?_)))
    refine zyB rfl h (fun h => ?_) (fun h => ?_)
    ·
     refine zaq ?_
     exact zaj (decide ((r1:Int)≤800)) h rfl (za9 rfl) Splits.nil
    refine zyG (zyR 1 rfl (zaW rfl zbN (zyR 1 rfl ?_)))
    refine zyS (s:=18) rfl h (fun h => ?_) (fun h => ?_)
    ·
     refine zyR 1 rfl (zaW rfl zci (zyR 2 rfl (zyN ?_)))
     refine zyB rfl h (fun h => ?_) (fun h => ?_)
     ·
      refine zaq ?_
      exact zaj (decide ((r1:Int)≤819)) h rfl (za9 rfl) Splits.nil
     refine zyG (zyR 1 rfl (zaW rfl zbN (zyR 1 rfl ?_)))
     refine zyS (s:=24) rfl h (fun h => ?_) (fun h => ?_)
     ·
      refine zyR 1 rfl (zaW rfl zci (zyR 2 rfl (zyN ?_)))
      refine zyB rfl h (fun h => ?_) (fun h => ?_)
      ·
       refine zaq ?_
       exact zaj (decide ((r1:Int)≤828)) h rfl (za9 rfl) Splits.nil
      refine zao (zyR 1 rfl (zaW rfl zbN (zyR 1 rfl ?_)))
      refine zyS (s:=30) rfl h (fun h => ?_) (fun h => ?_)
      ·
       refine zyR 1 rfl (zaW rfl zci (zyR 2 rfl (zaE ?_)))
       exact zaj (decide ((r1:Int)≤841)) h rfl (za9 rfl) Splits.nil
      refine zyR 4 rfl (zaE ?_)
      exact zaj false h rfl (za9 rfl) Splits.nil
     refine zyR 4 rfl (zyN (za3 rfl (zao (zyR 1 rfl (zaW rfl zbN (zyR 1 rfl ?_))))))
     refine zyS (s:=30) rfl h (fun h => ?_) (fun h => ?_)
     ·
      refine zyR 1 rfl (zaW rfl zci (zyR 2 rfl (zaE ?_)))
      exact zaj (decide ((r1:Int)≤841)) h rfl (za9 rfl) Splits.nil
     refine zyR 4 rfl (zaE ?_)
     exact zaj false h rfl (za9 rfl) Splits.nil
    refine zyR 4 rfl (zyN (za3 rfl (zyG (zyR 1 rfl (zaW rfl zbN (zyR 1 rfl ?_))))))
    refine zyS (s:=24) rfl h (fun h => ?_) (fun h => ?_)
    ·
     refine zyR 1 rfl (zaW rfl zci (zyR 2 rfl (zyN ?_)))
     refine zyB rfl h (fun h => ?_) (fun h => ?_)
     ·
      refine zaq ?_
      exact zaj (decide ((r1:Int)≤828)) h rfl (za9 rfl) Splits.nil
     refine zao (zyR 1 rfl (zaW rfl zbN (zyR 1 rfl ?_)))
     refine zyS (s:=30) rfl h (fun h => ?_) (fun h => ?_)
     ·
      refine zyR 1 rfl (zaW rfl zci (zyR 2 rfl (zaE ?_)))
      exact zaj (decide ((r1:Int)≤841)) h rfl (za9 rfl) Splits.nil
     refine zyR 4 rfl (zaE ?_)
     exact zaj false h rfl (za9 rfl) Splits.nil
    refine zyR 4 rfl (zyN (za3 rfl (zao (zyR 1 rfl (zaW rfl zbN (zyR 1 rfl ?_))))))
    refine zyS (s:=30) rfl h (fun h => ?_) (fun h => ?_)
    ·
     refine zyR 1 rfl (zaW rfl zci (zyR 2 rfl (zaE ?_)))
     exact zaj (decide ((r1:Int)≤841)) h rfl (za9 rfl) Splits.nil
    refine zyR 4 rfl (zaE ?_)
    exact zaj false h rfl (za9 rfl) Splits.nil
   refine zyR 4 rfl (zyN (za3 rfl (zyG (zyR 1 rfl (zaW rfl zbN (zyR 1 rfl ?_))))))
   refine zyS (s:=18) rfl h (fun h => ?_) (fun h => ?_)
   ·
    refine zyR 1 rfl (zaW rfl zci (zyR 2 rfl (zyN ?_)))
    refine zyB rfl h (fun h => ?_) (fun h => ?_)
    ·
     refine zaq ?_
     exact zaj (decide ((r1:Int)≤819)) h rfl (za9 rfl) Splits.nil
    refine zyG (zyR 1 rfl (zaW rfl zbN (zyR 1 rfl ?_)))
    refine zyS (s:=24) rfl h (fun h => ?_) (fun h => ?_)
    ·
     refine zyR 1 rfl (zaW rfl zci (zyR 2 rfl (zyN ?_)))
     refine zyB rfl h (fun h => ?_) (fun h => ?_)
     ·
      refine zaq ?_
      exact zaj (decide ((r1:Int)≤828)) h rfl (za9 rfl) Splits.nil
     refine zao (zyR 1 rfl (zaW rfl zbN (zyR 1 rfl ?_)))
     refine zyS (s:=30) rfl h (fun h => ?_) (fun h => ?_)
     ·
      refine zyR 1 rfl (zaW rfl zci (zyR 2 rfl (zaE ?_)))
      exact zaj (decide ((r1:Int)≤841)) h rfl (za9 rfl) Splits.nil
     refine zyR 4 rfl (zaE ?_)
     exact zaj false h rfl (za9 rfl) Splits.nil
    refine zyR 4 rfl (zyN (za3 rfl (zao (zyR 1 rfl (zaW rfl zbN (zyR 1 rfl ?_))))))
    refine zyS (s:=30) rfl h (fun h => ?_) (fun h => ?_)
    ·
     refine zyR 1 rfl (zaW rfl zci (zyR 2 rfl (zaE ?_)))
     exact zaj (decide ((r1:Int)≤841)) h rfl (za9 rfl) Splits.nil
    refine zyR 4 rfl (zaE ?_)
    exact zaj false h rfl (za9 rfl) Splits.nil
   refine zyR 4 rfl (zyN (za3 rfl (zyG (zyR 1 rfl (zaW rfl zbN (zyR 1 rfl ?_))))))
   refine zyS (s:=24) rfl h (fun h => ?_) (fun h => ?_)
   ·
    refine zyR 1 rfl (zaW rfl zci (zyR 2 rfl (zyN ?_)))
    refine zyB rfl h (fun h => ?_) (fun h => ?_)
    ·
     refine zaq ?_
     exact zaj (decide ((r1:Int)≤828)) h rfl (za9 rfl) Splits.nil
    refine zao (zyR 1 rfl (zaW rfl zbN (zyR 1 rfl ?_)))
    refine zyS (s:=30) rfl h (fun h => ?_) (fun h => ?_)
    ·
     refine zyR 1 rfl (zaW rfl zci (zyR 2 rfl (zaE ?_)))
     exact zaj (decide ((r1:Int)≤841)) h rfl (za9 rfl) Splits.nil
    refine zyR 4 rfl (zaE ?_)
    exact zaj false h rfl (za9 rfl) Splits.nil
   refine zyR 4 rfl (zyN (za3 rfl (zao (zyR 1 rfl (zaW rfl zbN (zyR 1 rfl ?_))))))
   refine zyS (s:=30) rfl h (fun h => ?_) (fun h => ?_)
   ·
    refine zyR 1 rfl (zaW rfl zci (zyR 2 rfl (zaE ?_)))
    exact zaj (decide ((r1:Int)≤841)) h rfl (za9 rfl) Splits.nil
   refine zyR 4 rfl (zaE ?_)
   exact zaj false h rfl (za9 rfl) Splits.nil
  refine zyR 4 rfl (zyN (za3 rfl (zyG (zyR 1 rfl (zaW rfl zbN (zyR 1 rfl ?_))))))
  refine zyS (s:=12) rfl h (fun h => ?_) (fun h => ?_)
  ·
   refine zyR 1 rfl (zaW rfl zci (zyR 2 rfl (zyN ?_)))
   refine zyB rfl h (fun h => ?_) (fun h => ?_)
   ·
    refine zaq ?_
    exact zaj (decide ((r1:Int)≤800)) h rfl (za9 rfl) Splits.nil
   refine zyG (zyR 1 rfl (zaW rfl zbN (zyR 1 rfl ?_)))
   refine zyS (s:=18) rfl h (fun h => ?_) (fun h => ?_)
   ·
    refine zyR 1 rfl (zaW rfl zci (zyR 2 rfl (zyN ?_)))
    refine zyB rfl h (fun h => ?_) (fun h => ?_)
    ·
     refine zaq ?_
     exact zaj (decide ((r1:Int)≤819)) h rfl (za9 rfl) Splits.nil
    refine zyG (zyR 1 rfl (zaW rfl zbN (zyR 1 rfl ?_)))
    refine zyS (s:=24) rfl h (fun h => ?_) (fun h => ?_)
    ·
     refine zyR 1 rfl (zaW rfl zci (zyR 2 rfl (zyN ?_)))
     refine zyB rfl h (fun h => ?_) (fun h => ?_)
     ·
      refine zaq ?_
      exact zaj (decide ((r1:Int)≤828)) h rfl (za9 rfl) Splits.nil
     refine zao (zyR 1 rfl (zaW rfl zbN (zyR 1 rfl ?_)))
     refine zyS (s:=30) rfl h (fun h => ?_) (fun h => ?_)
     ·
      refine zyR 1 rfl (zaW rfl zci (zyR 2 rfl (zaE ?_)))
      exact zaj (decide ((r1:Int)≤841)) h rfl (za9 rfl) Splits.nil
     refine zyR 4 rfl (zaE ?_)
     exact zaj false h rfl (za9 rfl) Splits.nil
    refine zyR 4 rfl (zyN (za3 rfl (zao (zyR 1 rfl (zaW rfl zbN (zyR 1 rfl ?_))))))
    refine zyS (s:=30) rfl h (fun h => ?_) (fun h => ?_)
    ·
     refine zyR 1 rfl (zaW rfl zci (zyR 2 rfl (zaE ?_)))
     exact zaj (decide ((r1:Int)≤841)) h rfl (za9 rfl) Splits.nil
    refine zyR 4 rfl (zaE ?_)
    exact zaj false h rfl (za9 rfl) Splits.nil
   refine zyR 4 rfl (zyN (za3 rfl (zyG (zyR 1 rfl (zaW rfl zbN (zyR 1 rfl ?_))))))
   refine zyS (s:=24) rfl h (fun h => ?_) (fun h => ?_)
   ·
    refine zyR 1 rfl (zaW rfl zci (zyR 2 rfl (zyN ?_)))
    refine zyB rfl h (fun h => ?_) (fun h => ?_)
    ·
     refine zaq ?_
     exact zaj (decide ((r1:Int)≤828)) h rfl (za9 rfl) Splits.nil
    refine zao (zyR 1 rfl (zaW rfl zbN (zyR 1 rfl ?_)))
    refine zyS (s:=30) rfl h (fun h => ?_) (fun h => ?_)
    ·
     refine zyR 1 rfl (zaW rfl zci (zyR 2 rfl (zaE ?_)))
     exact zaj (decide ((r1:Int)≤841)) h rfl (za9 rfl) Splits.nil
    refine zyR 4 rfl (zaE ?_)
    exact zaj false h rfl (za9 rfl) Splits.nil
   refine zyR 4 rfl (zyN (za3 rfl (zao (zyR 1 rfl (zaW rfl zbN (zyR 1 rfl ?_))))))
   refine zyS (s:=30) rfl h (fun h => ?_) (fun h => ?_)
   ·
    refine zyR 1 rfl (zaW rfl zci (zyR 2 rfl (zaE ?_)))
    exact zaj (decide ((r1:Int)≤841)) h rfl (za9 rfl) Splits.nil
   refine zyR 4 rfl (zaE ?_)
   exact zaj false h rfl (za9 rfl) Splits.nil
  refine zyR 4 rfl (zyN (za3 rfl (zyG (zyR 1 rfl (zaW rfl zbN (zyR 1 rfl ?_))))))
  refine zyS (s:=18) rfl h (fun h => ?_) (fun h => ?_)
  ·
   refine zyR 1 rfl (zaW rfl zci (zyR 2 rfl (zyN ?_)))
   refine zyB rfl h (fun h => ?_) (fun h => ?_)
   ·
    refine zaq ?_
    exact zaj (decide ((r1:Int)≤819)) h rfl (za9 rfl) Splits.nil
   refine zyG (zyR 1 rfl (zaW rfl zbN (zyR 1 rfl ?_)))
   refine zyS (s:=24) rfl h (fun h => ?_) (fun h => ?_)
   ·
    refine zyR 1 rfl (zaW rfl zci (zyR 2 rfl (zyN ?_)))
    refine zyB rfl h (fun h => ?_) (fun h => ?_)
    ·
     refine zaq ?_
     exact zaj (decide ((r1:Int)≤828)) h rfl (za9 rfl) Splits.nil
    refine zao (zyR 1 rfl (zaW rfl zbN (zyR 1 rfl ?_)))
    refine zyS (s:=30) rfl h (fun h => ?_) (fun h => ?_)
    ·
     refine zyR 1 rfl (zaW rfl zci (zyR 2 rfl (zaE ?_)))
     exact zaj (decide ((r1:Int)≤841)) h rfl (za9 rfl) Splits.nil
    refine zyR 4 rfl (zaE ?_)
    exact zaj false h rfl (za9 rfl) Splits.nil
   refine zyR 4 rfl (zyN (za3 rfl (zao (zyR 1 rfl (zaW rfl zbN (zyR 1 rfl ?_))))))
   refine zyS (s:=30) rfl h (fun h => ?_) (fun h => ?_)
   ·
    refine zyR 1 rfl (zaW rfl zci (zyR 2 rfl (zaE ?_)))
    exact zaj (decide ((r1:Int)≤841)) h rfl (za9 rfl) Splits.nil
   refine zyR 4 rfl (zaE ?_)
   exact zaj false h rfl (za9 rfl) Splits.nil
  refine zyR 4 rfl (zyN (za3 rfl (zyG (zyR 1 rfl (zaW rfl zbN (zyR 1 rfl ?_))))))
  refine zyS (s:=24) rfl h (fun h => ?_) (fun h => ?_)
  ·
   refine zyR 1 rfl (zaW rfl zci (zyR 2 rfl (zyN ?_)))
   refine zyB rfl h (fun h => ?_) (fun h => ?_)
   ·
    refine zaq ?_
    exact zaj (decide ((r1:Int)≤828)) h rfl (za9 rfl) Splits.nil
   refine zao (zyR 1 rfl (zaW rfl zbN (zyR 1 rfl ?_)))
   refine zyS (s:=30) rfl h (fun h => ?_) (fun h => ?_)
   ·
    refine zyR 1 rfl (zaW rfl zci (zyR 2 rfl (zaE ?_)))
    exact zaj (decide ((r1:Int)≤841)) h rfl (za9 rfl) Splits.nil
   refine zyR 4 rfl (zaE ?_)
   exact zaj false h rfl (za9 rfl) Splits.nil
  refine zyR 4 rfl (zyN (za3 rfl (zao (zyR 1 rfl (zaW rfl zbN (zyR 1 rfl ?_))))))
  refine zyS (s:=30) rfl h (fun h => ?_) (fun h => ?_)
  ·
   refine zyR 1 rfl (zaW rfl zci (zyR 2 rfl (zaE ?_)))
   exact zaj (decide ((r1:Int)≤841)) h rfl (za9 rfl) Splits.nil
  refine zyR 4 rfl (zaE ?_)
  exact zaj false h rfl (za9 rfl) Splits.nil
 rintro x1 h
 rw [hj1] at h
 refine zyB rfl h (fun h => ?_) (fun h => ?_)
 ·
  refine zyG (zyR 1 rfl (zyN (zaD (zal (zai ?_)))))
  cases h
  exact zba 2 results75
 obtain ⟨j2,hj2,h⟩:=zbT h
 refine za2 (β:=Bool) 0 rfl (fun b=>j2 b=some r) (fun b=>[]) (fun b=>[(34,.bool b)]) (fun b=>[]) (fun cut => ?_) ?_
 ·
  refine cut (zyG (zyR 1 rfl (zaW rfl zbN (zyR 1 rfl ?_))))
  refine zyS (s:=37) rfl h (fun h => ?_) (fun h => ?_)
  ·
   refine zyR 1 rfl (zaW rfl zci (zyR 2 rfl (zyN ?_)))
   refine zyB rfl h (fun h => ?_) (fun h => ?_)
   ·
    refine zaq ?_
    exact zaj (decide ((r1:Int)≤846)) h rfl (za9 rfl) Splits.nil
   refine zyG (zyR 1 rfl (zaW rfl zbN (zyR 1 rfl ?_)))
   refine zyS (s:=43) rfl h (fun h => ?_) (fun h => ?_)
   ·
    refine zyR 1 rfl (zaW rfl zci (zyR 2 rfl (zyN ?_)))
    refine zyB rfl h (fun h => ?_) (fun h => ?_)
    ·
     refine zaq ?_
     exact zaj (decide ((r1:Int)≤854)) h rfl (za9 rfl) Splits.nil
    refine zao (zyR 1 rfl (zaW rfl zbN (zyR 1 rfl ?_)))
    refine zyS (s:=49) rfl h (fun h => ?_) (fun h => ?_)
    ·
     refine zyR 1 rfl (zaW rfl zci (zyR 2 rfl (zaE ?_)))
     exact zaj (decide ((r1:Int)≤858)) h rfl (za9 rfl) Splits.nil
    refine zyR 4 rfl (zaE ?_)
    exact zaj false h rfl (za9 rfl) Splits.nil
   refine zyR 4 rfl (zyN (za3 rfl (zao (zyR 1 rfl (zaW rfl zbN (zyR 1 rfl ?_))))))
   refine zyS (s:=49) rfl h (fun h => ?_) (fun h => ?_)
   ·
    refine zyR 1 rfl (zaW rfl zci (zyR 2 rfl (zaE ?_)))
    exact zaj (decide ((r1:Int)≤858)) h rfl (za9 rfl) Splits.nil
   refine zyR 4 rfl (zaE ?_)
   exact zaj false h rfl (za9 rfl) Splits.nil
  refine zyR 4 rfl (zyN (za3 rfl (zyG (zyR 1 rfl (zaW rfl zbN (zyR 1 rfl ?_))))))
  refine zyS (s:=43) rfl h (fun h => ?_) (fun h => ?_)
  ·
   refine zyR 1 rfl (zaW rfl zci (zyR 2 rfl (zyN ?_)))
   refine zyB rfl h (fun h => ?_) (fun h => ?_)
   ·
    refine zaq ?_
    exact zaj (decide ((r1:Int)≤854)) h rfl (za9 rfl) Splits.nil
   refine zao (zyR 1 rfl (zaW rfl zbN (zyR 1 rfl ?_)))
   refine zyS (s:=49) rfl h (fun h => ?_) (fun h => ?_)
   ·
    refine zyR 1 rfl (zaW rfl zci (zyR 2 rfl (zaE ?_)))
    exact zaj (decide ((r1:Int)≤858)) h rfl (za9 rfl) Splits.nil
   refine zyR 4 rfl (zaE ?_)
   exact zaj false h rfl (za9 rfl) Splits.nil
  refine zyR 4 rfl (zyN (za3 rfl (zao (zyR 1 rfl (zaW rfl zbN (zyR 1 rfl ?_))))))
  refine zyS (s:=49) rfl h (fun h => ?_) (fun h => ?_)
  ·
   refine zyR 1 rfl (zaW rfl zci (zyR 2 rfl (zaE ?_)))
   exact zaj (decide ((r1:Int)≤858)) h rfl (za9 rfl) Splits.nil
  refine zyR 4 rfl (zaE ?_)
  exact zaj false h rfl (za9 rfl) Splits.nil
 rintro x2 h
 rw [hj2] at h
 refine zyB rfl h (fun h => ?_) (fun h => ?_)
 ·
  refine zyG (zyR 1 rfl (zyN (zaD (zal (zai ?_)))))
  cases h
  exact zba 2 results75
 refine zaq (zae (zaG (zyG (zyR 1 rfl (zyN (zaD ?_))))))
 cases h
 exact zba 2 results75
def zcp (u1:zah):Option Bool := zat (decide ((0:Int)≤u1.base)) ( grd (I32 u1.base) <| some (((kind u1.base):Int)==1)
) ( some false
)
theorem zef {u1:zah} {u1_h0 u1_h1:Hd} {r:Bool} (h:zcp u1=some r):Fn prog 24 [.agg #[zI u1.at_,.int .u8 u1.broken,.int .i32 u1.base,u1_h0.v,u1_h1.v]] [zv1 u1_h0.v u1.low,zv1 u1_h1.v u1.high] (fun _b:Unit=>.bool r) (fun _b=>[zv1 u1_h0.v u1.low,zv1 u1_h1.v u1.high]):=by
 unfold zcp at h
 refine Fn.intro func24 rfl ntmps24 (by simp) ?_
 intro w0 K
 refine zyG ?_
 refine zeb rfl dc rfl (fun b1 => ?_)
 refine zyR 1 rfl (zyH (zag ze6 rfl dc rfl (show _=2 from rfl) (zan (k:=2) zft rfl dc rfl rfl rfl (zaW rfl zbN (zyR 1 rfl ?_)))))
 refine zyS (s:=6) rfl h (fun h => ?_) (fun h => ?_)
 ·
  refine zag ze6 rfl dc rfl (show _=2 from rfl) (zan (k:=2) zft rfl dc rfl rfl rfl ?_)
  obtain ⟨hg1,h⟩:=zcg h
  refine zaQ (v:=zI (kind u1.base)) (vs:=[.int .i32 u1.base]) rfl dc rfl rfl rfl zvz (zdV fun w=>zja u1.base w hg1.1 hg1.2) ?_
  refine zaW rfl zbn (zyR 2 rfl (zyN (zaD ?_)))
  cases h
  exact zcu (rs:=[.tmp 2]) () (.inl rfl) results24 (.cons (.tmp rfl) .nil) rfl (zaa [0,1] kr rfl)
 refine zyR 6 rfl (zyN (zaD ?_))
 cases h
 exact zcu (rs:=[.tmp 2]) () (.inl rfl) results24 (.cons (.tmp rfl) .nil) rfl (zaa [0,1] kr rfl)
def zdE (u1:zah) (r1:Int):Option zah := zak (zgL r1) fun (r2:Bool) => zat (r2) ( grd (u1.low.length+1≤2147483648) <| some (⟨(⟨u1.at_,u1.broken,u1.base,u1.low++[r1],u1.high⟩:zah).at_,(⟨u1.at_,u1.broken,u1.base,u1.low++[r1],u1.high⟩:zah).broken,(⟨u1.at_,u1.broken,u1.base,u1.low++[r1],u1.high⟩:zah).base,u1.low++[r1],u1.high⟩:zah)
) ( grd (u1.high.length+1≤2147483648) <| some (⟨(⟨u1.at_,u1.broken,u1.base,u1.low,u1.high++[r1]⟩:zah).at_,(⟨u1.at_,u1.broken,u1.base,u1.low,u1.high++[r1]⟩:zah).broken,(⟨u1.at_,u1.broken,u1.base,u1.low,u1.high++[r1]⟩:zah).base,u1.low,u1.high++[r1]⟩:zah)
)
theorem zgK {vu1:Value} {zu1:List (zah×Hd×Hd)} {iu1:Nat} {u1:zah} {u1_h0 u1_h1:Hd} (hiu1:zu1[iu1]?=some (u1,(u1_h0,u1_h1))) {r1:Int} {r:zah} (h:zdE u1 r1=some r):Fn prog 44 [.pointer (some ⟨zh6 vu1,iu1*5,none⟩),.int .i32 r1] [zv3 vu1 zu1,zv1 u1_h0.v u1.low,zv1 u1_h1.v u1.high] (fun b:Hd×Hd=>.tuple #[]) (fun b=>[zv3 vu1 (zu1.set iu1 (r,(b.1,b.2))),zv1 b.1.v r.low,zv1 b.2.v r.high]):=by
 unfold zdE at h
 refine Fn.intro func44 rfl ntmps44 (by simp) ?_
 intro w0 K
 refine zyG (zyR 1 rfl ?_)
 obtain ⟨r2,hq1,h⟩:=zbx h
 refine zaQ (v:=.bool r2) (vs:=[.int .i32 r1]) rfl dc rfl rfl rfl zyy (zoS hq1) (zyN ?_)
 refine zyB rfl h (fun h => ?_) (fun h => ?_)
 ·
  refine zao (zyR 2 rfl (za1 rfl dc rfl (zag zmV rfl dc rfl (show _=iu1*5+3 from rfl) (zcv (i:=iu1) (j:=3) (k:=0) (q:=(u1,(u1_h0,u1_h1))) zqm zbd rfl dc rfl rfl hiu1 rfl dc rfl (zyR 1 rfl ?_)))))
  refine zaX (cs:=[.int .i32 r1]) (te:=21) (ps:=[(0,.tmp 11)]) rfl dc rfl (fun _=>by kernel_rfl) (fun b1 => ?_)
  obtain ⟨hg1,h⟩:=zcg h
  refine zbP (k:=1) (k2:=3) (ys:=[r1]) underlying30 zo0 zdr zg5 rfl dc rfl rfl rfl rfl rfl rfl hg1 (fun v1 => ?_)
  refine zcr (k:=1) rfl (fun hd1 he1 => ?_)
  subst he1
  refine za1 rfl dc rfl (zag zmV rfl dc rfl (show _=iu1*5+3 from rfl) ?_)
  refine zgi (i:=iu1) (j:=3) (k:=0) (q:=(u1,(u1_h0,u1_h1))) (q':=((⟨u1.at_,u1.broken,u1.base,u1.low++[r1],u1.high⟩:zah),(hd1,u1_h1))) zwR zbd rfl rfl rfl rfl hiu1 rfl dc rfl (fun _ _=>rfl) ?_
  refine zaE (zuI (k:=0) rfl (zpg rfl (q1:=((⟨u1.at_,u1.broken,u1.base,u1.low++[r1],u1.high⟩:zah),(hd1,u1_h1))) (q2:=((⟨(⟨u1.at_,u1.broken,u1.base,u1.low++[r1],u1.high⟩:zah).at_,(⟨u1.at_,u1.broken,u1.base,u1.low++[r1],u1.high⟩:zah).broken,(⟨u1.at_,u1.broken,u1.base,u1.low++[r1],u1.high⟩:zah).base,u1.low++[r1],u1.high⟩:zah),(hd1,u1_h1))) zbd rfl) ?_)
  cases h
  exact zcu (rs:=[]) (hd1,u1_h1) (.inr rfl) results44 .nil rfl (zaa [0,1,2] kr rfl)
 refine zao (zyR 2 rfl (za1 rfl dc rfl (zag zmU rfl dc rfl (show _=iu1*5+4 from rfl) (zcv (i:=iu1) (j:=4) (k:=0) (q:=(u1,(u1_h0,u1_h1))) zqm zbd rfl dc rfl rfl hiu1 rfl dc rfl (zyR 1 rfl ?_)))))
 refine zaX (cs:=[.int .i32 r1]) (te:=21) (ps:=[(0,.tmp 21)]) rfl dc rfl (fun _=>by kernel_rfl) (fun b2 => ?_)
 obtain ⟨hg2,h⟩:=zcg h
 refine zbP (k:=2) (k2:=3) (ys:=[r1]) underlying30 zo0 zdr zg5 rfl dc rfl rfl rfl rfl rfl rfl hg2 (fun v2 => ?_)
 refine zcr (k:=2) rfl (fun hd2 he2 => ?_)
 subst he2
 refine za1 rfl dc rfl (zag zmU rfl dc rfl (show _=iu1*5+4 from rfl) ?_)
 refine zgi (i:=iu1) (j:=4) (k:=0) (q:=(u1,(u1_h0,u1_h1))) (q':=((⟨u1.at_,u1.broken,u1.base,u1.low,u1.high++[r1]⟩:zah),(u1_h0,hd2))) zwR zbd rfl rfl rfl rfl hiu1 rfl dc rfl (fun _ _=>rfl) ?_
 refine zaE (zuI (k:=0) rfl (zpg rfl (q1:=((⟨u1.at_,u1.broken,u1.base,u1.low,u1.high++[r1]⟩:zah),(u1_h0,hd2))) (q2:=((⟨(⟨u1.at_,u1.broken,u1.base,u1.low,u1.high++[r1]⟩:zah).at_,(⟨u1.at_,u1.broken,u1.base,u1.low,u1.high++[r1]⟩:zah).broken,(⟨u1.at_,u1.broken,u1.base,u1.low,u1.high++[r1]⟩:zah).base,u1.low,u1.high++[r1]⟩:zah),(u1_h0,hd2))) zbd rfl) ?_)
 cases h
 exact zcu (rs:=[]) (u1_h0,hd2) (.inr rfl) results44 .nil rfl (zaa [0,1,2] kr rfl)
def zeh (rcall:(List (Int×zaf))→Int→Option (List Int)) (Msplit1:List (Int×zaf)) (r1:Int):Option (List Int) := zat (!((zbK r1 Msplit1).isSome)) ( some ([r1]:List Int)
) ( zak (rcall Msplit1 (((zbK r1 Msplit1).getD (⟨0,0⟩:zaf)).e0)) fun (r2:(List Int)) => grd (r2.length+1≤2147483648) <| some (r2++[((zbK r1 Msplit1).getD (⟨0,0⟩:zaf)).e1])
)
def zeg (Msplit1:List (Int×zaf)) (r1:Int):Option (List Int):=zaU (fun _ _=>none) zeh zcG Msplit1 r1
theorem zlI (n:Nat):∀ {bsplit1:Nat} {Msplit1:List (Int×zaf)} {r1:Int} {r:(List Int)} (_:zaU (fun _ _=>none) zeh n Msplit1 r1=some r),Fn prog 45 [.map (some bsplit1),.int .i32 r1] [za5 (fun n:Int=>Value.int .i32 n) (fun p:zaf=>Value.agg #[.int .i32 p.e0,.int .i32 p.e1]) bsplit1 Msplit1] (fun v0:Value=>v0) (fun v0=>[za5 (fun n:Int=>Value.int .i32 n) (fun p:zaf=>Value.agg #[.int .i32 p.e0,.int .i32 p.e1]) bsplit1 Msplit1,zv1 v0 r]):=by
 induction n with
 | zero=>intro bsplit1 Msplit1 r1 r h; exact zez h
 | succ n hrec =>
 intro bsplit1 Msplit1 r1 r h
 rw [zqC] at h
 revert hrec h
 generalize zaU (fun _ _=>none) zeh n=rcall
 intro hrec h
 unfold zeh at h
 refine Fn.intro func45 rfl ntmps45 (by simp) ?_
 intro w0 K
 refine zyG (zyR 1 rfl (zyH (zyR 2 rfl ?_)))
 refine zha (k:=0) (ek:=(fun n:Int=>Value.int .i32 n)) (ev':=(fun p:zaf=>Value.agg #[.int .i32 p.e0,.int .i32 p.e1])) (kk:=r1) (z0:=(⟨0,0⟩:zaf)) (KeyOk.int underlying21) underlying55 kr rfl dc rfl rfl rfl ?_
 refine zyR 1 rfl (zaH rfl dc rfl rfl (zaH rfl dc rfl rfl ?_))
 refine za4 zuQ rfl dc (fun b1 => ?_)
 refine za6 (k:=1) (vs:=[.int .i32 (((zbK r1 Msplit1).getD (⟨0,0⟩:zaf)).e0),.int .i32 (((zbK r1 Msplit1).getD (⟨0,0⟩:zaf)).e1)]) (l':=[.int .i32 (((zbK r1 Msplit1).getD (⟨0,0⟩:zaf)).e0),.int .i32 (((zbK r1 Msplit1).getD (⟨0,0⟩:zaf)).e1)]) zwM rfl rfl rfl rfl rfl (show _≤_ by simp) rfl rfl ?_
 refine zyR 1 rfl (zyN (zaM (zyG (zyR 1 rfl (zgG rfl dc rfl zeS (zyN ?_))))))
 refine zyB rfl h (fun h => ?_) (fun h => ?_)
 ·
  refine zyG (zyR 1 rfl ?_)
  refine zaX (cs:=[.int .i32 r1]) (te:=21) (ps:=[(0,.tmp 15)]) rfl dc rfl (fun _=>by kernel_rfl) (fun b2 => ?_)
  refine zyR 1 rfl (zgv ([r1]:List Int) (k:=2) rfl zdr rfl (show 1≤maxLen by decide) ?_)
  refine zyN (zaD (zai ?_))
  cases h
  exact zcu (rs:=[.tmp 4]) (.slice (some ⟨b2,0,none⟩) 1 1) (.inl rfl) results45 (.cons (.tmp rfl) .nil) rfl (zaa [0,2] kr rfl)
 refine zaq (zaG (zaM ?_))
 obtain ⟨r2,hq1,h⟩:=zbx h
 obtain ⟨hg1,h⟩:=zcg h
 refine zuK 2 ?_
 refine let vals1:(Value×Nat)→List (Nat×Nat×Value):=fun b=>[(0,17,.map (some bsplit1)),(1,18,zP b1),(2,19,.int .i32 (((zbK r1 Msplit1).getD (⟨0,0⟩:zaf)).e0)),(3,20,b.1),(4,21,.pointer (some ⟨b1,1,none⟩)),(5,22,.int .i32 (((zbK r1 Msplit1).getD (⟨0,0⟩:zaf)).e1)),(6,23,.slice (some ⟨b.2,0,none⟩) 1 1)]; let LL1:(Nat→Prop)→(Value×Nat)→List Asn:=fun D b=>[za5 (fun n:Int=>Value.int .i32 n) (fun p:zaf=>Value.agg #[.int .i32 p.e0,.int .i32 p.e1]) bsplit1 Msplit1,cells b1 [.int .i32 (((zbK r1 Msplit1).getD (⟨0,0⟩:zaf)).e0),.int .i32 (((zbK r1 Msplit1).getD (⟨0,0⟩:zaf)).e1)] 61,eD D emp [(3,zv1 b.1 r2)],eD D emp [(6,cells b.2 [.int .i32 (((zbK r1 Msplit1).getD (⟨0,0⟩:zaf)).e1)] 21)]]; ?_
 have zhq:zyQ [3,6] LL1:=fun i h D b=>zaV rfl (zaV rfl (zaV (zwu rfl h) (zaV (zwu rfl h) rfl)))
 refine zp6 (β:=Value×Nat) 7 ((.slice none 0 0:Value),(0:Nat)) vals1 LL1 mixed kr kr dc (fun _=>rfl) (zuO (zaV zjV (zaV zjV rfl))) (zwv zhq (fun _=>rfl) (fun _=>rfl) 1 0 (fun _=>rfl) rfl (zre zhq rfl (fun _=>rfl) (fun _=>rfl) ?_ (zre zhq rfl (fun _=>rfl) (fun _=>rfl) ?_ (zgT ?_ (zre zhq rfl (fun _=>rfl) (fun _=>rfl) ?_ (zre zhq rfl (fun _=>rfl) (fun _=>rfl) ?_ (zgT ?_ DrawG.nil))))))) ?_
 · exact fun D ⟨v1,b3⟩ n d c u i=>⟨_,(zuO (zaV (zcc (fun hD=>n (c 2 _ rfl (c 3 _ rfl hD 2 dc) 1 dc)) zdK) rfl)),zhb dc underlying61 zho rfl dc (za8 (by rfl) rfl) rfl (show _=0 from rfl) (zaK 1 u i)⟩
 · exact fun D ⟨v1,b3⟩ n d c u i=>⟨_,(zuO (zaV (zcc (fun hD=>n (c 3 _ rfl hD 2 dc)) zdK) rfl)),zan (k:=1) zft rfl dc (zaT 1 u d) rfl rfl (zaK 2 u i)⟩
 ·
  intro D b hn hd hcl
  obtain ⟨zb0,b3⟩:=b
  refine zj3 (zuO (zaV (zcc hn zdK) rfl)) ?_
  refine zb3 (vs:=[.map (some bsplit1),.int .i32 (((zbK r1 Msplit1).getD (⟨0,0⟩:zaf)).e0)]) rfl dc rfl (evL.cons (zdZ (m:=0) rfl rfl (hd 0 dc)) (evL.cons (zdZ (m:=2) rfl rfl (hd 2 dc)) evL.nil)) rfl zvy (hrec hq1) (zaa [0] kr rfl) ?_
  rintro v1
  refine zcI (L':=[za5 (fun n:Int=>Value.int .i32 n) (fun p:zaf=>Value.agg #[.int .i32 p.e0,.int .i32 p.e1]) bsplit1 Msplit1,cells b1 [.int .i32 (((zbK r1 Msplit1).getD (⟨0,0⟩:zaf)).e0),.int .i32 (((zbK r1 Msplit1).getD (⟨0,0⟩:zaf)).e1)] 61,emp,eD D emp [(6,cells b3 [.int .i32 (((zbK r1 Msplit1).getD (⟨0,0⟩:zaf)).e1)] 21)],zv1 v1 r2]) (zaa [4,1,2,3,5] kr rfl) ?_
  refine zkK 2 rfl rfl ?_
  exact znc (b:=(zb0,b3)) (v1,b3) 3 (by rfl) (by rfl) rfl (zzl (zay (fun hD=>absurd hD hn) (zzl rfl))) (zuO (zaV (zhh (Or.inr rfl) rfl) (zaV (zjU (by rfl)) rfl)))
 · exact fun D ⟨v1,b3⟩ n d c u i=>⟨_,(zxN (zaV (zcc (fun hD=>n (c 5 _ rfl (c 6 _ rfl hD 5 dc) 4 dc)) zdK) rfl)),zhb dc underlying61 zho rfl dc (za8 (by rfl) rfl) rfl (show _=1 from rfl) (zaK 4 u i)⟩
 · exact fun D ⟨v1,b3⟩ n d c u i=>⟨_,(zxN (zaV (zcc (fun hD=>n (c 6 _ rfl hD 5 dc)) zdK) rfl)),zan (k:=1) zft rfl dc (zaT 4 u d) rfl rfl (zaK 5 u i)⟩
 ·
  intro D b hn hd hcl
  obtain ⟨v1,zb1⟩:=b
  refine zj3 (zxN (zaV (zcc hn zdK) rfl)) ?_
  refine zaX (cs:=[.int .i32 (((zbK r1 Msplit1).getD (⟨0,0⟩:zaf)).e1)]) (te:=21) (ps:=[(0,.tmp 22)]) rfl dc (evP.cons (zdZ (m:=5) rfl rfl (hd 5 dc)) evP.nil) (fun _=>by kernel_rfl) (fun b3 => ?_)
  refine zkK 3 rfl rfl ?_
  exact znc (b:=(v1,zb1)) (v1,b3) 6 (by rfl) (by rfl) rfl (zzk (zay (fun hD=>absurd hD hn) rfl)) (zuO (zaV (zjU (by rfl)) (zaV (zhh (Or.inr rfl) rfl) rfl)))
 intro D b hall
 obtain ⟨v1,b3⟩:=b
 refine zj3 (zuO (zaV (zhh (hall 3 dc) rfl) (zaV (zhh (hall 6 dc) rfl) rfl))) ?_
 refine zbP (k:=2) (k2:=3) (ys:=[((zbK r1 Msplit1).getD (⟨0,0⟩:zaf)).e1]) underlying30 zo0 zdr zg5 rfl dc rfl rfl rfl rfl rfl rfl hg1 (fun v2 => ?_)
 refine zyR 1 rfl (zyN (zaD ?_))
 cases h
 exact zcu (rs:=[.tmp 4]) v2 (.inl rfl) results45 (.cons (.tmp rfl) .nil) rfl (zaa [0,2] kr rfl)
theorem zin {bsplit1:Nat} {Msplit1:List (Int×zaf)} {r1:Int} {r:(List Int)} (h:zeg Msplit1 r1=some r):Fn prog 45 [.map (some bsplit1),.int .i32 r1] [za5 (fun n:Int=>Value.int .i32 n) (fun p:zaf=>Value.agg #[.int .i32 p.e0,.int .i32 p.e1]) bsplit1 Msplit1] (fun v0:Value=>v0) (fun v0=>[za5 (fun n:Int=>Value.int .i32 n) (fun p:zaf=>Value.agg #[.int .i32 p.e0,.int .i32 p.e1]) bsplit1 Msplit1,zv1 v0 r]):=by
 unfold zeg at h
 exact zlI zcG  h
def zeZ (u1:zah):Option zBA := grd ((Utf8.encode u1.base).size+(zeT u1.low).size≤9223372036854775807) <| grd (((Utf8.encode u1.base)++(zeT u1.low)).size+(zeT u1.high).size≤9223372036854775807) <| some (((Utf8.encode u1.base)++(zeT u1.low))++(zeT u1.high))
theorem zlc {u1:zah} {u1_h0 u1_h1:Hd} {r:zBA} (h:zeZ u1=some r):Fn prog 21 [.agg #[zI u1.at_,.int .u8 u1.broken,.int .i32 u1.base,u1_h0.v,u1_h1.v]] [zv1 u1_h0.v u1.low,zv1 u1_h1.v u1.high] (fun _b:Unit=>.string r) (fun _b=>[zv1 u1_h0.v u1.low,zv1 u1_h1.v u1.high]):=by
 unfold zeZ at h
 refine Fn.intro func21 rfl ntmps21 (by simp) ?_
 intro w0 K
 refine zyG ?_
 refine zeb rfl dc rfl (fun b1 => ?_)
 refine zyR 1 rfl (zyH (zag ze6 rfl dc rfl (show _=2 from rfl) (zan (k:=2) zft rfl dc rfl rfl rfl (zdC rfl dc rfl (zda underlying21 underlying9) (zag zmV rfl dc rfl (show _=3 from rfl) (zan (k:=2) zqm rfl dc rfl rfl rfl (ziN (k:=0) rfl dc rfl rfl underlying30 underlying21 underlying9 ?_)))))))
 obtain ⟨hg1,h⟩:=zcg h
 refine zaW rfl (zfq hg1) (zag zmU rfl dc rfl (show _=4 from rfl) (zan (k:=2) zqm rfl dc rfl rfl rfl (ziN (k:=1) rfl dc rfl rfl underlying30 underlying21 underlying9 ?_)))
 obtain ⟨hg2,h⟩:=zcg h
 refine zaW rfl (zfq hg2) (zyR 1 rfl (zyN (zaD ?_)))
 cases h
 exact zcu (rs:=[.tmp 2]) () (.inl rfl) results21 (.cons (.tmp rfl) .nil) rfl (zaa [0,1] kr rfl)
def zfk (u1:zah) (j1:Option zBA) (ag1:Int→Bool→Nat→Option zBA) (from3:Int) (head3:Bool) (m3:Nat):Option zBA := zat (decide (m3<(pcs zLit0.data.toList).length)) ( zak ((pcs zLit0.data.toList)[m3]?) fun (p1:Pc) => zbF (fun (j2:Int→Option zBA) => zat (((p1.r:Int):Int)==32) ( zat (decide ((0:Int)≤from3)) ( grd (0≤(from3:Int)∧(from3:Int)≤(p1.i:Int)∧((p1.i:Int):Int)≤(zLit0.size:Int)) <| some (zcz zLit0 from3 (p1.i:Int))
) ( zat (((p1.r:Int):Int)==32) ( j2 from3
) ( zat (head3) ( zat (((p1.r:Int):Int)==(zbb u1.base)) ( grd (I64 ((p1.i:Int)+((Utf8.encode (p1.r:Int)).size:Int))) <| j2 ((p1.i:Int)+((Utf8.encode (p1.r:Int)).size:Int))
) ( j2 from3
)
) ( j2 from3
)
)
)
) ( zat (((p1.r:Int):Int)==32) ( j2 from3
) ( zat (head3) ( zat (((p1.r:Int):Int)==(zbb u1.base)) ( grd (I64 ((p1.i:Int)+((Utf8.encode (p1.r:Int)).size:Int))) <| j2 ((p1.i:Int)+((Utf8.encode (p1.r:Int)).size:Int))
) ( j2 from3
)
) ( j2 from3
)
)
)
) (fun (from4:Int) => ag1 from4 (((p1.r:Int):Int)==32) (m3+1)
)
) ( j1
)
def ze9 (u1:zah):Option zBA := zak (zcp u1) fun (r1:Bool) => zat (!r1) ( some (Utf8.encode u1.base)
) ( zbF (fun (j1:Option zBA) => grd (I32 u1.base) <| zaU (fun _ _ _=>none) (zfk u1 j1) zcG (-1) true 0
) ( some (Utf8.encode (zbb u1.base))
)
)
theorem zmQ {u1:zah} {u1_h0 u1_h1:Hd} {r:zBA} (h:ze9 u1=some r):Fn prog 86 [.agg #[zI u1.at_,.int .u8 u1.broken,.int .i32 u1.base,u1_h0.v,u1_h1.v]] [zv1 u1_h0.v u1.low,zv1 u1_h1.v u1.high] (fun _b:Unit=>.string r) (fun _b=>[zv1 u1_h0.v u1.low,zv1 u1_h1.v u1.high]):=by
 unfold ze9 at h
 refine Fn.intro func86 rfl ntmps86 (by simp) ?_
 intro w0 K
 refine zyG ?_
 refine zeb rfl dc rfl (fun b1 => ?_)
 refine zyR 1 rfl (zyN (zaM (zyG (zbW (k:=2) (cs:=[zI u1.at_,.int .u8 u1.broken,.int .i32 u1.base,u1_h0.v,u1_h1.v]) zkT rfl dc rfl rfl rfl rfl ?_))))
 obtain ⟨r1,hq1,h⟩:=zbx h
 refine zfG (v:=.bool r1) (vs:=[.agg #[zI u1.at_,.int .u8 u1.broken,.int .i32 u1.base,u1_h0.v,u1_h1.v]]) rfl dc rfl rfl rfl ztR (zef (u1:=u1) (u1_h0:=u1_h0) (u1_h1:=u1_h1) hq1) [0,1] kr rfl (zgG rfl dc rfl zeS (zyN ?_))
 refine zyB rfl h (fun h => ?_) (fun h => ?_)
 ·
  refine zyG (zag ze6 rfl dc rfl (show _=2 from rfl) (zan (k:=2) zft rfl dc rfl rfl rfl (zdC rfl dc rfl (zda underlying21 underlying9) (zyR 1 rfl (zyN (zaD (zai ?_)))))))
  cases h
  exact zcu (rs:=[.tmp 2]) () (.inl rfl) results86 (.cons (.tmp rfl) .nil) rfl (zaa [0,1] kr rfl)
 refine zaq (zaG ?_)
 obtain ⟨j1,hj1,h⟩:=zbT h
 refine za2 (β:=Unit) 3 rfl (fun b=>j1=some r) (fun b=>[]) (fun b=>[(3,.int .i32 (zbb u1.base))]) (fun b=>[zv1 u1_h0.v u1.low,zv1 u1_h1.v u1.high]) (fun cut => ?_) ?_
 ·
  refine zyG (zag ze6 rfl dc rfl (show _=2 from rfl) (zan (k:=2) zft rfl dc rfl rfl rfl ?_))
  obtain ⟨hg1,h⟩:=zcg h
  refine zaQ (v:=.int .i32 (zbb u1.base)) (vs:=[.int .i32 u1.base]) rfl dc rfl rfl rfl ztT (zdV fun w=>zhu u1.base w hg1.1 hg1.2) ?_
  refine zyR 1 rfl (zyH (zyR 1 rfl (zyH (zyR 1 rfl (zyN (cut ?_))))))
  refine zyG ?_
  refine zfA underlying9 rfl dc rfl (fun b2 => ?_)
  refine zyN (zaA ?_)
  refine zbS (β:=Nat×Int×Bool×Nat) (fun b=>zaU (fun _ _ _=>none) (zfk u1 j1) b.1 b.2.1 b.2.2.1 b.2.2.2=some r) (fun b=>[]) (fun b=>[(3,.int .i32 (zbb u1.base)),(4,zI b.2.1),(5,.bool b.2.2.1),(17,zP b2)]) (fun b=>[zv1 u1_h0.v u1.low,zv1 u1_h1.v u1.high,obj b2 (.stringIter zLit0 (zgx zLit0 b.2.2.2))]) (fun b=>b.1) (zcG,(-1),true,0) (by exact h) rfl (za9 rfl) (zaa [0,1,3] kr rfl) ?_
  rintro ⟨n1,from3,head3,m3⟩ h
  cases n1 with
  | zero=>exact zez h
  | succ n1 =>
   obtain ⟨ag1,hag1⟩:∃ ag,ag=zaU (fun _ _ _=>none) (zfk u1 j1) n1:=⟨_,rfl⟩
   have h:zfk u1 j1 ag1 from3 head3 m3=some r:=by rw [hag1]; exact h
   unfold zfk at h
   refine zyG ?_
   refine zfC (b:=decide (m3<(pcs zLit0.data.toList).length)) (fun hb2 => ?_) (fun hb2 => ?_)
   ·
    have h:=zlL hb2 h
    obtain ⟨p1,hq2,h⟩:=zbx h
    refine zf0 (k:=2) (m:=m3) (p:=p1) rfl dc rfl rfl hq2 (zaH rfl dc rfl rfl (zyN (zaM (zcf rfl (zaq (zaG (zaA ?_)))))))
    obtain ⟨j2,hj2,h⟩:=zbT h
    refine za2 (β:=Int) 1 rfl (fun b=>j2 b=some r) (fun b=>[]) (fun b=>[(3,.int .i32 (zbb u1.base)),(4,zI b),(7,.int .i32 (p1.r:Int)),(17,zP b2)]) (fun b=>[zv1 u1_h0.v u1.low,zv1 u1_h1.v u1.high,obj b2 (.stringIter zLit0 (zgx zLit0 (m3+1)))]) (fun cut => ?_) ?_
    ·
     refine zyG (zaH rfl dc rfl rfl (zaH rfl dc rfl rfl (zyR 2 rfl (zyN (cut (zaA (zyG (zyR 1 rfl (zaW rfl zbn ?_)))))))))
     refine zyR 1 rfl ?_
     refine zyS (s:=25) rfl h (fun h => ?_) (fun h => ?_)
     ·
      refine zyR 1 rfl (zaW rfl zbN (zyR 2 rfl (zyN ?_)))
      refine zyB rfl h (fun h => ?_) (fun h => ?_)
      ·
       refine zyG (zyR 2 rfl ?_)
       obtain ⟨hg2,h⟩:=zcg h
       refine zce rfl dc rfl rfl rfl (za7 (i:=from3) (j:=(p1.i:Int)) underlying9 (.inr rfl) (.inr rfl) hg2) (zyR 1 rfl (zyN (zaD (zal (zai (zal (zai (zal (zai ?_)))))))))
       cases h
       exact zcu (rs:=[.tmp 2]) () (.inl rfl) results86 (.cons (.tmp rfl) .nil) rfl (zaa [0,1] kr rfl)
      refine zyG (zyR 1 rfl (zaW rfl zbn (zyR 1 rfl (zyN ?_))))
      refine zyB rfl h (fun h => ?_) (fun h => ?_)
      ·
       refine zaq (zae ?_)
       exact zaj from3 h rfl (za9 rfl) (zaa [0,1,2] kr rfl)
      refine zyG (zyR 2 rfl ?_)
      refine zyS (s:=37) rfl h (fun h => ?_) (fun h => ?_)
      ·
       refine zyR 2 rfl (zaW rfl zbn (zyR 2 rfl (zyN ?_)))
       refine zyB rfl h (fun h => ?_) (fun h => ?_)
       ·
        refine zao (zyR 2 rfl (zdC rfl dc rfl (zda underlying21 underlying9) (zcU rfl dc rfl underlying9 ?_)))
        obtain ⟨hg3,h⟩:=zcg h
        refine zaW rfl (zbi (r:=(p1.i:Int)+((Utf8.encode (p1.r:Int)).size:Int)) (IntWalk.i64_in _ hg3)) (zyR 1 rfl (zaE (zae ?_)))
        exact zaj ((p1.i:Int)+((Utf8.encode (p1.r:Int)).size:Int)) h rfl (za9 rfl) (zaa [0,1,2] kr rfl)
       refine zaq (zae ?_)
       exact zaj from3 h rfl (za9 rfl) (zaa [0,1,2] kr rfl)
      refine zyR 5 rfl (zyN (za3 rfl (zaq (zae ?_))))
      exact zaj from3 h rfl (za9 rfl) (zaa [0,1,2] kr rfl)
     refine zyR 4 rfl (zyN (za3 rfl (zyG (zyR 1 rfl (zaW rfl zbn (zyR 1 rfl (zyN ?_)))))))
     refine zyB rfl h (fun h => ?_) (fun h => ?_)
     ·
      refine zaq (zae ?_)
      exact zaj from3 h rfl (za9 rfl) (zaa [0,1,2] kr rfl)
     refine zyG (zyR 2 rfl ?_)
     refine zyS (s:=37) rfl h (fun h => ?_) (fun h => ?_)
     ·
      refine zyR 2 rfl (zaW rfl zbn (zyR 2 rfl (zyN ?_)))
      refine zyB rfl h (fun h => ?_) (fun h => ?_)
      ·
       refine zao (zyR 2 rfl (zdC rfl dc rfl (zda underlying21 underlying9) (zcU rfl dc rfl underlying9 ?_)))
       obtain ⟨hg4,h⟩:=zcg h
       refine zaW rfl (zbi (r:=(p1.i:Int)+((Utf8.encode (p1.r:Int)).size:Int)) (IntWalk.i64_in _ hg4)) (zyR 1 rfl (zaE (zae ?_)))
       exact zaj ((p1.i:Int)+((Utf8.encode (p1.r:Int)).size:Int)) h rfl (za9 rfl) (zaa [0,1,2] kr rfl)
      refine zaq (zae ?_)
      exact zaj from3 h rfl (za9 rfl) (zaa [0,1,2] kr rfl)
     refine zyR 5 rfl (zyN (za3 rfl (zaq (zae ?_))))
     exact zaj from3 h rfl (za9 rfl) (zaa [0,1,2] kr rfl)
    rintro from4 h
    rw [hj2] at h
    refine zao (zyR 1 rfl (zaW rfl zbn (zyR 1 rfl (zaE (zae ?_)))))
    subst hag1
    exact zbv (n1,from4,((p1.r:Int):Int)==32,m3+1) h (Nat.lt_succ_self _) rfl (za9 rfl) (zaa [0,1,2] kr rfl)
   have h:=zlM hb2 h
   refine zf1 (k:=2) (m:=m3) rfl dc rfl rfl (Nat.le_of_not_lt (of_decide_eq_false hb2)) (zaH rfl dc rfl rfl (zyN (zaM (za3 rfl (zbG (zap (zap (zaI ?_))))))))
   exact zaj () h rfl (za9 rfl) (zaa [0,1] kr rfl)
 rintro _ h
 rw [hj1] at h
 refine zyG (zyR 1 rfl (zdC rfl dc rfl (zda underlying21 underlying9) (zyR 1 rfl (zyN (zaD ?_)))))
 cases h
 exact zcu (rs:=[.tmp 2]) () (.inl rfl) results86 (.cons (.tmp rfl) .nil) rfl (zaa [0,1] kr rfl)
abbrev zLit1:zBA:=⟨#[204,128,65,195,128,69,195,136,73,195,140,79,195,146,85,195,153,97,195,160,101,195,168,105,195,172,111,195,178,117,195,185,208,149,208,128,208,152,208,141,208,181,209,144,208,184,209,157,204,129,65,195,129,69,195,137,73,195,141,79,195,147,85,195,154,89,195,157,97,195,161,101,195,169,105,195,173,111,195,179,117,195,186,121,195,189,67,196,134,76,196,185,78,197,131,82,197,148,83,197,154,90,197,185,99,196,135,108,196,186,110,197,132,114,197,149,115,197,155,122,197,186,206,145,206,134,206,149,206,136,206,151,206,137,206,153,206,138,206,159,206,140,206,165,206,142,206,169,206,143,206,177,206,172,206,181,206,173,206,183,206,174,206,185,206,175,206,191,207,140,207,133,207,141,207,137,207,142,208,147,208,131,208,154,208,140,208,179,209,147,208,186,209,156,207,138,206,144,207,139,206,176,204,130,65,195,130,69,195,138,73,195,142,79,195,148,85,195,155,97,195,162,101,195,170,105,195,174,111,195,180,117,195,187,67,196,136,71,196,156,72,196,164,74,196,180,83,197,156,87,197,180,89,197,182,99,196,137,103,196,157,104,196,165,106,196,181,115,197,157,119,197,181,121,197,183,204,131,65,195,131,78,195,145,79,195,149,97,195,163,110,195,177,111,195,181,73,196,168,85,197,168,105,196,169,117,197,169,204,132,65,196,128,69,196,146,73,196,170,79,197,140,85,197,170,97,196,129,101,196,147,105,196,171,111,197,141,117,197,171,204,134,65,196,130,69,196,148,71,196,158,73,196,172,79,197,142,85,197,172,97,196,131,101,196,149,103,196,159,105,196,173,111,197,143,117,197,173,208,152,208,153,208,163,208,142,208,184,208,185,209,131,209,158,204,135,67,196,138,69,196,150,71,196,160,73,196,176,90,197,187,99,196,139,101,196,151,103,196,161,122,197,188,204,136,65,195,132,69,195,139,73,195,143,79,195,150,85,195,156,97,195,164,101,195,171,105,195,175,111,195,182,117,195,188,121,195,191,89,197,184,208,149,208,129,208,134,208,135,208,181,209,145,209,150,209,151,206,153,206,170,206,165,206,171,206,185,207,138,207,133,207,139,204,138,65,195,133,85,197,174,97,195,165,117,197,175,204,139,79,197,144,85,197,176,111,197,145,117,197,177,204,140,67,196,140,68,196,142,69,196,154,76,196,189,78,197,135,82,197,152,83,197,160,84,197,164,90,197,189,99,196,141,100,196,143,101,196,155,108,196,190,110,197,136,114,197,153,115,197,161,116,197,165,122,197,190,204,167,67,195,135,71,196,162,75,196,182,76,196,187,78,197,133,82,197,150,83,197,158,84,197,162,99,195,167,103,196,163,107,196,183,108,196,188,110,197,134,114,197,151,115,197,159,116,197,163,204,168,65,196,132,69,196,152,73,196,174,85,197,178,97,196,133,101,196,153,105,196,175,117,197,179]⟩
def zfl (ag1:Int→Int→Bool→Nat→Option (List (zaf×Int))) (p7:Int) (p8:Int) (base4:Bool) (m4:Nat):Option (List (zaf×Int)) := zat (decide (m4<(pcs zLit1.data.toList).length)) ( zak ((pcs zLit1.data.toList)[m4]?) fun (p9:Pc) => zbF (fun (j1:Int→Option (List (zaf×Int))) => grd (I32 (p9.r:Int)) <| zat (((kind (p9.r:Int)):Int)==2) ( ag1 p7 (p9.r:Int) true (m4+1)
) ( zat (base4) ( j1 (p9.r:Int)
) ( zm3 ((⟨p7,p8⟩:zaf),(p9.r:Int)) <| j1 p7
)
)
) (fun (p10:Int) => ag1 p10 p8 (!base4) (m4+1)
)
) ( some []
)
def zhB  : Option (List (zaf×Int)) := zaU (fun _ _ _ _=>none) (zfl) zcG 0 0 true 0
theorem zlJ  {xs:(List (zaf×Int))} (h:zhB=some xs):Itr prog 46 [] (fun q:zaf×Int=>[.agg #[.int .i32 q.1.e0,.int .i32 q.1.e1],.int .i32 q.2]) xs []:=by
 unfold zhB at h
 refine Itr.intro func46 rfl ntmps46 (by simp) ?_
 intro l w0 K I X hRo hy
 obtain ⟨r0,hx0⟩:∃ r,xs=[]++r:=⟨xs,rfl⟩
 have hr0:xs=r0:=hx0
 rw [hr0] at h
 refine zyG ?_
 refine za4 zuQ rfl dc (fun b1 => ?_)
 refine zyH (zyR 1 rfl (zyH ?_))
 refine zfA underlying9 rfl dc rfl (fun b2 => ?_)
 refine zyN (zaA ?_)
 refine zbS (β:=Nat×Int×Int×Bool×Nat×(List (zaf×Int))×(List (zaf×Int))) (fun b=>zaU (fun _ _ _ _=>none) (zfl) b.1 b.2.1 b.2.2.1 b.2.2.2.1 b.2.2.2.2.1=some b.2.2.2.2.2.2∧xs=b.2.2.2.2.2.1++b.2.2.2.2.2.2) (fun b=>[]) (fun b=>[(0,.func (.yield l) #[] #[]),(2,zP b1),(3,.bool b.2.2.2.1),(6,zP b2)]) (fun b=>[I b.2.2.2.2.2.1,cells b1 [.int .i32 b.2.1,.int .i32 b.2.2.1] 61,obj b2 (.stringIter zLit1 (zgx zLit1 b.2.2.2.2.1))]) (fun b=>b.1) (zcG,0,0,true,0,([]:List (zaf×Int)),r0) ⟨h,hx0⟩ rfl (za9 rfl) (zaa [0,1,2] kr rfl) ?_
 rintro ⟨n1,p7,p8,base4,m4,acc3,rr3⟩ ⟨h,hx3⟩
 cases n1 with
 | zero=>exact zez h
 | succ n1 =>
  obtain ⟨ag1,hag1⟩:∃ ag,ag=zaU (fun _ _ _ _=>none) (zfl) n1:=⟨_,rfl⟩
  have h:zfl ag1 p7 p8 base4 m4=some rr3:=by rw [hag1]; exact h
  unfold zfl at h
  refine zyG ?_
  refine zfC (b:=decide (m4<(pcs zLit1.data.toList).length)) (fun hb1 => ?_) (fun hb1 => ?_)
  ·
   have h:=zlL hb1 h
   obtain ⟨p9,hq1,h⟩:=zbx h
   refine zf0 (k:=2) (m:=m4) (p:=p9) rfl dc rfl rfl hq1 (zaH rfl dc rfl rfl (zyN (zaM (zcf rfl (zaq (zaG (zaA ?_)))))))
   obtain ⟨j1,hj1,h⟩:=zbT h
   refine za2 (β:=Int×(List (zaf×Int))×(List (zaf×Int))) 1 rfl (fun b=>j1 b.1=some b.2.2∧xs=b.2.1++b.2.2) (fun b=>[]) (fun b=>[(0,.func (.yield l) #[] #[]),(2,zP b1),(3,.bool base4),(6,zP b2)]) (fun b=>[I b.2.1,cells b1 [.int .i32 b.1,.int .i32 p8] 61,obj b2 (.stringIter zLit1 (zgx zLit1 (m4+1)))]) (fun cut => ?_) ?_
   ·
    refine zyG (zaH rfl dc rfl rfl (zyR 1 rfl (zyN (cut (zaA (zyG (zyR 1 rfl ?_)))))))
    obtain ⟨hg1,h⟩:=zcg h
    refine zaQ (v:=zI (kind (p9.r:Int))) (vs:=[.int .i32 (p9.r:Int)]) rfl dc rfl rfl rfl zvz (zdV fun w=>zja (p9.r:Int) w hg1.1 hg1.2) ?_
    refine zaW rfl zbn (zyR 1 rfl (zyN ?_))
    refine zyB rfl h (fun h => ?_) (fun h => ?_)
    ·
     refine zyG (zyR 1 rfl (zhb dc underlying61 zho rfl dc rfl rfl (show _=1 from rfl) ?_))
     refine zaP (k:=1) (l':=[.int .i32 p7,.int .i32 (p9.r:Int)]) zho rfl rfl rfl rfl rfl (fun _ _=>rfl) rfl ?_
     refine zyR 1 rfl (zyN (zbG (zh3 dc (zap (zaI ?_)))))
     subst hag1
     exact zbv (n1,p7,(p9.r:Int),true,m4+1,acc3,rr3) ⟨h,hx3⟩ (Nat.lt_succ_self _) rfl (za9 rfl) (zaa [0,1,2] kr rfl)
    refine zyG (zyR 2 rfl (zyN ?_))
    refine zyB rfl h (fun h => ?_) (fun h => ?_)
    ·
     refine zao (zyR 1 rfl (zhb dc underlying61 zho rfl dc rfl rfl (show _=0 from rfl) ?_))
     refine zaP (k:=1) (l':=[.int .i32 (p9.r:Int),.int .i32 p8]) zho rfl rfl rfl rfl rfl (fun _ _=>rfl) rfl ?_
     refine zaE (zae ?_)
     exact zaj ((p9.r:Int),acc3,rr3) ⟨h,hx3⟩ rfl (za9 rfl) (zaa [0,1,2] kr rfl)
    refine zyG (zyR 1 rfl (zbW (k:=1) (cs:=[.int .i32 p7,.int .i32 p8]) zrF rfl dc rfl rfl rfl rfl (zyR 1 rfl ?_)))
    obtain ⟨rr5,hr1,h⟩:=zo5 h
    have hx5:xs=acc3++((⟨p7,p8⟩:zaf),(p9.r:Int))::rr5:=by rw [hx3,hr1]
    refine zg8 hy rfl dc rfl hx5 rfl (k:=0) rfl ?_ ?_
    ·
     have hx6:xs=(acc3++[((⟨p7,p8⟩:zaf),(p9.r:Int))])++rr5:=by rw [hx5]; simp
     refine zgG rfl dc rfl zeS (zyR 1 rfl (zyN (za3 rfl (zaq (zae ?_)))))
     exact zaj (p7,acc3++[((⟨p7,p8⟩:zaf),(p9.r:Int))],rr5) ⟨h,hx6⟩ rfl (za9 rfl) (zaa [0,1,2] kr rfl)
    refine zgG rfl dc rfl zeS (zyR 1 rfl (zyN (zcf rfl (zaD (zal (zai (zal (zai (zal ?_)))))))))
    exact ziL (ds:=[]) acc3 ((⟨p7,p8⟩:zaf),(p9.r:Int)) rr5 hx5 (.inl rfl) Splits.nil results46 (zaa [0] kr rfl)
   rintro ⟨p10,acc4,rr4⟩ ⟨h,hx4⟩
   rw [hj1] at h
   refine zao (zyR 1 rfl (zgG rfl dc rfl zeS (zyR 1 rfl (zaE (zae ?_)))))
   subst hag1
   exact zbv (n1,p10,p8,!base4,m4+1,acc4,rr4) ⟨h,hx4⟩ (Nat.lt_succ_self _) rfl (za9 rfl) (zaa [0,1,2] kr rfl)
  have h:=zlM hb1 h
  refine zf1 (k:=2) (m:=m4) rfl dc rfl rfl (Nat.le_of_not_lt (of_decide_eq_false hb1)) (zaH rfl dc rfl rfl (zyN (zaM (za3 rfl (zbG (zap (zap (zaI ?_))))))))
  cases h
  exact zj2 (ds:=[]) (.inr rfl) Splits.nil results46 (congrArg I (hx3.trans (List.append_nil _))) (zaa [0] kr rfl)
def zeY (x1:zaf×Int) (ag1:(List (zaf×Int))→(List (Int×zaf))→Option ((List (zaf×Int))×(List (Int×zaf)))) (join4:List (zaf×Int)) (split4:List (Int×zaf)):Option ((List (zaf×Int))×(List (Int×zaf))) := ag1 (zgw x1.1 x1.2 join4) (zgw x1.2 x1.1 split4)
def zeJ  : Option ((List (zaf×Int))×(List (Int×zaf))) := zbF (fun (j1:(List (zaf×Int))→(List (Int×zaf))→Option ((List (zaf×Int))×(List (Int×zaf)))) => zak (zhB) fun (its1:(List (zaf×Int))) => zbF (fun (dn1:(List (zaf×Int))→(List (Int×zaf))→Option ((List (zaf×Int))×(List (Int×zaf)))) => zb4 dn1 (zeY) its1 ([]:List (zaf×Int)) ([]:List (Int×zaf))
) (fun (join4:List (zaf×Int)) (split4:List (Int×zaf)) => j1 join4 split4
)
) (fun (join1:List (zaf×Int)) (split1:List (Int×zaf)) => some (join1,split1)
)
theorem zgz  {r:((List (zaf×Int))×(List (Int×zaf)))} (h:zeJ=some r):Fn prog 22 [] [] (fun b:Nat×Nat=>.tuple #[.map (some b.1),.map (some b.2)]) (fun b=>[za5 (fun p:zaf=>Value.agg #[.int .i32 p.e0,.int .i32 p.e1]) (fun n:Int=>Value.int .i32 n) b.1 r.1,za5 (fun n:Int=>Value.int .i32 n) (fun p:zaf=>Value.agg #[.int .i32 p.e0,.int .i32 p.e1]) b.2 r.2]):=by
 unfold zeJ at h
 refine Fn.intro func22 rfl ntmps22 (by simp) ?_
 intro w0 K
 refine zfV ?_
 obtain ⟨j1,hj1,h⟩:=zbT h
 refine za2 (β:=(List (zaf×Int))×(List (Int×zaf))×Nat×Nat×Nat×Nat×(List Nat)) 2 rfl (fun b=>j1 b.1 b.2.1=some r) (fun b=>zdp b.2.2.2.2.2.2) (fun b=>[(2,zP b.2.2.1),(3,zP b.2.2.2.2.1)]) (fun b=>[cells b.2.2.1 [.map (some b.2.2.2.1)] 54,za5 (fun p:zaf=>Value.agg #[.int .i32 p.e0,.int .i32 p.e1]) (fun n:Int=>Value.int .i32 n) b.2.2.2.1 b.1,cells b.2.2.2.2.1 [.map (some b.2.2.2.2.2.1)] 55,za5 (fun n:Int=>Value.int .i32 n) (fun p:zaf=>Value.agg #[.int .i32 p.e0,.int .i32 p.e1]) b.2.2.2.2.2.1 b.2.1,zej ((b.2.2.2.2.2.2:List Nat).map zdW)]) (fun cut => ?_) ?_
 ·
  refine zyG (zyR 2 rfl (zyH ?_))
  refine zgS (fun p:zaf=>Value.agg #[.int .i32 p.e0,.int .i32 p.e1]) (fun n:Int=>Value.int .i32 n) rfl dc (fun b5 => ?_)
  refine zgS (fun n:Int=>Value.int .i32 n) (fun p:zaf=>Value.agg #[.int .i32 p.e0,.int .i32 p.e1]) rfl dc (fun b6 => ?_)
  refine za4 zwB rfl dc (fun b7 => ?_)
  refine za4 zwA rfl dc (fun b8 => ?_)
  refine zaP (k:=3) (l':=[.map (some b5)]) zwO rfl rfl rfl rfl rfl (fun _ _=>rfl) rfl ?_
  refine zaP (k:=4) (l':=[.map (some b6)]) zwN rfl rfl rfl rfl rfl (fun _ _=>rfl) rfl ?_
  refine zyN (cut (zaA ?_))
  obtain ⟨its1,hq1,h⟩:=zbx h
  obtain ⟨dn1,hdn1,h⟩:=zbT h
  refine zhc (α:=zaf×Int) (β:=(List (zaf×Int))×(List (Int×zaf))) (γ:=Unit) (δ:=Nat) (ps:=[8,9]) Ro.nil rfl zy0 (zlJ hq1) (fun pre b=>∀ post,its1=pre++post→zb4 dn1 (zeY) post b.1 b.2=some r) (fun pre b=>[cells b7 [.map (some b5)] 54,za5 (fun p:zaf=>Value.agg #[.int .i32 p.e0,.int .i32 p.e1]) (fun n:Int=>Value.int .i32 n) b5 b.1,cells b8 [.map (some b6)] 55,za5 (fun n:Int=>Value.int .i32 n) (fun p:zaf=>Value.agg #[.int .i32 p.e0,.int .i32 p.e1]) b6 b.2]) (fun c pre g=>False) (fun c pre g=>[]) (fun pre x b j=>[(0,.map none),(1,.map none),(2,zP b7),(3,zP b8),(4,zP j),(5,.int .i32 x.2)]) (fun pre x b j=>[cells b7 [.map (some b5)] 54,za5 (fun p:zaf=>Value.agg #[.int .i32 p.e0,.int .i32 p.e1]) (fun n:Int=>Value.int .i32 n) b5 b.1,cells b8 [.map (some b6)] 55,za5 (fun n:Int=>Value.int .i32 n) (fun p:zaf=>Value.agg #[.int .i32 p.e0,.int .i32 p.e1]) b6 b.2,cells j [.int .i32 x.1.e0,.int .i32 x.1.e1] 61]) (([]:List (zaf×Int)),([]:List (Int×zaf))) (fun post e=>by rw [List.nil_append] at e; subst e; exact h) (zaa [3,1,4,2] kr rfl) trivial (fun _=>rfl) dc ?_ ?_ ?_ ?_
  ·
   rintro lp rc pre x1 post ⟨join4,split4⟩ w1 K1 hxs1 hext hro hinv
   refine zyG ?_
   refine za4 zuQ rfl dc (fun b9 => ?_)
   refine za6 (k:=4) (vs:=[.int .i32 x1.1.e0,.int .i32 x1.1.e1]) (l':=[.int .i32 x1.1.e0,.int .i32 x1.1.e1]) zwM rfl rfl rfl rfl rfl (show _≤_ by simp) rfl rfl ?_
   refine zyN (zao (zyR 1 rfl (zaE ?_)))
   exact fun a w ha hw=>⟨b9,(za9 rfl) _ _ _ ha,hw.weaken (zaa [0,1,2,3,4] kr rfl)⟩
  ·
   rintro lp rc pre x1 post1 ⟨join4,split4⟩ jb1 w1 K1 hxs1 hext hro hinv
   have h:=hinv (x1::post1) hxs1
   obtain ⟨ag1,hag1⟩:∃ ag,ag=zb4 dn1 (zeY) post1:=⟨_,rfl⟩
   have h:zeY x1 ag1 join4 split4=some r:=by have h2:=h; rw [zbQ,← hag1] at h2; exact h2
   unfold zeY at h
   refine zaA ?_
   refine zne (β:=Unit) 7 6 _ [(0,10,.map (some b5)),(1,11,.agg #[.int .i32 x1.1.e0,.int .i32 x1.1.e1]),(2,12,.map (some b6)),(3,13,.int .i32 x1.2),(4,14,.int .i32 x1.2),(5,15,.agg #[.int .i32 x1.1.e0,.int .i32 x1.1.e1])] (fun _b=>[]) (fun _b=>[cells b7 [.map (some b5)] 54,za5 (fun p:zaf=>Value.agg #[.int .i32 p.e0,.int .i32 p.e1]) (fun n:Int=>Value.int .i32 n) b5 (zgw x1.1 x1.2 join4),cells b8 [.map (some b6)] 55,za5 (fun n:Int=>Value.int .i32 n) (fun p:zaf=>Value.agg #[.int .i32 p.e0,.int .i32 p.e1]) b6 split4,cells jb1 [.int .i32 x1.1.e0,.int .i32 x1.1.e1] 61]) mixed kr kr rfl dc dc (by rfl) kr kr (zaN ?_ (zaN ?_ (zaN ?_ (zyE 2 3 rfl (zaN ?_ (zeM DrawPreX.nil)))))) (fun _b=>(zaN ?_ (zaN ?_ (zaN ?_ (zyE 2 3 rfl (zaN ?_ (zeM DrawPreX.nil))))))) ?_ ?_
   · exact fun D n d c u i=>zan (k:=0) zrC rfl dc (za8 (by rfl) rfl) rfl rfl (zaK 0 u i)
   · exact fun D n d c u i=>zbW (k:=4) (cs:=[.int .i32 x1.1.e0,.int .i32 x1.1.e1]) zrF rfl dc (za8 (by rfl) rfl) rfl rfl rfl (zaK 1 u i)
   · exact fun D n d c u i=>zan (k:=2) ztq rfl dc (za8 (by rfl) rfl) rfl rfl (zaK 2 u i)
   · exact fun D n d c u i=>zbW (k:=4) (cs:=[.int .i32 x1.1.e0,.int .i32 x1.1.e1]) zrF rfl dc (za8 (by rfl) rfl) rfl rfl rfl (zaK 5 u i)
   · exact fun D n d c u i=>zan (k:=0) zrC rfl dc (za8 (by rfl) rfl) rfl rfl (zaK 0 u i)
   · exact fun D n d c u i=>zbW (k:=4) (cs:=[.int .i32 x1.1.e0,.int .i32 x1.1.e1]) zrF rfl dc (za8 (by rfl) rfl) rfl rfl rfl (zaK 1 u i)
   · exact fun D n d c u i=>zan (k:=2) ztq rfl dc (za8 (by rfl) rfl) rfl rfl (zaK 2 u i)
   · exact fun D n d c u i=>zbW (k:=4) (cs:=[.int .i32 x1.1.e0,.int .i32 x1.1.e1]) zrF rfl dc (za8 (by rfl) rfl) rfl rfl rfl (zaK 5 u i)
   ·
    intro D hn hd hcl
    refine zfK (k:=1) (ek:=(fun p:zaf=>Value.agg #[.int .i32 p.e0,.int .i32 p.e1])) (ev':=(fun n:Int=>Value.int .i32 n)) (kk:=x1.1) (vv:=x1.2) (zj6 (f0:=fun p:zaf=>p.e0) (f1:=fun p:zaf=>p.e1) (fun a b h1 h2=>by cases a; cases b; simp_all) underlying61 underlying21 zho) underlying54 rfl (zdZ (m:=0) kr rfl (hd 0 dc)) (zdZ (m:=1) kr rfl (hd 1 dc)) (zdZ (m:=4) kr rfl (hd 4 dc)) rfl ?_
    exact fun a w ha hw=>⟨(),ha,hw⟩
   intro _b
   refine zfK (k:=3) (ek:=(fun n:Int=>Value.int .i32 n)) (ev':=(fun p:zaf=>Value.agg #[.int .i32 p.e0,.int .i32 p.e1])) (kk:=x1.2) (vv:=x1.1) (KeyOk.int underlying21) underlying55 rfl rfl rfl rfl rfl ?_
   refine zaE (zae ?_)
   exact zcC (zgw x1.1 x1.2 join4,zgw x1.2 x1.1 split4) (fun post2 e2=>by have e9:=zb7 hxs1 e2; subst e9; subst hag1; exact h) (zaa [0,1,2,3] kr rfl)
  ·
   rintro dm1 ⟨join4,split4⟩ hinv
   have h:dn1 join4 split4=some r:=hinv [] (List.append_nil _).symm
   rw [hdn1] at h
   show TX _ _ _ _ _ _ _ [zej ((([]:List Nat):List Nat).map zdW),emp,emp,emp,emp,cells b7 [.map (some b5)] 54,za5 (fun p:zaf=>Value.agg #[.int .i32 p.e0,.int .i32 p.e1]) (fun n:Int=>Value.int .i32 n) b5 join4,cells b8 [.map (some b6)] 55,za5 (fun n:Int=>Value.int .i32 n) (fun p:zaf=>Value.agg #[.int .i32 p.e0,.int .i32 p.e1]) b6 split4,zdW dm1]
   refine zdU (k:=9) (j:=0) rfl rfl dc ?_
   refine zae ?_
   exact zaj (join4,split4,b7,b5,b8,b6,dm1::([]:List Nat)) h rfl (za9 rfl) (zaa [5,6,7,8,0] kr rfl)
  rintro dm1 c pre x1 post g hxs hX
  exact (show False from hX).elim
 rintro ⟨join1,split1,b1,b2,b3,b4,ds1⟩ h
 rw [hj1] at h
 refine zaM ?_
 refine zdh 3 [(0,16,.map (some b2)),(1,17,.map (some b4)),(2,0,.map (some b2))] mixed kr kr dc (by rfl) kr kr (zad ?_ (zad ?_ (zyP 1 2 rfl DrawPre.nil))) ?_
 · exact fun D n d c u i=>zan (k:=0) zrC rfl dc (za8 (by rfl) rfl) rfl rfl (zaK 0 u i)
 · exact fun D n d c u i=>zan (k:=2) ztq rfl dc (za8 (by rfl) rfl) rfl rfl (zaK 1 u i)
 refine zyR 1 rfl (zyN (zaD ?_))
 cases h
 exact zdj (rs:=[.tmp 0,.tmp 1]) ds1 (b2,b4) (.inl rfl) (zbf (k:=4) rfl) results22 (.cons (.tmp rfl) (.cons (.tmp rfl) .nil)) rfl (zaa [1,3] kr rfl)
def zhC (r1:Int):Option (List Int) := zak (zeJ) fun (r2:((List (zaf×Int))×(List (Int×zaf)))) => zak (zeg r2.2 r1) fun (r3:(List Int)) => some r3
theorem zmR {r1:Int} {r:(List Int)} (h:zhC r1=some r):Fn prog 59 [.int .i32 r1] [] (fun v0:Value=>v0) (fun v0=>[zv1 v0 r]):=by
 unfold zhC at h
 refine Fn.intro func59 rfl ntmps59 (by simp) ?_
 intro w0 K
 refine zyG (zyR 1 rfl (zyH ?_))
 obtain ⟨r2,hq1,h⟩:=zbx h
 refine zb3 (vs:=[]) rfl dc rfl rfl rfl zvF (zgz hq1) Splits.nil ?_
 rintro ⟨b1,b2⟩
 refine zyR 1 rfl (zaH rfl dc rfl rfl (zaH rfl dc rfl rfl (zyR 2 rfl (zyH (zyR 2 rfl ?_)))))
 obtain ⟨r3,hq2,h⟩:=zbx h
 refine zb3 (vs:=[.map (some b2),.int .i32 r1]) rfl dc rfl rfl rfl zvy (zin hq2) (zaa [1] kr rfl) ?_
 rintro v1
 refine zyR 1 rfl (zyN (zaD ?_))
 cases h
 exact zcu (rs:=[.tmp 2]) v1 (.inl rfl) results59 (.cons (.tmp rfl) .nil) rfl (zaa [3] kr rfl)
def tab:List (Int×Int×Int):=[(65,768,192),(69,768,200),(73,768,204),(79,768,210),(85,768,217),(97,768,224),(101,768,232),(105,768,236),(111,768,242),(117,768,249),(1045,768,1024),(1048,768,1037),(1077,768,1104),(1080,768,1117),(65,769,193),(69,769,201),(73,769,205),(79,769,211),(85,769,218),(89,769,221),(97,769,225),(101,769,233),(105,769,237),(111,769,243),(117,769,250),(121,769,253),(67,769,262),(76,769,313),(78,769,323),(82,769,340),(83,769,346),(90,769,377),(99,769,263),(108,769,314),(110,769,324),(114,769,341),(115,769,347),(122,769,378),(913,769,902),(917,769,904),(919,769,905),(921,769,906),(927,769,908),(933,769,910),(937,769,911),(945,769,940),(949,769,941),(951,769,942),(953,769,943),(959,769,972),(965,769,973),(969,769,974),(1043,769,1027),(1050,769,1036),(1075,769,1107),(1082,769,1116),(970,769,912),(971,769,944),(65,770,194),(69,770,202),(73,770,206),(79,770,212),(85,770,219),(97,770,226),(101,770,234),(105,770,238),(111,770,244),(117,770,251),(67,770,264),(71,770,284),(72,770,292),(74,770,308),(83,770,348),(87,770,372),(89,770,374),(99,770,265),(103,770,285),(104,770,293),(106,770,309),(115,770,349),(119,770,373),(121,770,375),(65,771,195),(78,771,209),(79,771,213),(97,771,227),(110,771,241),(111,771,245),(73,771,296),(85,771,360),(105,771,297),(117,771,361),(65,772,256),(69,772,274),(73,772,298),(79,772,332),(85,772,362),(97,772,257),(101,772,275),(105,772,299),(111,772,333),(117,772,363),(65,774,258),(69,774,276),(71,774,286),(73,774,300),(79,774,334),(85,774,364),(97,774,259),(101,774,277),(103,774,287),(105,774,301),(111,774,335),(117,774,365),(1048,774,1049),(1059,774,1038),(1080,774,1081),(1091,774,1118),(67,775,266),(69,775,278),(71,775,288),(73,775,304),(90,775,379),(99,775,267),(101,775,279),(103,775,289),(122,775,380),(65,776,196),(69,776,203),(73,776,207),(79,776,214),(85,776,220),(97,776,228),(101,776,235),(105,776,239),(111,776,246),(117,776,252),(121,776,255),(89,776,376),(1045,776,1025),(1030,776,1031),(1077,776,1105),(1110,776,1111),(921,776,938),(933,776,939),(953,776,970),(965,776,971),(65,778,197),(85,778,366),(97,778,229),(117,778,367),(79,779,336),(85,779,368),(111,779,337),(117,779,369),(67,780,268),(68,780,270),(69,780,282),(76,780,317),(78,780,327),(82,780,344),(83,780,352),(84,780,356),(90,780,381),(99,780,269),(100,780,271),(101,780,283),(108,780,318),(110,780,328),(114,780,345),(115,780,353),(116,780,357),(122,780,382),(67,807,199),(71,807,290),(75,807,310),(76,807,315),(78,807,325),(82,807,342),(83,807,350),(84,807,354),(99,807,231),(103,807,291),(107,807,311),(108,807,316),(110,807,326),(114,807,343),(115,807,351),(116,807,355),(65,808,260),(69,808,280),(73,808,302),(85,808,370),(97,808,261),(101,808,281),(105,808,303),(117,808,371)]
def tabP:List (zaf×Int):=tab.map fun t=>(⟨t.1,t.2.1⟩,t.2.2)
def tabS:List (Int×zaf):=tab.map fun t=>(t.2.2,⟨t.1,t.2.1⟩)
theorem zpo:zeJ=some (tabP,tabS):=by decide +kernel
def byI (l:List UInt8) (i:Nat):Int:=((l.getD i 0).toNat:Int)
def zzf (l:List UInt8):Nat→Int
 | 1=>byI l 0
 | 2=>(byI l 0 - 192)*64+byI l 1 - 128
 | 3=>((byI l 0 - 224)*64+byI l 1 - 128)*64+byI l 2 - 128
 | 4=>(((byI l 0 - 240)*64+byI l 1 - 128)*64+byI l 2 - 128)*64+byI l 3 - 128
 | _=>0
def acc (s:zBA) (a n:Nat):Prop:=vr (zzf (s.data.toList.drop a) n)∧wd (zzf (s.data.toList.drop a) n)=n∧Utf8.encode (zzf (s.data.toList.drop a) n)=zcz s a ((a:Int)+n)
theorem zsy (s:zBA) (a n:Nat):(zcz s a ((a:Int)+n)).data.toList=(s.data.toList.drop a).take n:=by
 unfold zcz
 rw [extract_data]
 simp only [Int.toNat_natCast,show ((a:Int)+(n:Int)).toNat=a+n by omega]
 rw [show a+n - a=n by omega]
def pcG (p:Pc):zam:=⟨p.i,p.w,p.r,p.broken⟩
def mrk (r:Int):Bool:=decide (768≤r∧r≤879)
theorem zcy (r:Int) (h:zaS r=true):0≤r∧r<1120∧¬ (768≤r∧r≤879):=by
 unfold zaS at h
 rw [Bool.or_eq_true,zk8,zkR] at h
 unfold zkf zj8 at h
 refine ⟨?_,?_,?_⟩ <;> omega
theorem zw7 (r:Int):((kind r:Int)==1)=zaS r:=by
 cases h:zaS r with
 | true =>
  have:=zcy r h
  have e:kind r=1:=by unfold kind znH; rw [if_neg (by omega),if_pos h]
  rw [e]; rfl
 | false =>
  rw [beq_eq_false_iff_ne]
  unfold kind znH
  rw [h]
  simp only [Bool.false_eq_true,if_false]
  (repeat' split) <;> omega
theorem zw6 (r:Int):((kind r:Int)==2)=mrk r:=by
 unfold mrk
 by_cases h:768≤r∧r≤879
 ·rw [decide_eq_true h,beq_iff_eq]
  have hl:zaS r=false:=by
   cases h':zaS r with
   | false=>rfl
   | true=>exact absurd h (zcy r h').2.2
  unfold kind znH
  rw [if_neg (by omega),hl,if_neg (by simp),if_pos h]
 ·rw [decide_eq_false h,beq_eq_false_iff_ne]
  unfold kind znH
  (repeat' split) <;> omega
theorem zkA (u:zah) (h:I32 u.base):zcp u=some (zaS u.base):=by
 unfold zcp
 by_cases h0:0≤u.base
 ·exact zaL (decide_eq_true h0) (zct h (congrArg some (zw7 _)))
 ·refine zaF (decide_eq_false h0) (congrArg some ?_)
  cases h':zaS u.base with
  | false=>rfl
  | true=>exact absurd (zcy _ h').1 h0
def lows:List (Int×Int):=[(790,793),(796,800),(803,819),(825,828),(837,841),(845,846),(851,854),(857,858)]
def znF (r:Int):Bool:=lows.any fun p=>decide (p.1≤r)&&decide (r≤p.2)
theorem zye (r:Int):zgL r=some (znF r):=by
 have h:r<790∨(790≤r∧r≤793)∨(793<r∧r<796)∨(796≤r∧r≤800)∨(800<r∧r<803)∨(803≤r∧r≤819)∨(819<r∧r<825)∨(825≤r∧r≤828)∨(828<r∧r<837)∨(837≤r∧r≤841)∨(841<r∧r<845)∨(845≤r∧r≤846)∨(846<r∧r<851)∨(851≤r∧r≤854)∨(854<r∧r<857)∨(857≤r∧r≤858)∨858<r:=by omega
 unfold zgL
 simp only [zbF,zat,znF,lows,List.any_cons,List.any_nil,Bool.or_false]
 rcases h with h | h | h | h | h | h | h | h | h | h | h | h | h | h | h | h | h <;> simp (disch:=omega) only [decide_eq_true,decide_eq_false,cond_true,cond_false,Bool.and_true,Bool.and_false,Bool.true_and,Bool.false_and,Bool.true_or,Bool.false_or,Bool.or_true,Bool.or_false]
section
variable {κ ν:Type} [DecidableEq κ]
theorem zhy {k:κ} {v:ν}:∀ {L:List (κ×ν)},zbK k L=some v→(k,v)∈L
 | [],h=>by cases h
 | p::L,h=>by
  unfold zbK at h
  split at h
  ·rename_i e; cases h; rw [e]; exact List.mem_cons_self ..
  ·exact List.mem_cons_of_mem _ (zhy h)
end
def zhp (rcall:Int→Option (List Int)) (r:Int):Option (List Int) :=
 match zbK r tabS with
 | none=>some [r]
 | some p=>zak (rcall p.e0) fun l=>grd (l.length+1≤2147483648)<|some (l++[p.e1])
theorem zoC (rcall:(List (Int×zaf))→Int→Option (List Int)) (r:Int):zeh rcall tabS r=zhp (rcall tabS) r:=by
 unfold zeh zhp
 cases zbK r tabS with
 | none=>exact zaL rfl rfl
 | some p=>exact zaF rfl rfl
def spF:Nat→Int→Option (List Int)
 | 0,_=>none
 | n+1,r=>zhp (spF n) r
theorem zpu:∀ (n:Nat) (r:Int),zaU (fun _ _=>none) zeh n tabS r=spF n r
 | 0,r=>rfl
 | n+1,r=>by
  rw [zfO,zoC]
  show zhp _ r=zhp _ r
  congr 1; funext x; exact zpu n x
def zcW (r:Int):List Int :=
 match zbK r tabS with
 | none=>[r]
 | some p=>(match zbK p.e0 tabS with
  | none=>[p.e0]
  | some q=>[q.e0,q.e1])++[p.e1]
def zzL:Bool:=tabS.all fun p=>match zbK p.2.e0 tabS with | none=>true | some q=>decide (zbK q.e0 tabS=none)
theorem zvM:zzL=true:=by decide +kernel
theorem zrv (n:Nat) (r:Int):spF (n+3) r=some (zcW r):=by
 show zhp (spF (n+2)) r=_
 unfold zhp zcW
 cases h:zbK r tabS with
 | none=>rfl
 | some p =>
  have hd:=List.all_eq_true.1 zvM _ (zhy h)
  simp only at hd
  refine zaR (a:=match zbK p.e0 tabS with | none=>[p.e0] | some q=>[q.e0,q.e1]) ?_ (zct (by cases zbK p.e0 tabS <;> simp) rfl)
  show zhp (spF (n+1)) p.e0=_
  unfold zhp
  cases h2:zbK p.e0 tabS with
  | none=>rfl
  | some q =>
   rw [h2] at hd
   simp only [decide_eq_true_eq] at hd
   refine zaR (a:=[q.e0]) ?_ (zct (by simp) rfl)
   show zhp (spF n) q.e0=_
   unfold zhp
   rw [hd]
theorem zty (r:Int):zeg tabS r=some (zcW r):=by
 unfold zeg
 rw [zpu]
 obtain ⟨n,hn,_⟩:=zse 3 (by omega)
 rw [hn]; exact zrv n r
def joined (b m:Int):Option Int:=zbK (⟨b,m⟩:zaf) tabP
def itG (s:zBA) (p:Pc):ziP:=⟨if p.broken then -1 else (p.r:Int),s.extract p.i (p.i+p.w),p.i⟩
def zgq (s:zBA):List ziP:=(pcs s.data.toList).map (itG s)
theorem zve {s:zBA} {p:Pc} (hp:p∈pcs s.data.toList):p.i+p.w≤s.size:=by
 obtain ⟨g1,g2,hok⟩:=ziB s.data.toList p hp
 have hlen:s.data.toList.length=s.size:=by rw [Array.length_toList]; rfl
 omega
theorem zew (s:zBA):(pcs s.data.toList).length≤s.size:=by
 have:=zkV s; unfold zep at this; simpa using this
abbrev Itm:=ziP
def isL (x:Itm):Bool:=zaS x.Rune
def isM (x:Itm):Bool:=mrk x.Rune
def zuy (x:Itm):Bool:=znF x.Rune
theorem zcR {r:Int} (h:mrk r=true):zaS r=false:=by
 cases e:zaS r with
 | false=>rfl
 | true=>have:=zcy r e; unfold mrk at h; simp at h; omega
def zwV (r:Int):Bool:=match zcW r with
 | []=>false
 | b::ms=>zaS b&&decide (zbK b tabS=none)&&ms.all mrk&&decide ((b::ms).length≤3)
theorem zwU:(tabS.all fun p=>zwV p.1)=true:=by decide +kernel
theorem zuZ:(tabS.all fun p=>decide (0≤p.1∧p.1≤2000∧0≤p.2.e0∧p.2.e0≤2000∧0≤p.2.e1∧p.2.e1≤2000)&&zaS p.1)=true:=by decide +kernel
theorem zey {r:Int} (h:zaS r=true):∃ b ms,zcW r=b::ms∧zaS b=true∧zbK b tabS=none∧(∀ m∈ms,mrk m=true)∧ms.length≤2:=by
 cases e:zbK r tabS with
 | none=>exact ⟨r,[],by unfold zcW; rw [e],h,e,by simp,by simp⟩
 | some p =>
  have h1:=List.all_eq_true.1 zwU _ (zhy e)
  unfold zwV at h1
  simp only at h1
  cases hp:zcW r with
  | nil=>rw [hp] at h1; cases h1
  | cons b ms =>
   rw [hp] at h1
   simp only [Bool.and_eq_true,decide_eq_true_eq,List.all_eq_true,List.length_cons] at h1
   exact ⟨b,ms,rfl,h1.1.1.1,h1.1.1.2,h1.1.2,by omega⟩
theorem zny (r:Int):(zcW r).length≤3∧1≤(zcW r).length:=by
 unfold zcW
 (repeat' split) <;> simp
theorem zmt {k:Int} {p:zaf} (h:zbK k tabS=some p):(0≤p.e0∧p.e0≤2000)∧(0≤p.e1∧p.e1≤2000)∧zaS k=true:=by
 have:=List.all_eq_true.1 zuZ _ (zhy h)
 simp only [Bool.and_eq_true,decide_eq_true_eq] at this
 obtain ⟨⟨h1,h2,h3,h4,h5,h6⟩,h7⟩:=this
 exact ⟨⟨h3,h4⟩,⟨h5,h6⟩,h7⟩
theorem znz {r:Int} (h:I32 r):∀ y∈zcW r,I32 y:=by
 intro y hy
 unfold zcW at hy
 split at hy
 ·simp at hy; subst hy; exact h
 ·rename_i p hp
  obtain ⟨h1,h2,_⟩:=zmt hp
  split at hy
  ·simp at hy; rcases hy with rfl | rfl <;> exact ⟨by omega,by omega⟩
  ·rename_i q hq
   obtain ⟨h3,h4,_⟩:=zmt hq
   simp at hy; rcases hy with rfl | rfl | rfl <;> exact ⟨by omega,by omega⟩
def clF:Option (Itm×List Itm)→List Itm→List (Itm×List Itm)
 | none,[]=>[]
 | some c,[]=>[c]
 | none,x::xs=>clF (some (x,[])) xs
 | some c,x::xs=>if isL c.1&&isM x then clF (some (c.1,c.2++[x])) xs else c::clF (some (x,[])) xs
def cl (xs:List Itm):List (Itm×List Itm):=clF none xs
theorem zme (x:Itm) (h:isL x=true):∀ (xs ms:List Itm),clF (some (x,ms)) xs=(x,ms++xs.takeWhile isM)::cl (xs.dropWhile isM)
 | [],ms=>by simp [clF,cl]
 | y::xs,ms=>by
  unfold clF
  cases hm:isM y with
  | true=>rw [h,List.takeWhile_cons,List.dropWhile_cons,hm]; simp only [Bool.and_self,if_true]; rw [zme x h xs]; simp
  | false=>rw [List.takeWhile_cons,List.dropWhile_cons,hm]; simp [cl,clF]
theorem zsC (x:Itm) (h:isL x=false) (xs:List Itm):clF (some (x,[])) xs=(x,[])::cl xs:=by
 cases xs with
 | nil=>rfl
 | cons y xs=>unfold clF; rw [h]; simp [cl,clF]
theorem zuB:cl []=[]:=rfl
theorem zli {x:Itm} (h:isL x=true) (xs:List Itm):cl (x::xs)=(x,xs.takeWhile isM)::cl (xs.dropWhile isM):=by
 show clF (some (x,[])) xs=_
 rw [zme x h]; rfl
theorem zpV {x:Itm} (h:isL x=false) (xs:List Itm):cl (x::xs)=(x,[])::cl xs:=zsC x h xs
def loI (ms:List Itm):List Itm:=ms.filter zuy
def hiI (ms:List Itm):List Itm:=ms.filter fun x=>!zuy x
def zl5 (c:Itm×List Itm):List Itm:=c.1::(loI c.2++hiI c.2)
def zuo (xs:List Itm):List Itm:=(cl xs).flatMap zl5
theorem zhU (ms:List Itm):(loI ms++hiI ms).length=ms.length:=by
 unfold loI hiI
 induction ms with
 | nil=>rfl
 | cons x ms ih =>
  rw [List.filter_cons,List.filter_cons]
  rw [List.length_append] at ih ⊢
  cases zuy x <;> simp <;> omega
def apI (x:Itm):List Itm:=if isL x then (zcW x.Rune).map fun r=>⟨r,Utf8.encode r,x.At⟩ else [x]
def apL (l:List Itm):List Itm:=l.flatMap apI
theorem zv8 (x:Itm):(apI x).length≤3:=by
 unfold apI
 split
 ·simp; exact (zny _).1
 ·simp
theorem zsN (l:List Itm):(apL l).length≤3*l.length:=by
 unfold apL
 induction l with
 | nil=>simp
 | cons x l ih=>rw [List.flatMap_cons,List.length_append,List.length_cons]; have:=zv8 x; omega
theorem zoG {x:Itm} (h:isL x=true) (xs:List Itm):zuo (x::xs)=x::((loI (xs.takeWhile isM)++hiI (xs.takeWhile isM))++zuo (xs.dropWhile isM)):=by
 unfold zuo; rw [zli h]; simp [zl5]
theorem zqw {x:Itm} (h:isL x=false) (xs:List Itm):zuo (x::xs)=x::zuo xs:=by
 unfold zuo; rw [zpV h]; simp [zl5,loI,hiI]
def zec (r1:Int):Option Int := zbF (fun (j1:Option Int) => zat ((r1:Int) != 65533) ( zat (decide (Utf8.encode r1=(⟨#[239,191,189]⟩:zBA))) ( some 0
) ( j1
)
) ( j1
)
) ( some ((Utf8.encode r1).size:Int)
)
theorem zih {r1:Int} {r:Int} (h:zec r1=some r):FnP prog 91 [.int .i32 r1] (zI r):=by
 unfold zec at h
 refine FnP.intro func91 rfl ntmps91 (by simp) ?_
 intro w0 K
 obtain ⟨j1,hj1,h⟩:=zbT h
 refine za2 (β:=Unit) 1 rfl (fun b=>j1=some r) (fun b=>[]) (fun b=>[(0,.int .i32 r1)]) (fun b=>[]) (fun cut => ?_) ?_
 ·
  refine zyG (zyR 1 rfl (zyN (cut (zyG (zyR 1 rfl (zaW rfl zfr (zyR 1 rfl ?_)))))))
  refine zyS (s:=5) rfl h (fun h => ?_) (fun h => ?_)
  ·
   refine zyR 1 rfl (zdC rfl dc rfl (zda underlying21 underlying9) (zaW rfl zeL (zyR 1 rfl (zyN ?_))))
   refine zyB rfl h (fun h => ?_) (fun h => ?_)
   ·
    refine zyG (zyR 1 rfl (zyN (zaD (zai ?_))))
    cases h
    exact zba 2 results91
   refine zaq ?_
   exact zaj () h rfl (za9 rfl) Splits.nil
  refine zyR 4 rfl (zyN (za3 rfl (zaq ?_)))
  exact zaj () h rfl (za9 rfl) Splits.nil
 rintro _ h
 rw [hj1] at h
 refine zyG (zyR 1 rfl (zdC rfl dc rfl (zda underlying21 underlying9) (zcU rfl dc rfl underlying9 (zyR 1 rfl (zyN (zaD ?_))))))
 cases h
 exact zba 2 results91
def zcl (r1:Int):Option Int := some (orI .u8 (zxL .u8 (IntKind.u8.wrap r1) 63) 128)
theorem zeG {r1:Int} {r:Int} (h:zcl r1=some r):FnP prog 93 [.int .i32 r1] (.int .u8 r):=by
 unfold zcl at h
 refine FnP.intro func93 rfl ntmps93 (by simp) ?_
 intro w0 K
 refine zyG (zyR 1 rfl (zyH (zyR 1 rfl (zdC rfl dc rfl (zhH underlying21 underlying5) (zyR 1 rfl (zyH ?_))))))
 refine zyR 1 rfl (zaW rfl zvX (zyR 1 rfl (zyH (zyR 1 rfl (zaW rfl zpZ (zyR 1 rfl (zyH ?_)))))))
 refine zyR 2 rfl (zyN (zaD ?_))
 cases h
 exact zba 2 results93
def zeH (s1:zBA) (at1:Int) (j1:Option zam) (ag1:Option zam):Option zam := zat (decide (0<(pcs (zcz s1 at1 (s1.size:Int)).data.toList).length)) ( zak ((pcs (zcz s1 at1 (s1.size:Int)).data.toList)[0]?) fun (p1:Pc) => zbF (fun (j2:Int→Option zam) => zak (zec (p1.r:Int)) fun (r1:Int) => zat (((p1.r:Int):Int)==65533) ( grd (I64 ((s1.size:Int) - at1)) <| zat (decide ((((s1.size:Int) - at1):Int)<3)) ( some (⟨at1,1,65533,true⟩:zam)
) ( grd (I64 (at1+3)) <| grd (0≤(at1:Int)∧(at1:Int)≤(at1+3)∧(at1+3:Int)≤(s1.size:Int)) <| zat (!decide (zcz s1 at1 (at1+3)=(⟨#[239,191,189]⟩:zBA))) ( some (⟨at1,1,65533,true⟩:zam)
) ( j2 r1
)
)
) ( j2 r1
)
) (fun (n2:Int) => some (⟨at1,n2,(p1.r:Int),false⟩:zam)
)
) ( j1
)
def ze8 (s1:zBA) (at1:Int):Option zam := zbF (fun (j1:Option zam) => grd (0≤(at1:Int)∧(at1:Int)≤(s1.size:Int)∧((s1.size:Int):Int)≤(s1.size:Int)) <| zaU none (zeH s1 at1 j1) zcG
) ( some (⟨0,0,0,false⟩:zam)
)
theorem zmz {s1:zBA} {at1:Int} {r:zam} (h:ze8 s1 at1=some r):FnP prog 72 [.string s1,zI at1] (.agg (zr0 r).toArray):=by
 unfold ze8 at h
 refine FnP.intro func72 rfl ntmps72 (by simp) ?_
 intro w0 K
 obtain ⟨j1,hj1,h⟩:=zbT h
 refine za2 (β:=Nat) 1 rfl (fun b=>j1=some r) (fun b=>[]) (fun b=>[(4,zP b)]) (fun b=>[cells b [zI 0,zI 0,.int .i32 0,.bool false] 95]) (fun cut => ?_) ?_
 ·
  refine zyG ?_
  refine za4 zkL rfl dc (fun b2 => ?_)
  refine zyN (cut (zyG (zyR 2 rfl ?_)))
  obtain ⟨hg1,h⟩:=zcg h
  refine zce rfl dc rfl rfl rfl (za7 (i:=at1) (j:=(s1.size:Int)) underlying9 (.inr rfl) (.inl ⟨rfl,rfl⟩) hg1) ?_
  refine zfA underlying9 rfl dc rfl (fun b3 => ?_)
  refine zyN (zaA ?_)
  refine zbS (β:=Nat) (fun b=>zaU none (zeH s1 at1 j1) b=some r) (fun b=>[]) (fun b=>[(0,.string s1),(1,zI at1),(4,zP b2),(11,zP b3)]) (fun b=>[cells b2 [zI 0,zI 0,.int .i32 0,.bool false] 95,obj b3 (.stringIter (zcz s1 at1 (s1.size:Int)) (zgx (zcz s1 at1 (s1.size:Int)) 0))]) (fun b=>b) zcG h rfl (za9 rfl) (zaa [0,1] kr rfl) ?_
  rintro n1 h
  cases n1 with
  | zero=>exact zez h
  | succ n1 =>
   obtain ⟨ag1,hag1⟩:∃ ag,ag=zaU none (zeH s1 at1 j1) n1:=⟨_,rfl⟩
   have h:zeH s1 at1 j1 ag1=some r:=by rw [hag1]; exact h
   unfold zeH at h
   refine zyG ?_
   refine zfC (b:=decide (0<(pcs (zcz s1 at1 (s1.size:Int)).data.toList).length)) (fun hb1 => ?_) (fun hb1 => ?_)
   ·
    have h:=zlL hb1 h
    obtain ⟨p1,hq1,h⟩:=zbx h
    refine zf0 (k:=1) (m:=0) (p:=p1) rfl dc rfl rfl hq1 (zaH rfl dc rfl rfl (zyN (zaM (zcf rfl (zaq (zaG (zaA ?_)))))))
    obtain ⟨j2,hj2,h⟩:=zbT h
    refine za2 (β:=Int) 2 rfl (fun b=>j2 b=some r) (fun b=>[]) (fun b=>[(1,zI at1),(4,zP b2),(6,.int .i32 (p1.r:Int)),(7,zI b)]) (fun b=>[cells b2 [zI 0,zI 0,.int .i32 0,.bool false] 95]) (fun cut => ?_) ?_
    ·
     refine zyG (zaH rfl dc rfl rfl (zyR 1 rfl (zyH (zyR 1 rfl ?_))))
     obtain ⟨r1,hq2,h⟩:=zbx h
     refine zaQ (v:=zI r1) (vs:=[.int .i32 (p1.r:Int)]) rfl dc rfl rfl rfl zxe (zih hq2) (zyR 1 rfl (zyN (cut (zyG (zyR 1 rfl (zaW rfl zbn (zyR 1 rfl ?_)))))))
     refine zyS (s:=19) rfl h (fun h => ?_) (fun h => ?_)
     ·
      refine zyR 1 rfl (zcU rfl dc rfl underlying9 (zyR 1 rfl ?_))
      obtain ⟨hg2,h⟩:=zcg h
      refine zaW rfl (zgE (r:=(s1.size:Int) - at1) (IntWalk.i64_in _ hg2)) (zaW rfl zbE (zyR 1 rfl ?_))
      refine zyS (s:=25) rfl h (fun h => ?_) (fun h => ?_)
      ·
       refine zyR 8 rfl (zyN (zcf rfl (zyG (zyR 1 rfl ?_))))
       refine zck (v:=.agg #[zI at1,zI 1,.int .i32 65533,.bool true]) (ps:=[(0,.tmp 34),(1,.const (zI 1)),(2,.const (.int .i32 65533)),(3,.const (.bool true))]) rfl dc rfl (fun _=>by kernel_rfl) ?_
       refine za6 (k:=0) (vs:=[zI at1,zI 1,.int .i32 65533,.bool true]) (l':=[zI at1,zI 1,.int .i32 65533,.bool true]) zfR rfl rfl rfl rfl rfl (show _≤_ by simp) rfl rfl ?_
       refine zyN (zaD (zai (zal (zai (zal (zai ?_))))))
       cases h
       exact zcu (rs:=[.cell 4 95]) () (.inl rfl) results72 (.cons (.cells zgZ (k:=0) rfl rfl rfl) .nil) rfl Splits.nil
      refine zyR 3 rfl ?_
      obtain ⟨hg3,h⟩:=zcg h
      refine zaW rfl (zbi (r:=at1+3) (IntWalk.i64_in _ hg3)) ?_
      obtain ⟨hg4,h⟩:=zcg h
      refine zce rfl dc rfl rfl rfl (za7 (i:=at1) (j:=at1+3) underlying9 (.inr rfl) (.inr rfl) hg4) (zaW rfl zjx (zyR 2 rfl (zyN ?_)))
      refine zyB rfl h (fun h => ?_) (fun h => ?_)
      ·
       refine zyG (zyR 1 rfl ?_)
       refine zck (v:=.agg #[zI at1,zI 1,.int .i32 65533,.bool true]) (ps:=[(0,.tmp 34),(1,.const (zI 1)),(2,.const (.int .i32 65533)),(3,.const (.bool true))]) rfl dc rfl (fun _=>by kernel_rfl) ?_
       refine za6 (k:=0) (vs:=[zI at1,zI 1,.int .i32 65533,.bool true]) (l':=[zI at1,zI 1,.int .i32 65533,.bool true]) zfR rfl rfl rfl rfl rfl (show _≤_ by simp) rfl rfl ?_
       refine zyN (zaD (zai (zal (zai (zal (zai ?_))))))
       cases h
       exact zcu (rs:=[.cell 4 95]) () (.inl rfl) results72 (.cons (.cells zgZ (k:=0) rfl rfl rfl) .nil) rfl Splits.nil
      refine zaq ?_
      exact zaj r1 h rfl (za9 rfl) (zaa [0] kr rfl)
     refine zyR 14 rfl ?_
     refine zyN (za3 rfl (zaq ?_))
     exact zaj r1 h rfl (za9 rfl) (zaa [0] kr rfl)
    rintro n2 h
    rw [hj2] at h
    refine zyG (zyR 3 rfl ?_)
    refine zck (v:=.agg #[zI at1,zI n2,.int .i32 (p1.r:Int),.bool false]) (ps:=[(0,.tmp 36),(1,.tmp 37),(2,.tmp 38)]) rfl dc rfl (fun _=>by kernel_rfl) ?_
    refine za6 (k:=0) (vs:=[zI at1,zI n2,.int .i32 (p1.r:Int),.bool false]) (l':=[zI at1,zI n2,.int .i32 (p1.r:Int),.bool false]) zfR rfl rfl rfl rfl rfl (show _≤_ by simp) rfl rfl (zyN (zaD (zal (zai (zal (zai ?_))))))
    cases h
    exact zcu (rs:=[.cell 4 95]) () (.inl rfl) results72 (.cons (.cells zgZ (k:=0) rfl rfl rfl) .nil) rfl Splits.nil
   have h:=zlM hb1 h
   refine zf1 (k:=1) (m:=0) rfl dc rfl rfl (Nat.le_of_not_lt (of_decide_eq_false hb1)) (zaH rfl dc rfl rfl (zyN (zaM (za3 rfl (zbG (zap (zap (zaI ?_))))))))
   exact zaj b2 h rfl (za9 rfl) (zaa [0] kr rfl)
 rintro b1 h
 rw [hj1] at h
 refine zyG ?_
 refine zck (v:=.agg #[zI 0,zI 0,.int .i32 0,.bool false]) (ps:=[]) rfl dc rfl (fun _=>by kernel_rfl) ?_
 refine za6 (k:=0) (vs:=[zI 0,zI 0,.int .i32 0,.bool false]) (l':=[zI 0,zI 0,.int .i32 0,.bool false]) zfR rfl rfl rfl rfl rfl (show _≤_ by simp) rfl rfl (zyN (zaD ?_))
 cases h
 exact zcu (rs:=[.cell 4 95]) () (.inl rfl) results72 (.cons (.cells zgZ (k:=0) rfl rfl rfl) .nil) rfl Splits.nil
def zeV (r1:Int):Option zBA := zbF (fun (j1:Int→Option zBA) => zak (zec r1) fun (r3:Int) => zat ((r3:Int)==0) ( j1 65533
) ( j1 r1
)
) (fun (r2:Int) => zat (decide ((r2:Int)<128)) ( grd (∀ x∈([IntKind.u8.wrap r2]:List Int),U8 x) <| some (zcZ ([IntKind.u8.wrap r2]:List Int))
) ( zat (decide ((r2:Int)<2048)) ( zak (zcl r2) fun (r4:Int) => grd (∀ x∈([orI .u8 192 (IntKind.u8.wrap (zig .i32 r2 6)),r4]:List Int),U8 x) <| some (zcZ ([orI .u8 192 (IntKind.u8.wrap (zig .i32 r2 6)),r4]:List Int))
) ( zat (decide ((r2:Int)<65536)) ( zak (zcl (zig .i32 r2 6)) fun (r5:Int) => zak (zcl r2) fun (r6:Int) => grd (∀ x∈([orI .u8 224 (IntKind.u8.wrap (zig .i32 r2 12)),r5,r6]:List Int),U8 x) <| some (zcZ ([orI .u8 224 (IntKind.u8.wrap (zig .i32 r2 12)),r5,r6]:List Int))
) ( zak (zcl (zig .i32 r2 12)) fun (r7:Int) => zak (zcl (zig .i32 r2 6)) fun (r8:Int) => zak (zcl r2) fun (r9:Int) => grd (∀ x∈([orI .u8 240 (IntKind.u8.wrap (zig .i32 r2 18)),r7,r8,r9]:List Int),U8 x) <| some (zcZ ([orI .u8 240 (IntKind.u8.wrap (zig .i32 r2 18)),r7,r8,r9]:List Int))
)
)
)
)
theorem zkU {r1:Int} {r:zBA} (h:zeV r1=some r):FnP prog 80 [.int .i32 r1] (.string r):=by
 unfold zeV at h
 refine FnP.intro func80 rfl ntmps80 (by simp) ?_
 intro w0 K
 obtain ⟨j1,hj1,h⟩:=zbT h
 refine za2 (β:=Int) 1 rfl (fun b=>j1 b=some r) (fun b=>[]) (fun b=>[(0,.int .i32 b)]) (fun b=>[]) (fun cut => ?_) ?_
 ·
  refine zyG (zyR 1 rfl (zyN (cut (zyG (zyR 1 rfl ?_)))))
  obtain ⟨r3,hq1,h⟩:=zbx h
  refine zaQ (v:=zI r3) (vs:=[.int .i32 r1]) rfl dc rfl rfl rfl zxe (zih hq1) (zaW rfl zbn (zyN ?_))
  refine zyB rfl h (fun h => ?_) (fun h => ?_)
  ·
   refine zao (zyR 1 rfl (zaE ?_))
   exact zaj 65533 h rfl (za9 rfl) Splits.nil
  refine zaq ?_
  exact zaj r1 h rfl (za9 rfl) Splits.nil
 rintro r2 h
 rw [hj1] at h
 refine zaM (zaA (zyG (zyR 1 rfl (zaW rfl zbE (zyR 1 rfl (zyN ?_))))))
 refine zyB rfl h (fun h => ?_) (fun h => ?_)
 ·
  refine zyG (zyR 1 rfl (zdC rfl dc rfl (zhH underlying21 underlying5) ?_))
  refine zaX (cs:=[.int .u8 (IntKind.u8.wrap r2)]) (te:=5) (ps:=[(0,.tmp 10)]) rfl dc rfl (fun _=>by kernel_rfl) (fun b1 => ?_)
  refine zgv ([IntKind.u8.wrap r2]:List Int) (k:=0) rfl zdr rfl (show 1≤maxLen by decide) ?_
  obtain ⟨hg1,h⟩:=zcg h
  refine znd (k:=0) rfl (zmq hg1) ?_
  refine zfL (k:=0) rfl dc rfl rfl underlying43 underlying5 underlying9 (zyR 1 rfl (zyN (zaD (zal (zai ?_)))))
  cases h
  exact zba 2 results80
 refine zyG (zyR 1 rfl (zaW rfl zbE (zyR 1 rfl (zyN ?_))))
 refine zyB rfl h (fun h => ?_) (fun h => ?_)
 ·
  refine zyG (zyR 1 rfl (zaW rfl (zjY dc) (zdC rfl dc rfl (zhH underlying21 underlying5) (zaW rfl zpZ (zyR 1 rfl ?_)))))
  obtain ⟨r4,hq2,h⟩:=zbx h
  refine zaQ (v:=.int .u8 r4) (vs:=[.int .i32 r2]) rfl dc rfl rfl rfl zqV (zeG hq2) ?_
  refine zaX (cs:=[.int .u8 (orI .u8 192 (IntKind.u8.wrap (zig .i32 r2 6))),.int .u8 r4]) (te:=5) (ps:=[(0,.tmp 19),(1,.tmp 21)]) rfl dc rfl (fun _=>by kernel_rfl) (fun b2 => ?_)
  refine zgv ([orI .u8 192 (IntKind.u8.wrap (zig .i32 r2 6)),r4]:List Int) (k:=0) rfl zdr rfl (show 2≤maxLen by decide) ?_
  obtain ⟨hg2,h⟩:=zcg h
  refine znd (k:=0) rfl (zmq hg2) ?_
  refine zfL (k:=0) rfl dc rfl rfl underlying43 underlying5 underlying9 (zyR 1 rfl (zyN (zaD (zal (zai ?_)))))
  cases h
  exact zba 2 results80
 refine zyG (zyR 1 rfl (zaW rfl zbE (zyR 1 rfl (zyN ?_))))
 refine zyB rfl h (fun h => ?_) (fun h => ?_)
 ·
  refine zyG (zyR 1 rfl (zaW rfl (zjY dc) (zdC rfl dc rfl (zhH underlying21 underlying5) (zaW rfl zpZ (zyR 1 rfl (zaW rfl (zjY dc) ?_))))))
  obtain ⟨r5,hq3,h⟩:=zbx h
  refine zaQ (v:=.int .u8 r5) (vs:=[.int .i32 (zig .i32 r2 6)]) rfl dc rfl rfl rfl zqV (zeG hq3) (zyR 1 rfl ?_)
  obtain ⟨r6,hq4,h⟩:=zbx h
  refine zaQ (v:=.int .u8 r6) (vs:=[.int .i32 r2]) rfl dc rfl rfl rfl zqV (zeG hq4) ?_
  refine zaX (cs:=[.int .u8 (orI .u8 224 (IntKind.u8.wrap (zig .i32 r2 12))),.int .u8 r5,.int .u8 r6]) (te:=5) (ps:=[(0,.tmp 30),(1,.tmp 33),(2,.tmp 35)]) rfl dc rfl (fun _=>by kernel_rfl) (fun b3 => ?_)
  refine zgv ([orI .u8 224 (IntKind.u8.wrap (zig .i32 r2 12)),r5,r6]:List Int) (k:=0) rfl zdr rfl (show 3≤maxLen by decide) ?_
  obtain ⟨hg3,h⟩:=zcg h
  refine znd (k:=0) rfl (zmq hg3) ?_
  refine zfL (k:=0) rfl dc rfl rfl underlying43 underlying5 underlying9 (zyR 1 rfl (zyN (zaD (zal (zai ?_)))))
  cases h
  exact zba 2 results80
 refine zaq (zae (zaG (zyG (zyR 1 rfl (zaW rfl (zjY dc) (zdC rfl dc rfl (zhH underlying21 underlying5) (zaW rfl zpZ (zyR 1 rfl (zaW rfl (zjY dc) ?_)))))))))
 obtain ⟨r7,hq5,h⟩:=zbx h
 refine zaQ (v:=.int .u8 r7) (vs:=[.int .i32 (zig .i32 r2 12)]) rfl dc rfl rfl rfl zqV (zeG hq5) (zyR 1 rfl (zaW rfl (zjY dc) ?_))
 obtain ⟨r8,hq6,h⟩:=zbx h
 refine zaQ (v:=.int .u8 r8) (vs:=[.int .i32 (zig .i32 r2 6)]) rfl dc rfl rfl rfl zqV (zeG hq6) (zyR 1 rfl ?_)
 obtain ⟨r9,hq7,h⟩:=zbx h
 refine zaQ (v:=.int .u8 r9) (vs:=[.int .i32 r2]) rfl dc rfl rfl rfl zqV (zeG hq7) ?_
 refine zaX (cs:=[.int .u8 (orI .u8 240 (IntKind.u8.wrap (zig .i32 r2 18))),.int .u8 r7,.int .u8 r8,.int .u8 r9]) (te:=5) (ps:=[(0,.tmp 41),(1,.tmp 44),(2,.tmp 47),(3,.tmp 49)]) rfl dc rfl (fun _=>by kernel_rfl) (fun b4 => ?_)
 refine zgv ([orI .u8 240 (IntKind.u8.wrap (zig .i32 r2 18)),r7,r8,r9]:List Int) (k:=0) rfl zdr rfl (show 4≤maxLen by decide) ?_
 obtain ⟨hg4,h⟩:=zcg h
 refine znd (k:=0) rfl (zmq hg4) ?_
 refine zfL (k:=0) rfl dc rfl rfl underlying43 underlying5 underlying9 (zyR 1 rfl (zyN (zaD ?_)))
 cases h
 exact zba 2 results80
def zcO (c0:zBA) (ag1:Nat→Option (List zam)) (m3:Nat):Option (List zam) := zat (decide (m3<(pcs c0.data.toList).length)) ( zak ((pcs c0.data.toList)[m3]?) fun (p1:Pc) => zak (ze8 c0 (p1.i:Int)) fun (r1:zam) => zm3 r1 <| ag1 (m3+1)
) ( some []
)
def zcK (c0:zBA):Option (List zam) := zaU (fun _=>none) (zcO c0) zcG 0
theorem zdH {b_c0:Nat} {c0:zBA} {xs:(List zam)} (h:zcK c0=some xs):Itr prog 71 [zP b_c0] (fun q:zam=>[.agg (zr0 q).toArray]) xs [(b_c0,.cells #[.string c0] 9 (0,0))]:=by
 unfold zcK at h
 refine Itr.intro func71 rfl ntmps71 (by simp) ?_
 intro l w0 K I X hRo hy
 obtain ⟨r0,hx0⟩:∃ r,xs=[]++r:=⟨xs,rfl⟩
 have hr0:xs=r0:=hx0
 rw [hr0] at h
 refine zyG (zjA (i:=0) hRo ze4 rfl dc rfl rfl rfl ?_)
 refine zfA underlying9 rfl dc rfl (fun b1 => ?_)
 refine zyN (zaA ?_)
 refine zbS (β:=Nat×Nat×(List zam)×(List zam)) (fun b=>zaU (fun _=>none) (zcO c0) b.1 b.2.1=some b.2.2.2∧xs=b.2.2.1++b.2.2.2) (fun b=>[]) (fun b=>[(0,.func (.yield l) #[] #[]),(1,zP b_c0),(5,zP b1)]) (fun b=>[I b.2.2.1,obj b1 (.stringIter c0 (zgx c0 b.2.1))]) (fun b=>b.1) (zcG,0,([]:List zam),r0) ⟨h,hx0⟩ rfl (za9 rfl) (zaa [0,1] kr rfl) ?_
 rintro ⟨n1,m3,acc3,rr3⟩ ⟨h,hx3⟩
 cases n1 with
 | zero=>exact zez h
 | succ n1 =>
  obtain ⟨ag1,hag1⟩:∃ ag,ag=zaU (fun _=>none) (zcO c0) n1:=⟨_,rfl⟩
  have h:zcO c0 ag1 m3=some rr3:=by rw [hag1]; exact h
  unfold zcO at h
  refine zyG ?_
  refine zfC (b:=decide (m3<(pcs c0.data.toList).length)) (fun hb1 => ?_) (fun hb1 => ?_)
  ·
   have h:=zlL hb1 h
   obtain ⟨p1,hq1,h⟩:=zbx h
   refine zf0 (k:=1) (m:=m3) (p:=p1) rfl dc rfl rfl hq1 (zaH rfl dc rfl rfl (zyN (zaM (zcf rfl (zaq (zaG (zaA (zyG (zaH rfl dc rfl rfl (zyR 1 rfl (zaE ?_)))))))))))
   refine zaG (zyG (zyR 1 rfl (zjA (i:=0) hRo ze4 rfl dc rfl rfl rfl (zyR 1 rfl ?_))))
   obtain ⟨r1,hq2,h⟩:=zbx h
   refine zaQ (v:=.agg (zr0 r1).toArray) (vs:=[.string c0,zI (p1.i:Int)]) rfl dc rfl rfl rfl zyz (zmz hq2) ?_
   obtain ⟨rr4,hr1,h⟩:=zo5 h
   have hx4:xs=acc3++r1::rr4:=by rw [hx3,hr1]
   refine zg8 hy rfl dc rfl hx4 rfl (k:=0) rfl ?_ ?_
   ·
    have hx5:xs=(acc3++[r1])++rr4:=by rw [hx4]; simp
    refine zgG rfl dc rfl zeS (zyN (za3 rfl (zaq (zae ?_))))
    subst hag1
    exact zbv (n1,m3+1,acc3++[r1],rr4) ⟨h,hx5⟩ (Nat.lt_succ_self _) rfl (za9 rfl) (zaa [0,1] kr rfl)
   refine zgG rfl dc rfl zeS (zyN (zcf rfl (zaD (zal (zai (zal ?_))))))
   exact ziL (ds:=[]) acc3 r1 rr4 hx4 (.inl rfl) Splits.nil results71 (zaa [0] kr rfl)
  have h:=zlM hb1 h
  refine zf1 (k:=1) (m:=m3) rfl dc rfl rfl (Nat.le_of_not_lt (of_decide_eq_false hb1)) (zaH rfl dc rfl rfl (zyN (zaM (za3 rfl (zbG (zap (zap (zaI ?_))))))))
  cases h
  exact zj2 (ds:=[]) (.inr rfl) Splits.nil results71 (congrArg I (hx3.trans (List.append_nil _))) (zaa [0] kr rfl)
def zdQ (s1:zBA):Option zBA := some s1
theorem zev {s1:zBA} {r:zBA} (h:zdQ s1=some r):Fn prog 42 [.string s1] [] (fun v0:Nat=>.func (.func 71) #[] #[zP v0]) (fun v0=>[cells v0 [.string r] 9]):=by
 unfold zdQ at h
 refine Fn.intro func42 rfl ntmps42 (by simp) ?_
 intro w0 K
 refine zyG ?_
 refine zeb rfl dc rfl (fun b1 => ?_)
 refine zyR 1 rfl (zyH (zfB (x1:=[]) (x2:=[.tmp 1]) rfl dc rfl rfl (zyR 1 rfl (zyN (zaD ?_)))))
 cases h
 exact zcu (rs:=[.tmp 2]) b1 (.inl rfl) results42 (.cons (.tmp rfl) .nil) rfl (zaa [0] kr rfl)
theorem zsr (r:Int) (hv:0≤r∧(r<55296∨(57343<r∧r≤1114111))) (hr:¬ r=65533):¬ Utf8.encode r=⟨#[239,191,189]⟩:=by
 intro h
 obtain ⟨n,rfl⟩:=Int.eq_ofNat_of_zero_le hv.1
 have h1:encodeRune ((n:Nat):Int)=[239,191,189]:=by rw [← zcT,h]
 have h2:=zo3 n (by omega) []
 have h3:=zo3 65533 (by omega) []
 rw [h1] at h2
 rw [zmX] at h3
 rw [h2] at h3
 have:=(Prod.mk.inj h3).1
 omega
theorem zrE (r:Int) (hv:vr r):zec r=some ((Utf8.encode r).size:Int):=by
 unfold zec
 refine zb8 ?_
 by_cases h:r=65533
 ·exact zaF (bne_eq_false_iff_eq.2 h) rfl
 ·exact zaL (bne_iff_ne.2 h) (zaF (decide_eq_false (zsr r (by unfold vr at hv; omega) h)) rfl)
theorem zx1 (s:zBA) (a:Nat) (ha:a<s.size) (hsz:s.size≤9223372036854775000):ze8 s (a:Int)=some (pcG ⟨a,(decodeL (s.data.toList.drop a)).2,(decodeL (s.data.toList.drop a)).1⟩):=by
 unfold ze8
 obtain ⟨F,hF,_⟩:=zse 1 (by omega)
 rw [hF]
 refine zb8 (zct ⟨by omega,by omega,by omega⟩ ?_)
 rw [zfO]
 generalize zaU _ _ F=ag
 unfold zeH
 have hne:s.data.toList.drop a≠[]:=by
  intro h; have:=congrArg List.length h; simp at this; omega
 have hok:=zvN _ hne
 have hlen:(s.data.toList.drop a).length=s.size - a:=by simp
 have hle:=hok.le
 have e:(zcz s (a:Int) (s.size:Int)).data.toList=s.data.toList.drop a:=by unfold zcz; exact zvv s a
 have hp:pcs (zcz s (a:Int) (s.size:Int)).data.toList=⟨0,(decodeL (s.data.toList.drop a)).2,(decodeL (s.data.toList.drop a)).1⟩::zed (0+(decodeL (s.data.toList.drop a)).2) ((s.data.toList.drop a).drop (decodeL (s.data.toList.drop a)).2):=by
  rw [e]; unfold pcs; rw [zd9 _ _ hne]
 have hvr:vr ((decodeL (s.data.toList.drop a)).1:Int):=by have:=hok.valid; unfold vr; omega
 refine zaL (decide_eq_true (by rw [hp]; simp)) (zaR (by rw [hp]; rfl) (zb8 (zaR (zrE _ hvr) ?_)))
 simp only
 unfold pcG Pc.broken
 have hw:=hok.width
 have hl3:=hok.lost_ok
 have hl1:=hok.lost_bad
 generalize decodeL (s.data.toList.drop a)=d at *
 rcases d with ⟨r,w⟩
 simp only at *
 by_cases hr:r=65533
 ·subst hr
  refine zaL (by decide) (zct ⟨by omega,by omega⟩ ?_)
  by_cases h3:(s.size:Int) - a<3
  ·refine zaL (decide_eq_true h3) ?_
   have hw1:w=1:=by
    by_cases hw1:w=1
    ·exact hw1
    ·have:=(hl3 rfl hw1).2; omega
   subst hw1; rfl
  ·have e3:=zsy s a 3
   refine zaF (decide_eq_false h3) (zct ⟨by omega,by omega⟩ (zct ⟨by omega,by omega,by omega⟩ ?_))
   by_cases hw1:w=1
   ·refine zaL ?_ (by subst hw1; rfl)
    rw [decide_eq_false]
    ·rfl
    ·intro h
     exact hl1 rfl hw1 (by rw [← e3]; exact congrArg (fun b:zBA=>b.data.toList) h)
   ·obtain ⟨h4,h5⟩:=hl3 rfl hw1
    refine zaF ?_ ?_
    ·rw [decide_eq_true]
     ·rfl
     ·apply ByteArray.ext; apply Array.toList_inj.1; rw [show ((a:Int)+3)=(a:Int)+(3:Nat) from rfl,e3,h4]
    ·rw [zge,hw (by omega)]
     subst h5; rfl
 ·refine zaF (by rw [beq_eq_false_iff_ne]; omega) ?_
  rw [zge,hw (by omega)]
  have:(r==65533&&w==1)=false:=by simp [hr]
  rw [this]
theorem zk0 (s:zBA) (hs:s.size≤2147483648):zcK s=some ((pcs s.data.toList).map pcG):=by
 unfold zcK
 have hc:(pcs s.data.toList).length≤s.size:=by have:=zkV s; unfold zep at this; simpa using this
 have key:∀ (n k:Nat),k≤(pcs s.data.toList).length→(pcs s.data.toList).length - k<n→zaU (fun _=>none) (zcO s) n k=some (((pcs s.data.toList).drop k).map pcG):=by
  intro n
  induction n with
  | zero=>intro k _ h; omega
  | succ n ih =>
   intro k hk hn
   rw [zfO]
   generalize zaU (fun _=>none) (zcO s) n=ag at ih ⊢
   unfold zcO
   by_cases h:k<(pcs s.data.toList).length
   ·have hx:(pcs s.data.toList)[k]?=some (pcs s.data.toList)[k]:=List.getElem?_eq_getElem h
    have hm:=List.mem_of_getElem? hx
    generalize (pcs s.data.toList)[k]=p at hx hm
    obtain ⟨g1,g2,hok⟩:=ziB s.data.toList p hm
    have hlen:s.data.toList.length=s.size:=by rw [Array.length_toList]; rfl
    have hw:=hok.pos
    have hr:ze8 s (p.i:Int)=some (pcG p):=by
     have:=zx1 s p.i (by omega) (by omega)
     rw [this]
     have he:=hok.eq
     rw [he]
    refine zaL (decide_eq_true h) (zaR hx (zaR hr ?_))
    rw [ih (k+1) (by omega) (by omega)]
    have hd:(pcs s.data.toList).drop k=p::(pcs s.data.toList).drop (k+1):=by
     obtain ⟨hlt,he⟩:=List.getElem?_eq_some_iff.1 hx
     rw [← he]; exact List.drop_eq_getElem_cons hlt
    rw [hd]; rfl
   ·have:k=(pcs s.data.toList).length:=by omega
    subst this
    exact zaF (decide_eq_false (by omega)) (by rw [List.drop_length]; rfl)
 have:=key zcG 0 (Nat.zero_le _) (by unfold zcG; omega)
 simpa using this
def zc4 (j3:Int→Int→Int→(List Int)→(List Int)→Option (List zah)) (r6:(List Int)) (ag2:Int→Int→Int→(List Int)→(List Int)→Int→Option (List zah)) (u23:Int) (u24:Int) (u25:Int) (u26:List Int) (u27:List Int) (x6:Int):Option (List zah) := zat (decide ((x6:Int)<((zhl r6 1 (r6.length:Int)).length:Int))) ( zak (zd7 (zhl r6 1 (r6.length:Int)) x6) fun (q2:Int) => zak (zdE (⟨u23,u24,u25,u26,u27⟩:zah) q2) fun (r7:zah) => grd (I64 (x6+1)) <| ag2 r7.at_ r7.broken r7.base r7.low r7.high (x6+1)
) ( j3 u23 u24 u25 u26 u27
)
def zdI (s1:zBA) (r1:((List (zaf×Int))×(List (Int×zaf)))) (x1:zam) (ag1:(List zah)→Option (List zah)) (l4:List zah):Option (List zah) := zat (x1.Broken) ( zak (zlH s1 x1.At) fun (c1:Int) => grd (l4.length+1≤2147483648) <| ag1 (l4++[(⟨x1.At,c1,(-1),([]:List Int),([]:List Int)⟩:zah)])
) ( zbF (fun (j2:Option (List zah)) => zat (decide ((0:Int)<(l4.length:Int))) ( grd (I64 ((l4.length:Int) - 1)) <| zak (zd7 l4 ((l4.length:Int) - 1)) fun (x2:zah) => zak (zcp x2) fun (r3:Bool) => zat (r3) ( grd (I32 x1.Rune) <| zat (((kind x1.Rune):Int)==2) ( grd (I64 ((l4.length:Int) - 1)) <| zak (zd7 l4 ((l4.length:Int) - 1)) fun (x3:zah) => zak (zdE x3 x1.Rune) fun (r4:zah) => ag1 (l4.set ((l4.length:Int) - 1:Int).toNat r4)
) ( j2
)
) ( j2
)
) ( j2
)
) ( zbF (fun (j3:Int→Int→Int→(List Int)→(List Int)→Option (List zah)) => zak (zcp (⟨x1.At,0,x1.Rune,([]:List Int),([]:List Int)⟩:zah)) fun (r5:Bool) => zat (r5) ( zak (zeg r1.2 x1.Rune) fun (r6:(List Int)) => zak (zd7 r6 0) fun (q1:Int) => grd (0≤(1:Int)∧(1:Int)≤(r6.length:Int)∧((r6.length:Int):Int)≤(r6.length:Int)) <| zaU (fun _ _ _ _ _ _=>none) (zc4 j3 r6) zcG x1.At 0 q1 ([]:List Int) ([]:List Int) 0
) ( j3 x1.At 0 x1.Rune ([]:List Int) ([]:List Int)
)
) (fun (u1:Int) (u2:Int) (u3:Int) (u4:List Int) (u5:List Int) => grd (l4.length+1≤2147483648) <| ag1 (l4++[(⟨u1,u2,u3,u4,u5⟩:zah)])
)
)
)
def zea (s1:zBA):Option (List zah) := zbF (fun (j1:(List zah)→Option (List zah)) => zak (zeJ) fun (r1:((List (zaf×Int))×(List (Int×zaf)))) => zak (zdQ s1) fun (r2:zBA) => zak (zcK r2) fun (its1:(List zam)) => zbF (fun (dn1:(List zah)→Option (List zah)) => zb4 dn1 (zdI s1 r1) its1 ([]:List zah)
) (fun (l4:List zah) => j1 l4
)
) (fun (l1:List zah) => some l1
)
theorem zg2 {s1:zBA} {r:(List zah)} (h:zea s1=some r):Fn prog 20 [.string s1] [] (fun v0:Value=>v0) (fun v0=>[zlS za0 zaz 52 5 v0 r]):=by
 unfold zea at h
 refine Fn.intro func20 rfl ntmps20 (by simp) ?_
 intro w0 K
 refine zfV ?_
 refine zyG ?_
 refine zeb rfl dc rfl (fun b1 => ?_)
 refine zyR 1 rfl (zyN ?_)
 refine zp3 (β:=Unit) (l:=0) (fun _=>False) (fun _=>[]) (fun _=>[]) rfl ?_ ?_
 ·
  obtain ⟨j1,hj1,h⟩:=zbT h
  refine za2 (β:=(List zah)×Nat×Hd×(List Nat)) 3 rfl (fun b=>j1 b.1=some r) (fun b=>zdp b.2.2.2) (fun b=>[(5,zP b.2.1)]) (fun b=>[cells b.2.1 [b.2.2.1.v] 49,zlS za0 zaz 52 5 b.2.2.1.v b.1,zej ((b.2.2.2:List Nat).map zdW)]) (fun cut => ?_) ?_
  ·
   refine zyG ?_
   obtain ⟨r1,hq1,h⟩:=zbx h
   refine zb3 (vs:=[]) rfl dc rfl rfl rfl zvF (zgz hq1) Splits.nil ?_
   rintro ⟨b3,b4⟩
   refine zyR 1 rfl (zaH rfl dc rfl rfl (zaH rfl dc rfl rfl ?_))
   refine za4 zwA rfl dc (fun b5 => ?_)
   refine zyR 1 rfl ?_
   refine zaP (k:=4) (l':=[.map (some b4)]) zwN rfl rfl rfl rfl rfl (fun _ _=>rfl) rfl ?_
   refine zyH ?_
   refine za4 zxS rfl dc (fun b6 => ?_)
   refine zyN (zaM (zp5 (zaG (cut (zyG (zan (k:=1) ze4 rfl dc rfl rfl rfl ?_))))))
   obtain ⟨r2,hq2,h⟩:=zbx h
   refine zb3 (vs:=[.string s1]) rfl dc rfl rfl rfl zst (zev hq2) Splits.nil ?_
   rintro b7
   refine zyN (zaA ?_)
   obtain ⟨its1,hq3,h⟩:=zbx h
   refine zwf (enc:=za0) (nest:=zaz) (e:=52) (size:=5) ?_
   obtain ⟨dn1,hdn1,h⟩:=zbT h
   refine zhc (α:=zam) (β:=(List zah)×Hd) (γ:=Unit) (δ:=Nat) (ps:=[18]) Ro.nil rfl zss (zdH hq3) (fun pre b=>∀ post,its1=pre++post→zb4 dn1 (zdI s1 r1) post b.1=some r) (fun pre b=>[cells b1 [.string s1] 9,cells b5 [.map (some b4)] 55,za5 (fun n:Int=>Value.int .i32 n) (fun p:zaf=>Value.agg #[.int .i32 p.e0,.int .i32 p.e1]) b4 r1.2,cells b6 [b.2.v] 49,zlS za0 zaz 52 5 b.2.v b.1]) (fun c pre g=>False) (fun c pre g=>[]) (fun pre x b j=>[(1,zP b1),(2,.slice none 0 0),(4,zP b5),(5,zP b6),(17,.func (.func 71) #[] #[zP b7]),(6,zP j)]) (fun pre x b j=>[cells b1 [.string s1] 9,cells b5 [.map (some b4)] 55,za5 (fun n:Int=>Value.int .i32 n) (fun p:zaf=>Value.agg #[.int .i32 p.e0,.int .i32 p.e1]) b4 r1.2,cells b6 [b.2.v] 49,zlS za0 zaz 52 5 b.2.v b.1,cells j (zr0 x) 95]) (([]:List zah),Hd.nil) (fun post e=>by rw [List.nil_append] at e; subst e; exact h) (zaa [1,4,3,5,7] kr rfl) ⟨.inl ⟨6,rfl⟩,trivial⟩ (fun _=>rfl) dc ?_ ?_ ?_ ?_
   ·
    rintro lp rc pre x1 post ⟨l4,hd4⟩ w1 K1 hxs1 hext hro hinv
    refine zao ?_
    refine za4 zkL rfl dc (fun b8 => ?_)
    refine za6 (k:=5) (vs:=(zr0 x1)) (l':=(zr0 x1)) zfR rfl rfl rfl rfl rfl (show _≤_ by simp) rfl rfl ?_
    refine zaE ?_
    exact fun a w ha hw=>⟨b8,(za9 rfl) _ _ _ ha,hw.weaken (zaa [0,1,2,3,4,5] kr rfl)⟩
   ·
    rintro lp rc pre x1 post1 ⟨l4,hd4⟩ jb1 w1 K1 hxs1 hext hro hinv
    have h:=hinv (x1::post1) hxs1
    obtain ⟨ag1,hag1⟩:∃ ag,ag=zb4 dn1 (zdI s1 r1) post1:=⟨_,rfl⟩
    have h:zdI s1 r1 x1 ag1 l4=some r:=by have h2:=h; rw [zbQ,← hag1] at h2; exact h2
    unfold zdI at h
    refine zaA (zaM (zyG (zag zoU rfl dc rfl (show _=3 from rfl) (zan (k:=5) zwm rfl dc rfl rfl rfl (zyN ?_)))))
    refine zyB rfl h (fun h => ?_) (fun h => ?_)
    ·
     refine zaM ?_
     obtain ⟨c1,hq4,h⟩:=zbx h
     obtain ⟨hg1,h⟩:=zcg h
     refine zne (β:=Nat) 9 8 _ [(0,21,hd4.v),(1,22,zP jb1),(2,23,zI x1.At),(3,24,.string s1),(4,25,zP jb1),(5,26,zI x1.At),(6,27,.int .u8 c1),(7,28,.agg #[zI x1.At,.int .u8 c1,.int .i32 (-1),.slice none 0 0,.slice none 0 0])] (fun b9=>[(29,.slice (some ⟨b9,0,none⟩) 1 1)]) (fun b9=>[cells b1 [.string s1] 9,cells b5 [.map (some b4)] 55,za5 (fun n:Int=>Value.int .i32 n) (fun p:zaf=>Value.agg #[.int .i32 p.e0,.int .i32 p.e1]) b4 r1.2,cells b6 [hd4.v] 49,zlS za0 zaz 52 5 hd4.v l4,cells jb1 (zr0 x1) 95,cells b9 [zI x1.At,.int .u8 c1,.int .i32 (-1),.slice none 0 0,.slice none 0 0] 52]) mixed kr kr rfl dc dc (by rfl) kr kr (zaN ?_ (zaN ?_ (zaN ?_ (zaN ?_ (zaN ?_ (zaN ?_ (zaN ?_ (zaN ?_ (zeM DrawPreX.nil))))))))) (fun b9=>(zaN ?_ (zaN ?_ (zaN ?_ (zaN ?_ (zaN ?_ (zaN ?_ (zaN ?_ (zaN ?_ (zeM DrawPreX.nil)))))))))) ?_ ?_
     · exact fun D n d c u i=>zan (k:=3) zoz rfl dc (za8 (by rfl) rfl) rfl rfl (zaK 0 u i)
     · exact fun D n d c u i=>zag zdY rfl dc (za8 (by rfl) rfl) (show _=0 from rfl) (zaK 1 u i)
     · exact fun D n d c u i=>zan (k:=5) zd8 rfl dc (zaT 1 u d) rfl rfl (zaK 2 u i)
     · exact fun D n d c u i=>zan (k:=0) ze4 rfl dc (za8 (by rfl) rfl) rfl rfl (zaK 3 u i)
     · exact fun D n d c u i=>zag zdY rfl dc (za8 (by rfl) rfl) (show _=0 from rfl) (zaK 4 u i)
     · exact fun D n d c u i=>zan (k:=5) zd8 rfl dc (zaT 4 u d) rfl rfl (zaK 5 u i)
     · exact fun D n d c u i=>zfF rfl dc (zaT 3 u d) (zaT 5 u d) (zfj underlying9 hq4) (zaK 6 u i)
     · exact fun D n d c u i=>zck (v:=.agg #[zI x1.At,.int .u8 c1,.int .i32 (-1),.slice none 0 0,.slice none 0 0]) (ps:=[(0,.tmp 23),(1,.tmp 27),(2,.const (.int .i32 (-1)))]) rfl dc (evP.cons (zaT 2 u d) (evP.cons (zaT 6 u d) (evP.cons rfl evP.nil))) (fun _=>by kernel_rfl) (zaK 7 u i)
     · exact fun D n d c u i=>zan (k:=3) zoz rfl dc (za8 (by rfl) rfl) rfl rfl (zaK 0 u i)
     · exact fun D n d c u i=>zag zdY rfl dc (za8 (by rfl) rfl) (show _=0 from rfl) (zaK 1 u i)
     · exact fun D n d c u i=>zan (k:=5) zd8 rfl dc (zaT 1 u d) rfl rfl (zaK 2 u i)
     · exact fun D n d c u i=>zan (k:=0) ze4 rfl dc (za8 (by rfl) rfl) rfl rfl (zaK 3 u i)
     · exact fun D n d c u i=>zag zdY rfl dc (za8 (by rfl) rfl) (show _=0 from rfl) (zaK 4 u i)
     · exact fun D n d c u i=>zan (k:=5) zd8 rfl dc (zaT 4 u d) rfl rfl (zaK 5 u i)
     · exact fun D n d c u i=>zfF rfl dc (zaT 3 u d) (zaT 5 u d) (zfj underlying9 hq4) (zaK 6 u i)
     · exact fun D n d c u i=>zck (v:=.agg #[zI x1.At,.int .u8 c1,.int .i32 (-1),.slice none 0 0,.slice none 0 0]) (ps:=[(0,.tmp 23),(1,.tmp 27),(2,.const (.int .i32 (-1)))]) rfl dc (evP.cons (zaT 2 u d) (evP.cons (zaT 6 u d) (evP.cons rfl evP.nil))) (fun _=>by kernel_rfl) (zaK 7 u i)
     ·
      intro D hn hd hcl
      refine zaX (cs:=[zI x1.At,.int .u8 c1,.int .i32 (-1),.slice none 0 0,.slice none 0 0]) (te:=52) (ps:=[(0,.tmp 28)]) rfl dc (evP.cons (zdZ (m:=7) kr rfl (hd 7 dc)) evP.nil) (fun _=>by kernel_rfl) (fun b9 => ?_)
      exact fun a w ha hw=>⟨b9,zwh (by rfl) _ _ _ ha,hw⟩
     intro b9
     refine zgR (enc:=(zlf (.i32))) (e:=21) (size:=1) ?_
     refine zgR (enc:=(zlf (.i32))) (e:=21) (size:=1) ?_
     refine zd6 (k:=4) rfl zqx (fun zs1 hz1 => ?_)
     refine zbP (k:=4) (k2:=6) (ys:=[((⟨x1.At,c1,(-1),([]:List Int),([]:List Int)⟩:zah),(Hd.nil,Hd.nil))]) underlying49 zxr zbd zgf rfl dc rfl rfl rfl rfl rfl rfl (by rw [zxV hz1]; exact hg1) (fun v1 => ?_)
     refine zcr (k:=4) rfl (fun hd5 he1 => ?_)
     subst he1
     refine zjB (k:=9) rfl (zaa [7,8] kr rfl) rfl (zun (nest:=zaz) (zs:=zs1) (z:=((⟨x1.At,c1,(-1),([]:List Int),([]:List Int)⟩:zah),(Hd.nil,Hd.nil)))) ?_
     refine zjB (k:=4) rfl (zaa [9] kr rfl) rfl (zn1 (enc:=za0) (nest:=zaz) (zzn hz1)) ?_
     refine zcI (L':=[cells b1 [.string s1] 9,cells b5 [.map (some b4)] 55,za5 (fun n:Int=>Value.int .i32 n) (fun p:zaf=>Value.agg #[.int .i32 p.e0,.int .i32 p.e1]) b4 r1.2,cells b6 [hd4.v] 49,zlS za0 zaz 52 5 hd5.v (l4++[(⟨x1.At,c1,(-1),([]:List Int),([]:List Int)⟩:zah)]),cells jb1 (zr0 x1) 95,cells b9 [zI x1.At,.int .u8 c1,.int .i32 (-1),.slice none 0 0,.slice none 0 0] 52]) (zaa [0,1,2,3,4,5,6] kr rfl) ?_
     refine zaP (k:=3) (l':=[hd5.v]) zwP rfl rfl rfl rfl rfl (fun _ _=>rfl) rfl ?_
     refine zyN (zbG (zap (zaI ?_)))
     exact zcC (l4++[(⟨x1.At,c1,(-1),([]:List Int),([]:List Int)⟩:zah)],hd5) (fun post2 e2=>by have e9:=zb7 hxs1 e2; subst e9; subst hag1; exact h) (zaa [0,1,2,3,4] kr rfl)
    refine zaq (zaG ?_)
    obtain ⟨j2,hj2,h⟩:=zbT h
    refine za2 (β:=Unit) 0 rfl (fun b=>j2=some r) (fun b=>[]) (fun b=>[(1,zP b1),(2,.slice none 0 0),(4,zP b5),(5,zP b6),(6,zP jb1),(17,.func (.func 71) #[] #[zP b7])]) (fun b=>[cells b1 [.string s1] 9,cells b5 [.map (some b4)] 55,za5 (fun n:Int=>Value.int .i32 n) (fun p:zaf=>Value.agg #[.int .i32 p.e0,.int .i32 p.e1]) b4 r1.2,cells b6 [hd4.v] 49,zlS za0 zaz 52 5 hd4.v l4,cells jb1 (zr0 x1) 95]) (fun cut => ?_) ?_
    ·
     refine cut (zyG (zan (k:=3) zoz rfl dc rfl rfl rfl (zq6 (k:=4) rfl dc rfl rfl underlying49 (zyR 1 rfl (zyH (zyR 1 rfl (zaW rfl zeR (zyR 1 rfl ?_))))))))
     refine zyS (s:=35) rfl h (fun h => ?_) (fun h => ?_)
     ·
      refine zan (k:=3) zoz rfl dc rfl rfl rfl (zyR 1 rfl ?_)
      obtain ⟨hg2,h⟩:=zcg h
      refine zaW rfl (zgE (r:=(l4.length:Int) - 1) (IntWalk.i64_in _ hg2)) ?_
      refine zd6 (k:=4) rfl zqx (fun zs2 hz2 => ?_)
      obtain ⟨x2,hq5,h⟩:=zbx h
      obtain ⟨⟨eh1,eh2⟩,eq1⟩:=znL hz2 hq5
      refine zbo (k:=4) eq1 underlying49 zmu rfl dc rfl rfl rfl rfl (zgj (i:=((l4.length:Int) - 1:Int).toNat) (j:=0) (k:=4) (q:=(x2,(eh1,eh2))) (cs:=[zI x2.at_,.int .u8 x2.broken,.int .i32 x2.base,eh1.v,eh2.v]) zkT zbd rfl dc rfl rfl (zcj eq1) rfl rfl rfl ?_)
      refine zd6 (k:=6) rfl (zrL (zcj eq1)) (fun _ _ => ?_)
      obtain ⟨r3,hq6,h⟩:=zbx h
      refine zfG (v:=.bool r3) (vs:=[.agg #[zI x2.at_,.int .u8 x2.broken,.int .i32 x2.base,eh1.v,eh2.v]]) rfl dc rfl rfl rfl ztR (zef (u1:=x2) (u1_h0:=eh1) (u1_h1:=eh2) hq6) [7,8] kr rfl (zyR 2 rfl ?_)
      refine zyS (s:=43) rfl h (fun h => ?_) (fun h => ?_)
      ·
       refine zag zgA rfl dc rfl (show _=2 from rfl) (zan (k:=5) zft rfl dc rfl rfl rfl ?_)
       obtain ⟨hg3,h⟩:=zcg h
       refine zaQ (v:=zI (kind x1.Rune)) (vs:=[.int .i32 x1.Rune]) rfl dc rfl rfl rfl zvz (zdV fun w=>zja x1.Rune w hg3.1 hg3.2) ?_
       refine zaW rfl zbn (zyR 1 rfl (zyN ?_))
       refine zyB rfl h (fun h => ?_) (fun h => ?_)
       ·
        refine zaM (zub (k:=6) rfl (zaa [7,8] kr rfl) rfl (zoB (nest:=zaz) (zcj eq1) rfl) ?_)
        obtain ⟨hg4,h⟩:=zcg h
        obtain ⟨x3,hq7,h⟩:=zbx h
        obtain ⟨⟨eh3,eh4⟩,eq2⟩:=znL hz2 hq7
        obtain ⟨r4,hq8,h⟩:=zbx h
        refine zdh 6 [(0,49,hd4.v),(1,50,zI (l4.length:Int)),(2,51,zI ((l4.length:Int) - 1)),(3,52,.pointer (some ⟨zh6 hd4.v,((l4.length:Int) - 1:Int).toNat*5,none⟩)),(4,53,.pointer (some ⟨jb1,2,none⟩)),(5,54,.int .i32 x1.Rune)] mixed kr kr dc (by rfl) kr kr (zad ?_ (zyP 1 1 rfl (zad ?_ (zad ?_ (zad ?_ (zad ?_ DrawPre.nil)))))) ?_
        · exact fun D n d c u i=>zan (k:=3) zoz rfl dc (za8 (by rfl) rfl) rfl rfl (zaK 0 u i)
        · exact fun D n d c u i=>zhj rfl dc (zaT 1 u d) rfl (zgE (r:=(l4.length:Int) - 1) (IntWalk.i64_in _ hg4)) (zaK 2 u i)
        · exact fun D n d c u i=>zbo (k:=4) eq2 underlying49 zmu rfl dc (zaT 0 u d) (zaT 2 u d) rfl rfl (zaK 3 u i)
        · exact fun D n d c u i=>zag zgA rfl dc (za8 (by rfl) rfl) (show _=2 from rfl) (zaK 4 u i)
        · exact fun D n d c u i=>zan (k:=5) zft rfl dc (zaT 4 u d) rfl rfl (zaK 5 u i)
        refine zd6 (k:=6) rfl (zrL (zcj eq2)) (fun _ _ => ?_)
        refine zb3 (vs:=[.pointer (some ⟨zh6 hd4.v,((l4.length:Int) - 1:Int).toNat*5,none⟩),.int .i32 x1.Rune]) rfl dc rfl rfl rfl zxk (zgK (vu1:=hd4.v) (u1:=x3) (u1_h0:=eh3) (u1_h1:=eh4) (zcj eq2) hq8) (zaa [4,9,10] kr rfl) ?_
        rintro ⟨hd6,hd7⟩
        refine zcI (L':=[cells b1 [.string s1] 9,cells b5 [.map (some b4)] 55,za5 (fun n:Int=>Value.int .i32 n) (fun p:zaf=>Value.agg #[.int .i32 p.e0,.int .i32 p.e1]) b4 r1.2,cells b6 [hd4.v] 49,zv3 hd4.v (zs2.set (((l4.length:Int) - 1:Int).toNat) (r4,(hd6,hd7))),cells jb1 (zr0 x1) 95,own zaz (zs2.eraseIdx (((l4.length:Int) - 1:Int).toNat)),emp,emp,emp,emp,zv1 hd6.v r4.low,zv1 hd7.v r4.high]) (zaa [0,1,2,3,11,5,6,7,8,9,10,12,13] kr rfl) ?_
        refine zjB (k:=6) rfl (zaa [11,12] kr rfl) rfl (zoB (nest:=zaz) (zs:=zs2) (z:=(r4,(hd6,hd7))) (zu5 (zcj eq2)) zrz) ?_
        refine zcI (L':=[cells b1 [.string s1] 9,cells b5 [.map (some b4)] 55,za5 (fun n:Int=>Value.int .i32 n) (fun p:zaf=>Value.agg #[.int .i32 p.e0,.int .i32 p.e1]) b4 r1.2,cells b6 [hd4.v] 49,zv3 hd4.v (zs2.set (((l4.length:Int) - 1:Int).toNat) (r4,(hd6,hd7))),cells jb1 (zr0 x1) 95,own zaz (zs2.set (((l4.length:Int) - 1:Int).toNat) (r4,(hd6,hd7))),emp,emp]) (zaa [0,1,2,3,4,5,6,7,8] kr rfl) ?_
        refine zyN (zbG (zap (zaI (zgu (k:=4) rfl (zaa [6] kr rfl) rfl (zn1 (enc:=za0) (nest:=zaz) (zzD hz2)) ?_))))
        exact zcC (l4.set ((l4.length:Int) - 1:Int).toNat r4,hd4) (fun post2 e2=>by have e9:=zb7 hxs1 e2; subst e9; subst hag1; exact h) (zaa [0,1,2,3,4] kr rfl)
       refine zaq (zgu (k:=6) rfl (zaa [7,8] kr rfl) rfl (zoB (nest:=zaz) (zcj eq1) rfl) ?_)
       refine zgu (k:=4) rfl (zaa [6] kr rfl) rfl (zn1 (enc:=za0) (nest:=zaz) hz2) ?_
       exact zaj () h rfl (za9 rfl) (zaa [0,1,2,3,4,5] kr rfl)
      refine zyR 5 rfl (zyN (za3 rfl (zaq (zgu (k:=6) rfl (zaa [7,8] kr rfl) rfl (zoB (nest:=zaz) (zcj eq1) rfl) ?_))))
      refine zgu (k:=4) rfl (zaa [6] kr rfl) rfl (zn1 (enc:=za0) (nest:=zaz) hz2) ?_
      exact zaj () h rfl (za9 rfl) (zaa [0,1,2,3,4,5] kr rfl)
     refine zyR 13 rfl (zaE ?_)
     refine zaG (za3 rfl (zaq ?_))
     exact zaj () h rfl (za9 rfl) (zaa [0,1,2,3,4,5] kr rfl)
    rintro _ h
    rw [hj2] at h
    obtain ⟨j3,hj3,h⟩:=zbT h
    refine za2 (β:=Int×Int×Int×(List Int)×(List Int)×Nat×Hd×Hd) 1 rfl (fun b=>j3 b.1 b.2.1 b.2.2.1 b.2.2.2.1 b.2.2.2.2.1=some r) (fun b=>[]) (fun b=>[(1,zP b1),(2,.slice none 0 0),(4,zP b5),(5,zP b6),(8,zP b.2.2.2.2.2.1),(17,.func (.func 71) #[] #[zP b7])]) (fun b=>[cells b1 [.string s1] 9,cells b5 [.map (some b4)] 55,za5 (fun n:Int=>Value.int .i32 n) (fun p:zaf=>Value.agg #[.int .i32 p.e0,.int .i32 p.e1]) b4 r1.2,cells b6 [hd4.v] 49,zlS za0 zaz 52 5 hd4.v l4,cells b.2.2.2.2.2.1 [zI b.1,.int .u8 b.2.1,.int .i32 b.2.2.1,b.2.2.2.2.2.2.1.v,b.2.2.2.2.2.2.2.v] 52,zv1 b.2.2.2.2.2.2.1.v b.2.2.2.1,zv1 b.2.2.2.2.2.2.2.v b.2.2.2.2.1]) (fun cut => ?_) ?_
    ·
     refine zyG (zag zdY rfl dc rfl (show _=0 from rfl) (zan (k:=5) zd8 rfl dc rfl rfl rfl (zag zgA rfl dc rfl (show _=2 from rfl) (zan (k:=5) zft rfl dc rfl rfl rfl ?_))))
     refine zck (v:=.agg #[zI x1.At,.int .u8 0,.int .i32 x1.Rune,.slice none 0 0,.slice none 0 0]) (ps:=[(0,.tmp 57),(2,.tmp 59)]) rfl dc rfl (fun _=>by kernel_rfl) ?_
     refine za4 ztd rfl dc (fun b11 => ?_)
     refine za6 (k:=6) (vs:=[zI x1.At,.int .u8 0,.int .i32 x1.Rune,.slice none 0 0,.slice none 0 0]) (l':=[zI x1.At,.int .u8 0,.int .i32 x1.Rune,.slice none 0 0,.slice none 0 0]) zmu rfl rfl rfl rfl rfl (show _≤_ by simp) rfl rfl ?_
     refine zyN (cut (zyG (zbW (k:=6) (cs:=[zI x1.At,.int .u8 0,.int .i32 x1.Rune,.slice none 0 0,.slice none 0 0]) zkT rfl dc rfl rfl rfl rfl (zgR (enc:=(zlf (.i32))) (e:=21) (size:=1) ?_))))
     refine zgR (enc:=(zlf (.i32))) (e:=21) (size:=1) ?_
     obtain ⟨r5,hq9,h⟩:=zbx h
     refine zfG (v:=.bool r5) (vs:=[.agg #[zI x1.At,.int .u8 0,.int .i32 x1.Rune,.slice none 0 0,.slice none 0 0]]) rfl dc rfl rfl rfl ztR (zef (u1:=(⟨x1.At,0,x1.Rune,([]:List Int),([]:List Int)⟩:zah)) (u1_h0:=Hd.nil) (u1_h1:=Hd.nil) hq9) [7,8] kr rfl (zyN ?_)
     refine zyB rfl h (fun h => ?_) (fun h => ?_)
     ·
      refine zyG (zan (k:=1) ztq rfl dc rfl rfl rfl (zag zgA rfl dc rfl (show _=2 from rfl) (zan (k:=5) zft rfl dc rfl rfl rfl ?_)))
      obtain ⟨r6,hq10,h⟩:=zbx h
      refine zb3 (vs:=[.map (some b4),.int .i32 x1.Rune]) rfl dc rfl rfl rfl zvy (zin hq10) (zaa [2] kr rfl) ?_
      rintro v2
      refine zcI (L':=[cells b1 [.string s1] 9,cells b5 [.map (some b4)] 55,za5 (fun n:Int=>Value.int .i32 n) (fun p:zaf=>Value.agg #[.int .i32 p.e0,.int .i32 p.e1]) b4 r1.2,cells b6 [hd4.v] 49,zlS za0 zaz 52 5 hd4.v l4,cells jb1 (zr0 x1) 95,cells b11 [zI x1.At,.int .u8 0,.int .i32 x1.Rune,.slice none 0 0,.slice none 0 0] 52,zv1 (.slice none 0 0) ([]:List Int),zv1 (.slice none 0 0) ([]:List Int),zv1 v2 r6]) (zaa [0,1,9,3,4,5,6,7,8,10] kr rfl) ?_
      refine zcr (k:=9) rfl (fun hd10 he2 => ?_)
      subst he2
      refine zyR 1 rfl (zyH (zyR 1 rfl ?_))
      obtain ⟨q1,hq11,h⟩:=zbx h
      refine zbo (k:=9) hq11 underlying30 zho rfl dc rfl rfl rfl rfl (zcv (i:=(0:Int).toNat) (j:=0) (k:=9) (q:=q1) zft zdr rfl dc rfl rfl (zcj hq11) rfl dc rfl (zag ze6 rfl dc rfl (show _=2 from rfl) ?_))
      refine zaP (k:=6) (l':=[zI x1.At,.int .u8 0,.int .i32 q1,.slice none 0 0,.slice none 0 0]) zho rfl rfl rfl rfl rfl (fun _ _=>rfl) rfl ?_
      refine zyH (zyR 1 rfl ?_)
      refine zes (k:=9) rfl (fun hw1 => ?_)
      obtain ⟨hg5,h⟩:=zcg h
      obtain ⟨v3,hv1,hs1⟩:=ziX (lo:=some (zI 1)) (hi:=none) hw1 underlying30 zho (.inr rfl) (.inl ⟨rfl,rfl⟩) hg5
      refine zce rfl dc rfl rfl rfl hs1 (zcs hv1 rfl dc rfl underlying30 (zyR 1 rfl (zyN (zaA (ze2 (enc:=(zlf (.i32))) (e:=21) (size:=1) ?_)))))
      refine ze2 (enc:=(zlf (.i32))) (e:=21) (size:=1) ?_
      refine zbS (β:=Nat×Int×Int×Int×(List Int)×(List Int)×Int×Hd×Hd) (fun b=>zaU (fun _ _ _ _ _ _=>none) (zc4 j3 r6) b.1 b.2.1 b.2.2.1 b.2.2.2.1 b.2.2.2.2.1 b.2.2.2.2.2.1 b.2.2.2.2.2.2.1=some r) (fun b=>[]) (fun b=>[(1,zP b1),(2,.slice none 0 0),(4,zP b5),(5,zP b6),(8,zP b11),(17,.func (.func 71) #[] #[zP b7]),(72,v3),(73,zI ((zhl r6 1 (r6.length:Int)).length:Int)),(74,zI b.2.2.2.2.2.2.1)]) (fun b=>[cells b1 [.string s1] 9,cells b5 [.map (some b4)] 55,za5 (fun n:Int=>Value.int .i32 n) (fun p:zaf=>Value.agg #[.int .i32 p.e0,.int .i32 p.e1]) b4 r1.2,cells b6 [hd4.v] 49,zlS za0 zaz 52 5 hd4.v l4,cells b11 [zI b.2.1,.int .u8 b.2.2.1,.int .i32 b.2.2.2.1,b.2.2.2.2.2.2.2.1.v,b.2.2.2.2.2.2.2.2.v] 52,zv1 b.2.2.2.2.2.2.2.1.v b.2.2.2.2.1,zv1 b.2.2.2.2.2.2.2.2.v b.2.2.2.2.2.1,zv1 hd10.v r6]) (fun b=>b.1) (zcG,x1.At,0,q1,([]:List Int),([]:List Int),0,Hd.nil,Hd.nil) h rfl (za9 rfl) (zaa [0,1,2,3,4,6,10,11,9] kr rfl) ?_
      rintro ⟨n1,u23,u24,u25,u26,u27,x6,hd16,hd17⟩ h
      cases n1 with
      | zero=>exact zez h
      | succ n1 =>
       obtain ⟨ag2,hag2⟩:∃ ag,ag=zaU (fun _ _ _ _ _ _=>none) (zc4 j3 r6) n1:=⟨_,rfl⟩
       have h:zc4 j3 r6 ag2 u23 u24 u25 u26 u27 x6=some r:=by rw [hag2]; exact h
       unfold zc4 at h
       refine zyG (zaW rfl zbE (zyN (zaM ?_)))
       refine zyB rfl h (fun h => ?_) (fun h => ?_)
       ·
        refine zaq (zaG (zaM (zaA (zyG ?_))))
        obtain ⟨q2,hq12,h⟩:=zbx h
        refine zbc hv1 hq12 underlying30 zho rfl dc rfl rfl rfl (zcv (i:=0+(1:Int).toNat+(x6:Int).toNat) (j:=0) (k:=8) (q:=q2) zft zdr rfl dc rfl rfl (Vw.get hv1 hq12) rfl dc rfl (zyR 1 rfl (zyN (zao (zyR 1 rfl (zgv (enc:=za0) [((⟨u23,u24,u25,u26,u27⟩:zah),(hd16,hd17))] (k:=5) rfl zbd rfl (show 1≤maxLen by decide) ?_))))))
        obtain ⟨r7,hq13,h⟩:=zbx h
        refine zb3 (vs:=[zP b11,.int .i32 q2]) rfl dc rfl rfl rfl zxk (zgK (vu1:=(.slice (some ⟨b11,0,none⟩) 1 1)) (u1:=(⟨u23,u24,u25,u26,u27⟩:zah)) (u1_h0:=hd16) (u1_h1:=hd17) (show [((⟨u23,u24,u25,u26,u27⟩:zah),(hd16,hd17))][0]?=some ((⟨u23,u24,u25,u26,u27⟩:zah),(hd16,hd17)) from rfl) hq13) (zaa [5,6,7] kr rfl) ?_
        rintro ⟨hd18,hd19⟩
        refine zcI (L':=[cells b1 [.string s1] 9,cells b5 [.map (some b4)] 55,za5 (fun n:Int=>Value.int .i32 n) (fun p:zaf=>Value.agg #[.int .i32 p.e0,.int .i32 p.e1]) b4 r1.2,cells b6 [hd4.v] 49,zlS za0 zaz 52 5 hd4.v l4,zv3 (.slice (some ⟨b11,0,none⟩) 1 1) [(r7,(hd18,hd19))],emp,emp,zv1 hd10.v r6,zv1 hd18.v r7.low,zv1 hd19.v r7.high]) (zaa [0,1,2,3,4,9,6,7,8,10,11] kr rfl) ?_
        refine zlq (k:=5) rfl (zzN zbd) ?_
        refine zaE (zae (zaG (zao ?_)))
        obtain ⟨hg6,h⟩:=zcg h
        refine zaW rfl (zbi (r:=x6+1) (IntWalk.i64_in _ hg6)) (zyR 1 rfl (zaE ?_))
        subst hag2
        exact zbv (n1,r7.at_,r7.broken,r7.base,r7.low,r7.high,x6+1,hd18,hd19) h (Nat.lt_succ_self _) rfl (za9 rfl) (zaa [0,1,2,3,4,5,9,10,8] kr rfl)
       refine zbG (zap (zap (zaI ?_)))
       exact zaj (u23,u24,u25,u26,u27,b11,hd16,hd17) h rfl (za9 rfl) (zaa [0,1,2,3,4,5,6,7] kr rfl)
     refine zaq (zob (enc:=(zlf (.i32))) (e:=21) (size:=1) ?_)
     refine zob (enc:=(zlf (.i32))) (e:=21) (size:=1) ?_
     exact zaj (x1.At,0,x1.Rune,([]:List Int),([]:List Int),b11,Hd.nil,Hd.nil) h rfl (za9 rfl) (zaa [0,1,2,3,4,6,9,10] kr rfl)
    rintro ⟨u1,u2,u3,u4,u5,b10,hd8,hd9⟩ h
    rw [hj3] at h
    refine zao (zan (k:=3) zoz rfl dc rfl rfl rfl (zbW (k:=5) (cs:=[zI u1,.int .u8 u2,.int .i32 u3,hd8.v,hd9.v]) zkT rfl dc rfl rfl rfl rfl ?_))
    refine zaX (cs:=[zI u1,.int .u8 u2,.int .i32 u3,hd8.v,hd9.v]) (te:=52) (ps:=[(0,.tmp 82)]) rfl dc rfl (fun _=>by kernel_rfl) (fun b12 => ?_)
    refine zd6 (k:=4) rfl zqx (fun zs3 hz3 => ?_)
    obtain ⟨hg7,h⟩:=zcg h
    refine zbP (k:=4) (k2:=8) (ys:=[((⟨u1,u2,u3,u4,u5⟩:zah),(hd8,hd9))]) underlying49 zxr zbd zgf rfl dc rfl rfl rfl rfl rfl rfl (by rw [zxV hz3]; exact hg7) (fun v4 => ?_)
    refine zcr (k:=4) rfl (fun hd20 he3 => ?_)
    subst he3
    refine zjB (k:=9) rfl (zaa [6,7] kr rfl) rfl (zun (nest:=zaz) (zs:=zs3) (z:=((⟨u1,u2,u3,u4,u5⟩:zah),(hd8,hd9)))) ?_
    refine zjB (k:=4) rfl (zaa [9] kr rfl) rfl (zn1 (enc:=za0) (nest:=zaz) (zzn hz3)) ?_
    refine zcI (L':=[cells b1 [.string s1] 9,cells b5 [.map (some b4)] 55,za5 (fun n:Int=>Value.int .i32 n) (fun p:zaf=>Value.agg #[.int .i32 p.e0,.int .i32 p.e1]) b4 r1.2,cells b6 [hd4.v] 49,zlS za0 zaz 52 5 hd20.v (l4++[(⟨u1,u2,u3,u4,u5⟩:zah)]),cells b10 [zI u1,.int .u8 u2,.int .i32 u3,hd8.v,hd9.v] 52,emp,emp,cells b12 [zI u1,.int .u8 u2,.int .i32 u3,hd8.v,hd9.v] 52]) (zaa [0,1,2,3,4,5,6,7,8] kr rfl) ?_
    refine zaP (k:=3) (l':=[hd20.v]) zwP rfl rfl rfl rfl rfl (fun _ _=>rfl) rfl ?_
    refine zaE (zae ?_)
    exact zcC (l4++[(⟨u1,u2,u3,u4,u5⟩:zah)],hd20) (fun post2 e2=>by have e9:=zb7 hxs1 e2; subst e9; subst hag1; exact h) (zaa [0,1,2,3,4] kr rfl)
   ·
    rintro dm1 ⟨l4,hd4⟩ hinv
    have h:dn1 l4=some r:=hinv [] (List.append_nil _).symm
    rw [hdn1] at h
    show TX _ _ _ _ _ _ _ [zej ((([]:List Nat):List Nat).map zdW),emp,za5 (fun p:zaf=>Value.agg #[.int .i32 p.e0,.int .i32 p.e1]) (fun n:Int=>Value.int .i32 n) b3 r1.1,emp,emp,emp,cells b7 [.string r2] 9,emp,cells b1 [.string s1] 9,cells b5 [.map (some b4)] 55,za5 (fun n:Int=>Value.int .i32 n) (fun p:zaf=>Value.agg #[.int .i32 p.e0,.int .i32 p.e1]) b4 r1.2,cells b6 [hd4.v] 49,zlS za0 zaz 52 5 hd4.v l4,zdW dm1]
    refine zdU (k:=13) (j:=0) rfl rfl dc ?_
    refine zae ?_
    exact zaj (l4,b6,hd4,dm1::([]:List Nat)) h rfl (za9 rfl) (zaa [11,12,0] kr rfl)
   rintro dm1 c pre x1 post g hxs hX
   exact (show False from hX).elim
  rintro ⟨l1,b2,hd1,ds1⟩ h
  rw [hj1] at h
  refine zyG (zan (k:=0) zoz rfl dc rfl rfl rfl (zyR 1 rfl (zyN (zaD (zjz (by simp) ?_)))))
  cases h
  exact zdj (rs:=[.tmp 2]) ds1 hd1.v (.inl rfl) (zbf (k:=2) rfl) results20 (.cons (.tmp rfl) .nil) rfl (zaa [1] kr rfl)
 exact fun b hb=>hb.elim
def zgn (b:zBA):Int:=((b.data.toList.headD 0).toNat:Int)
def toU (c:Itm×List Itm):zah:=if c.1.Rune<0 then ⟨c.1.At,zgn c.1.Text,-1,[],[]⟩ else ⟨c.1.At,0,c.1.Rune,(loI c.2).map (·.Rune),(hiI c.2).map (·.Rune)⟩
def zeA (u:zah) (r:Int):zah:=if znF r then ⟨u.at_,u.broken,u.base,u.low++[r],u.high⟩ else ⟨u.at_,u.broken,u.base,u.low,u.high++[r]⟩
theorem zus (u:zah) (r:Int) (h1:u.low.length≤2000000000) (h2:u.high.length≤2000000000):zdE u r=some (zeA u r):=by
 unfold zdE
 refine zaR (zye r) ?_
 unfold zeA
 cases znF r with
 | true=>exact zaL rfl (zct (by omega) rfl)
 | false=>exact zaF rfl (zct (by omega) rfl)
theorem zpz (x:Itm) (hx:0≤x.Rune) (ms:List Itm) (y:Itm):zeA (toU (x,ms)) y.Rune=toU (x,ms++[y]):=by
 unfold zeA toU loI hiI
 simp only [if_neg (show ¬ x.Rune<0 by omega),List.filter_append]
 show (if zuy y then _ else _)=_
 cases h:zuy y <;> simp [h]
theorem zqy (u:zah) (ms:List Int) (r6:List Int) (b:Int) (hr:r6=b::ms) (hl:u.low.length+u.high.length+ms.length≤1000000000) (J:Int→Int→Int→(List Int)→(List Int)→Option (List zah)) :
  zaU (fun _ _ _ _ _ _=>none) (zc4 J r6) zcG u.at_ u.broken u.base u.low u.high 0=J (ms.foldl zeA u).at_ (ms.foldl zeA u).broken (ms.foldl zeA u).base (ms.foldl zeA u).low (ms.foldl zeA u).high:=by
 have hc:zhl r6 1 (r6.length:Int)=ms:=by
  subst hr; unfold zhl; simp
 have key:∀ (n k:Nat) (u:zah),k≤ms.length→ms.length - k<n→u.low.length+u.high.length+(ms.length - k)≤1000000000 →
   zaU (fun _ _ _ _ _ _=>none) (zc4 J r6) n u.at_ u.broken u.base u.low u.high (k:Int)=J ((ms.drop k).foldl zeA u).at_ ((ms.drop k).foldl zeA u).broken ((ms.drop k).foldl zeA u).base ((ms.drop k).foldl zeA u).low ((ms.drop k).foldl zeA u).high:=by
  intro n
  induction n with
  | zero=>intro k u _ h; omega
  | succ n ih =>
   intro k u hk hn hb
   rw [zfO]
   generalize zaU (fun _ _ _ _ _ _=>none) (zc4 J r6) n=ag at ih ⊢
   unfold zc4
   rw [hc]
   by_cases h:k<ms.length
   ·have hx:ms[k]?=some ms[k]:=List.getElem?_eq_getElem h
    refine zaL (zlD hx) (zaR (zht hx) (zaR (zus u _ (by omega) (by omega)) (zct (zf8 (by omega)) ?_)))
    have hm:(zeA u ms[k]).low.length+(zeA u ms[k]).high.length=u.low.length+u.high.length+1:=by
     unfold zeA; split <;> simp <;> omega
    have:=ih (k+1) (zeA u ms[k]) (by omega) (by omega) (by omega)
    push_cast at this
    rw [this,List.drop_eq_getElem_cons h]; rfl
   ·have:k=ms.length:=by omega
    subst this
    exact zaF zlE (by rw [List.drop_length]; rfl)
 have:=key zcG 0 u (Nat.zero_le _) (by have:=zfs (n:=ms.length) (by omega); omega) (by omega)
 simpa using this
def zn7 (s:zBA) (l:List zah) (p:zam):List zah :=
 if p.Broken then l++[⟨p.At,(zlH s p.At).getD 0,-1,[],[]⟩]
 else match l.getLast? with
  | some u=>if zaS u.base&&mrk p.Rune then l.set (l.length - 1) (zeA u p.Rune) else l++[if zaS p.Rune then (zcW p.Rune).tail.foldl zeA ⟨p.At,0,(zcW p.Rune).headD 0,[],[]⟩ else ⟨p.At,0,p.Rune,[],[]⟩]
  | none=>l++[if zaS p.Rune then (zcW p.Rune).tail.foldl zeA ⟨p.At,0,(zcW p.Rune).headD 0,[],[]⟩ else ⟨p.At,0,p.Rune,[],[]⟩]
def zxK (k:Nat) (l:List zah):Prop:=l.length≤k∧∀ u∈l,u.low.length+u.high.length≤3*k∧I32 u.base
theorem znE (u:zah) (r:Int):(zeA u r).low.length+(zeA u r).high.length=u.low.length+u.high.length+1∧(zeA u r).base=u.base:=by
 unfold zeA; split <;> simp <;> omega
theorem zqz (ms:List Int):∀ u:zah,(ms.foldl zeA u).low.length+(ms.foldl zeA u).high.length=u.low.length+u.high.length+ms.length∧(ms.foldl zeA u).base=u.base:=by
 induction ms with
 | nil=>intro u; simp
 | cons m ms ih=>intro u; have:=ih (zeA u m); have h2:=znE u m; rw [List.foldl_cons]; simp only [List.length_cons]; constructor; omega; rw [this.2,h2.2]
theorem zrV (p:zam) (hp:I32 p.Rune) (k:Nat):((if zaS p.Rune then (zcW p.Rune).tail.foldl zeA ⟨p.At,0,(zcW p.Rune).headD 0,[],[]⟩ else ⟨p.At,0,p.Rune,[],[]⟩:zah).low.length+(if zaS p.Rune then (zcW p.Rune).tail.foldl zeA ⟨p.At,0,(zcW p.Rune).headD 0,[],[]⟩ else ⟨p.At,0,p.Rune,[],[]⟩:zah).high.length≤3*(k+1))∧I32 (if zaS p.Rune then (zcW p.Rune).tail.foldl zeA ⟨p.At,0,(zcW p.Rune).headD 0,[],[]⟩ else ⟨p.At,0,p.Rune,[],[]⟩:zah).base:=by
 cases h:zaS p.Rune with
 | false=>simp only [Bool.false_eq_true,if_false]; exact ⟨by simp,hp⟩
 | true =>
  simp only [if_true]
  have h1:=zqz (zcW p.Rune).tail ⟨p.At,0,(zcW p.Rune).headD 0,[],[]⟩
  have h2:=zny p.Rune
  have h3:(zcW p.Rune).tail.length≤2:=by rw [List.length_tail]; omega
  refine ⟨by rw [h1.1]; simp; omega,?_⟩
  rw [h1.2]
  have h4:=znz hp
  cases hq:zcW p.Rune with
  | nil=>rw [hq] at h2; simp at h2
  | cons b ms=>exact h4 b (by rw [hq]; exact List.mem_cons_self ..)
theorem zt7 (s:zBA) (k:Nat) (p:zam) (l:List zah) (hp:I32 p.Rune) (h:zxK k l):zxK (k+1) (zn7 s l p):=by
 obtain ⟨h1,h2⟩:=h
 have app:∀ u:zah,(u.low.length+u.high.length≤3*(k+1)∧I32 u.base)→zxK (k+1) (l++[u]):=fun u hu=>⟨by simp; omega,fun v hv=>by
  rcases List.mem_append.1 hv with hv | hv
  ·have:=h2 v hv; exact ⟨by omega,this.2⟩
  ·simp at hv; subst hv; exact hu⟩
 unfold zn7
 split
 ·exact app _ ⟨by simp,(show I32 (-1) from ⟨by omega,by omega⟩)⟩
 ·split
  ·rename_i u hu
   split
   ·have hm:=List.mem_of_getLast? hu
    refine ⟨by simp; omega,fun v hv => ?_⟩
    rcases List.mem_or_eq_of_mem_set hv with hv | rfl
    ·have:=h2 v hv; exact ⟨by omega,this.2⟩
    ·have:=h2 u hm; have h3:=znE u p.Rune; exact ⟨by omega,by rw [h3.2]; exact this.2⟩
   ·exact app _ (zrV p hp k)
  ·exact app _ (zrV p hp k)
theorem zqc (s:zBA) (hs:s.size≤65536):zea s=some (((pcs s.data.toList).map pcG).foldl (zn7 s) []):=by
 unfold zea
 refine zb8 (zaR zpo (zaR (a:=s) rfl (zaR (zk0 s (by omega)) (zb8 ?_))))
 have hc:=zew s
 have hr:∀ p∈(pcs s.data.toList).map pcG,I32 p.Rune∧(p.Broken=true→zlH s p.At=some ((zlH s p.At).getD 0)):=by
  intro p hp
  obtain ⟨q,hq,rfl⟩:=List.mem_map.1 hp
  obtain ⟨g1,g2,hok⟩:=ziB s.data.toList q hq
  have hv:=hok.valid
  have hlen:s.data.toList.length=s.size:=by rw [Array.length_toList]; rfl
  refine ⟨⟨by simp only [pcG]; omega,by simp only [pcG]; omega⟩,fun _ => ?_⟩
  have hw:=hok.pos
  rw [show (pcG q).At=(q.i:Int) from rfl,zsb (n:=q.i) rfl (by omega)]; rfl
 have key:∀ (ps:List zam) (k:Nat) (l:List zah),zxK k l→k+ps.length≤65536→(∀ p∈ps,I32 p.Rune∧(p.Broken=true→zlH s p.At=some ((zlH s p.At).getD 0)))→zb4 (some:List zah→_) (zdI s (tabP,tabS)) ps l=some (ps.foldl (zn7 s) l):=by
  intro ps
  induction ps with
  | nil=>intro k l _ _ _; rfl
  | cons p ps ih =>
   intro k l hb hk hp
   obtain ⟨hp1,hp2⟩:=hp p (List.mem_cons_self ..)
   obtain ⟨hb1,hb2⟩:=hb
   simp only [List.length_cons] at hk
   rw [zbQ,List.foldl_cons,← ih (k+1) (zn7 s l p) (zt7 s k p l hp1 ⟨hb1,hb2⟩) (by omega) (fun q hq=>hp q (List.mem_cons_of_mem _ hq))]
   generalize zb4 (some:List zah→_) (zdI s (tabP,tabS)) ps=ag
   unfold zdI zn7
   cases hB:p.Broken with
   | true=>exact zaL rfl (zaR (hp2 hB) (zct (by omega) (by simp)))
   | false =>
    simp only [Bool.false_eq_true,if_false]
    refine zaF rfl (zb8 ?_)
    have new:(zbF (fun (j3:Int→Int→Int→(List Int)→(List Int)→Option (List zah)) =>
      zak (zcp (⟨p.At,0,p.Rune,([]:List Int),([]:List Int)⟩:zah)) fun (r5:Bool) =>
      zat (r5) (zak (zeg (tabP,tabS).2 p.Rune) fun (r6:(List Int)) =>
       zak (zd7 r6 0) fun (q1:Int)=>grd (0≤(1:Int)∧(1:Int)≤(r6.length:Int)∧((r6.length:Int):Int)≤(r6.length:Int)) <|
       zaU (fun _ _ _ _ _ _=>none) (zc4 j3 r6) zcG p.At 0 q1 ([]:List Int) ([]:List Int) 0) (j3 p.At 0 p.Rune ([]:List Int) ([]:List Int)))
      (fun (u1:Int) (u2:Int) (u3:Int) (u4:List Int) (u5:List Int)=>grd (l.length+1≤2147483648)<|ag (l++[(⟨u1,u2,u3,u4,u5⟩:zah)]))) =
      ag (l++[if zaS p.Rune then (zcW p.Rune).tail.foldl zeA ⟨p.At,0,(zcW p.Rune).headD 0,[],[]⟩ else ⟨p.At,0,p.Rune,[],[]⟩]):=by
     refine zb8 (zaR (zkA _ hp1) ?_)
     show zat (zaS p.Rune) _ _=_
     cases hL:zaS p.Rune with
     | false=>exact zaF rfl (zct (by omega) (by simp))
     | true =>
      obtain ⟨b,ms,hq,_,_,_,hms⟩:=zey hL
      refine zaL rfl (zaR (zty _) (zaR (a:=b) (by rw [hq]; rfl) (zct (by rw [hq]; simp only [List.length_cons]; omega) ?_)))
      refine (zqy (⟨p.At,0,b,[],[]⟩:zah) ms (zcW p.Rune) b hq (by simp; omega) _).trans (zct (by omega) ?_)
      rw [hq]; simp
    cases hl:l.getLast? with
    | none =>
     have:l=[]:=List.getLast?_eq_none_iff.1 hl
     subst this
     exact zaF (by decide) new
    | some u =>
     have hne:l≠[]:=by intro h; subst h; cases hl
     have hlen:0<l.length:=List.length_pos_iff.2 hne
     have hm:=List.mem_of_getLast? hl
     have hu:=hb2 u hm
     have hg:zd7 l ((l.length:Int) - 1)=some u:=zvq (n:=l.length - 1) (by omega) (by rw [← List.getLast?_eq_getElem?]; exact hl)
     refine zaL (decide_eq_true (by omega)) (zct ⟨by omega,by omega⟩ (zaR hg (zaR (zkA u hu.2) ?_)))
     cases hL:zaS u.base with
     | false=>exact zaF rfl (by simpa [hL] using new)
     | true =>
      refine zaL rfl (zct hp1 ?_)
      rw [zw6]
      cases hM:mrk p.Rune with
      | false=>exact zaF rfl (by simpa [hL,hM] using new)
      | true =>
       refine zaL rfl (zct ⟨by omega,by omega⟩ (zaR hg (zaR (zus u _ (by omega) (by omega)) ?_)))
       simp only [Bool.and_self,if_true]
       rw [show ((l.length:Int) - 1).toNat=l.length - 1 by omega]
       simp [hL]
 have:=key ((pcs s.data.toList).map pcG) 0 [] ⟨by simp,by simp⟩ (by simp; omega) hr
 exact this
theorem zr5 {s:zBA} {p:Pc} (hp:p∈pcs s.data.toList):(p.broken=true→(itG s p).Rune=-1∧(itG s p).Text.size=1∧zgn (itG s p).Text=(zlH s p.i).getD 0)∧(p.broken=false→(itG s p).Rune=p.r∧(itG s p).Text=Utf8.encode (p.r:Int)):=by
 obtain ⟨g1,g2,hok⟩:=ziB s.data.toList p hp
 have hlen:s.data.toList.length=s.size:=by rw [Array.length_toList]; rfl
 have hf:=zve hp
 have hw:=hok.pos
 constructor
 ·intro hb
  have hw1:p.w=1:=by unfold Pc.broken at hb; simp at hb; exact hb.2
  refine ⟨by simp [itG,hb],by simp [itG,hw1]; omega,?_⟩
  have e:(itG s p).Text.data.toList=(s.data.toList.drop p.i).take p.w:=by
   show (s.extract p.i (p.i+p.w)).data.toList=_
   rw [Lib.extract_data]; simp
  unfold zgn
  rw [e,hw1,zsb (n:=p.i) rfl (by omega)]
  have hi:p.i<s.data.toList.length:=by omega
  rw [List.drop_eq_getElem_cons hi]
  simp
  rfl
 ·intro hb
  refine ⟨by simp [itG,hb],?_⟩
  have hnb:¬ (p.r=65533∧p.w=1):=by
   unfold Pc.broken at hb; simpa using hb
  apply ByteArray.ext; apply Array.toList_inj.1
  show (s.extract p.i (p.i+p.w)).data.toList=_
  rw [Lib.extract_data]
  have h1:=hok.bytes hnb
  rw [zcT,h1]
  simp
theorem ztY (cur:Option (Itm×List Itm)) (x:Itm) (xs:List Itm) (h:∀ c,cur=some c→(isL c.1&&isM x)=false):clF cur (x::xs)=cur.toList++clF (some (x,[])) xs:=by
 cases cur with
 | none=>rfl
 | some c =>
  show (if isL c.1&&isM x then clF (some (c.1,c.2++[x])) xs else c::clF (some (x,[])) xs)=_
  rw [h c rfl]; rfl
theorem zjv (x:Itm) (hx:isL x=true) (xs:List Itm):∀ (ms ks:List Itm),(∀ m∈ms,isM m=true)→clF (some (x,ks)) (ms++xs)=clF (some (x,ks++ms)) xs
 | [],ks,_=>by simp
 | m::ms,ks,h=>by
  rw [List.cons_append]
  show (if isL x&&isM m then clF (some (x,ks++[m])) (ms++xs) else _)=_
  rw [hx,h m (List.mem_cons_self ..)]
  simp only [Bool.and_self,if_true]
  rw [zjv x hx xs ms (ks++[m]) (fun z hz=>h z (List.mem_cons_of_mem _ hz))]
  simp
theorem znB (x:Itm) (hx:0≤x.Rune):∀ (ms ks:List Itm),(ms.map (·.Rune)).foldl zeA (toU (x,ks))=toU (x,ks++ms)
 | [],ks=>by simp
 | m::ms,ks=>by
  rw [List.map_cons,List.foldl_cons,zpz x hx,znB x hx ms]; simp
theorem zmr (c:Itm×List Itm) (h:0≤c.1.Rune):(toU c).base=c.1.Rune:=by
 unfold toU; rw [if_neg (by omega)]
theorem zlV (c:Itm×List Itm):zaS (toU c).base=isL c.1:=by
 unfold toU isL
 split
 ·rename_i h
  have h1:zaS (-1)=false:=by decide
  have h2:zaS c.1.Rune=false:=by
   cases e:zaS c.1.Rune with
   | false=>rfl
   | true=>have:=(zcy _ e).1; omega
  rw [h2]; exact h1
 ·rfl
theorem zpk (s:zBA):∀ (ps:List Pc) (cur:Option (Itm×List Itm)) (L:List zah),(∀ p∈ps,p∈pcs s.data.toList)→(cur=none→L=[]) →
  (ps.map pcG).foldl (zn7 s) (L++cur.toList.map toU)=L++(clF cur (apL (ps.map (itG s)))).map toU
 | [],cur,L,_,_=>by
  cases cur <;> simp [apL,clF]
 | p::ps,cur,L,hp,hcur=>by
  rw [List.map_cons,List.foldl_cons,List.map_cons]
  have hap:apL (itG s p::ps.map (itG s))=apI (itG s p)++apL (ps.map (itG s)):=by unfold apL; rw [List.flatMap_cons]
  rw [hap]
  obtain ⟨hb1,hb2⟩:=zr5 (hp p (List.mem_cons_self ..))
  have tail:=fun cur' L' hc=>zpk s ps cur' L' (fun q hq=>hp q (List.mem_cons_of_mem _ hq)) hc
  have hv:p.broken=false→0≤(itG s p).Rune:=fun h=>by rw [(hb2 h).1]; omega
  have new:∀ (x:Itm) (ms:List Itm),(isL x=false→ms=[])→(∀ m∈ms,isM m=true)→(∀ c,cur=some c→(isL c.1&&isM x)=false)→zn7 s (L++cur.toList.map toU) (pcG p)=(L++cur.toList.map toU)++[toU (x,ms)]→apI (itG s p)=x::ms →
    (ps.map pcG).foldl (zn7 s) (zn7 s (L++cur.toList.map toU) (pcG p))=L++(clF cur (apI (itG s p)++apL (ps.map (itG s)))).map toU:=by
   intro x ms h1 h2 h3 h4 h5
   rw [h4,h5,List.cons_append,ztY cur x _ h3]
   have h6:clF (some (x,[])) (ms++apL (ps.map (itG s)))=clF (some (x,ms)) (apL (ps.map (itG s))):=by
    cases hx:isL x with
    | true=>rw [zjv x hx _ ms [] h2]; rfl
    | false=>rw [h1 hx]; rfl
   have:=tail (some (x,ms)) (L++cur.toList.map toU) (by simp)
   rw [show (L++cur.toList.map toU)++[toU (x,ms)]=(L++cur.toList.map toU)++(some (x,ms)).toList.map toU from rfl,this,h6]
   simp
  cases hB:p.broken with
  | true =>
   obtain ⟨e1,e2,e3⟩:=hb1 hB
   have hL:isL (itG s p)=false:=by unfold isL; rw [e1]; decide
   have hM:isM (itG s p)=false:=by unfold isM; rw [e1]; decide
   refine new (itG s p) [] (fun _=>rfl) (by simp) (fun c _=>by rw [hM,Bool.and_false]) ?_ (by unfold apI; rw [hL]; rfl)
   unfold zn7
   rw [show (pcG p).Broken=true from hB]
   simp only [if_true]
   have:toU (itG s p,[])=⟨(itG s p).At,zgn (itG s p).Text,-1,[],[]⟩:=by unfold toU; rw [if_pos (by rw [e1]; omega)]
   rw [this,e3]; rfl
  | false =>
   obtain ⟨e1,e2⟩:=hb2 hB
   have h0:0≤(itG s p).Rune:=hv hB
   have hpr:(pcG p).Rune=(itG s p).Rune:=by rw [e1]; rfl
   have hnew:∃ x ms,apI (itG s p)=x::ms∧(isL x=false→ms=[])∧(∀ m∈ms,isM m=true)∧isL x=isL (itG s p)∧isM x=isM (itG s p) ∧
     (if zaS (pcG p).Rune then (zcW (pcG p).Rune).tail.foldl zeA ⟨(pcG p).At,0,(zcW (pcG p).Rune).headD 0,[],[]⟩ else ⟨(pcG p).At,0,(pcG p).Rune,[],[]⟩)=toU (x,ms):=by
    rw [hpr]
    cases hL:isL (itG s p) with
    | false =>
     have hL':zaS (itG s p).Rune=false:=hL
     refine ⟨itG s p,[],by unfold apI; rw [hL]; rfl,fun _=>rfl,by simp,hL,rfl,?_⟩
     rw [hL']
     unfold toU
     rw [if_neg (show ¬ (itG s p,([]:List Itm)).1.Rune<0 by show ¬ (itG s p).Rune<0; omega)]
     rfl
    | true =>
     have hL':zaS (itG s p).Rune=true:=hL
     obtain ⟨b,ms,hq,hb,_,hms,_⟩:=zey hL'
     have hb0:=(zcy b hb).1
     refine ⟨⟨b,Utf8.encode b,(itG s p).At⟩,ms.map fun r=>⟨r,Utf8.encode r,(itG s p).At⟩,by unfold apI; rw [hL,hq]; rfl,(fun h=>by rw [show isL (⟨b,Utf8.encode b,(itG s p).At⟩:Itm)=true from hb] at h; cases h),?_,hb,?_,?_⟩
     ·intro m hm
      obtain ⟨r,hr,rfl⟩:=List.mem_map.1 hm
      exact hms r hr
     ·have hM1:isM (itG s p)=false:=by
       cases e:isM (itG s p) with
       | false=>rfl
       | true=>have:=zcR (show mrk (itG s p).Rune=true from e); rw [hL'] at this; cases this
      have hM2:isM (⟨b,Utf8.encode b,(itG s p).At⟩:Itm)=false:=by
       cases e:isM (⟨b,Utf8.encode b,(itG s p).At⟩:Itm) with
       | false=>rfl
       | true=>have:=zcR (show mrk b=true from e); rw [hb] at this; cases this
      rw [hM1,hM2]
     ·rw [hL',hq]
      have:=znB ⟨b,Utf8.encode b,(itG s p).At⟩ hb0 (ms.map fun r=>⟨r,Utf8.encode r,(itG s p).At⟩) []
      have hm:(ms.map fun r=>(⟨r,Utf8.encode r,(itG s p).At⟩:Itm)).map (·.Rune)=ms:=by rw [List.map_map]; simp [Function.comp_def]
      rw [hm] at this
      rw [List.nil_append] at this
      rw [← this]
      have ht:toU (⟨b,Utf8.encode b,(itG s p).At⟩,[])=⟨(itG s p).At,0,b,[],[]⟩:=by
       unfold toU; rw [if_neg (show ¬ b<0 by omega)]; rfl
      rw [ht]; rfl
   obtain ⟨x,ms,ha,hm1,hm2,hm3,hm4,hnew⟩:=hnew
   cases cur with
   | none =>
    have hL:=hcur rfl
    subst hL
    refine new x ms hm1 hm2 (fun c h=>by cases h) ?_ ha
    unfold zn7
    rw [show (pcG p).Broken=false from hB]
    simp only [Bool.false_eq_true,if_false,Option.toList_none,List.map_nil,List.append_nil,List.getLast?_nil]
    rw [hnew]
   | some c =>
    have hlast:(L++[toU c]).getLast?=some (toU c):=by simp
    cases hk:(isL c.1&&isM x) with
    | false =>
     refine new x ms hm1 hm2 (fun c' h=>by cases h; exact hk) ?_ ha
     show zn7 s (L++[toU c]) (pcG p)=(L++[toU c])++[toU (x,ms)]
     unfold zn7
     rw [show (pcG p).Broken=false from hB,hlast]
     simp only [Bool.false_eq_true,if_false]
     rw [zlV,show mrk (pcG p).Rune=isM x by rw [hm4,hpr]; rfl,hk,hnew]
     simp
    | true =>
     have hk':=hk
     rw [Bool.and_eq_true] at hk'
     have hMx:isM (itG s p)=true:=by rw [← hm4]; exact hk'.2
     have hLx:isL (itG s p)=false:=zcR hMx
     have hax:apI (itG s p)=[itG s p]:=by unfold apI; rw [hLx]; rfl
     rw [hax,List.singleton_append]
     have hadd:zn7 s (L++(some c).toList.map toU) (pcG p)=L++(some (c.1,c.2++[itG s p])).toList.map toU:=by
      show zn7 s (L++[toU c]) (pcG p)=L++[toU (c.1,c.2++[itG s p])]
      unfold zn7
      rw [show (pcG p).Broken=false from hB,hlast]
      simp only [Bool.false_eq_true,if_false]
      rw [zlV,show mrk (pcG p).Rune=isM x by rw [hm4,hpr]; rfl,hk]
      simp only [if_true]
      have h0c:0≤c.1.Rune:=(zcy _ hk'.1).1
      rw [hpr,zpz c.1 h0c c.2 (itG s p)]
      simp
     rw [hadd,tail _ _ (by simp)]
     congr 2
     show _=clF (some c) (itG s p::apL (ps.map (itG s)))
     show _=(if isL c.1&&isM (itG s p) then clF (some (c.1,c.2++[itG s p])) (apL (ps.map (itG s))) else _)
     rw [hk'.1,hMx]; rfl
def zki (s:zBA):List (Itm×List Itm):=cl (apL (zgq s))
theorem zor (s:zBA) (hs:s.size≤65536):zea s=some ((zki s).map toU):=by
 rw [zqc s hs]
 have:=zpk s (pcs s.data.toList) none [] (fun p hp=>hp) (fun _=>rfl)
 simp only [Option.toList_none,List.map_nil,List.append_nil,List.nil_append] at this
 rw [this]; rfl
def zcx (l1:List zah) (j1:zBA→Option zBA) (ag1:zBA→Int→Option zBA) (b4:zBA) (x3:Int):Option zBA := zat (decide ((x3:Int)<(l1.length:Int))) ( zbF (fun (j2:zBA→Option zBA) => zak (zd7 l1 x3) fun (x4:zah) => zat (decide ((x4.base:Int)<0)) ( grd (b4.size+1≤140737488355328) <| grd (∀ x∈([x4.broken]:List Int),U8 x) <| j2 (b4++(zcZ [x4.broken]))
) ( zak (ze9 x4) fun (r1:zBA) => grd (b4.size+r1.size≤140737488355328) <| j2 (b4++r1)
)
) (fun (b5:zBA) => grd (I64 (x3+1)) <| ag1 b5 (x3+1)
)
) ( j1 b4
)
def zdk (l1:List zah):Option zBA := zbF (fun (j1:zBA→Option zBA) => zaU (fun _ _=>none) (zcx l1 j1) zcG ByteArray.empty 0
) (fun (b1:zBA) => some b1
)
theorem zhA {vvl1 vl1:Value} {Zl1:List (zah×Hd×Hd)} {kl1:Nat} {zl1:List (zah×Hd×Hd)} {l1:List zah} (hwl1:Vw vvl1 Zl1 5 kl1 vl1 zl1) (hzl1:zl1.map Prod.fst=l1) {r:zBA} (h:zdk l1=some r):Fn prog 19 [vl1,.func (.func 86) #[] #[]] [zv3 vvl1 Zl1,own zaz Zl1] (fun _b:Unit=>.string r) (fun _b=>[zv3 vvl1 Zl1,own zaz Zl1]):=by
 unfold zdk at h
 refine Fn.intro func19 rfl ntmps19 (by simp) ?_
 intro w0 K
 obtain ⟨j1,hj1,h⟩:=zbT h
 refine za2 (β:=zBA×Value) 2 rfl (fun b=>j1 b.1=some r) (fun b=>[]) (fun b=>[(5,b.2)]) (fun b=>[zv3 vvl1 Zl1,own zaz Zl1,byt 5 b.2 b.1]) (fun cut => ?_) ?_
 ·
  refine zyG (zyR 1 rfl (zyH (zyR 1 rfl (zyN (cut (zyG (zyR 1 rfl ?_)))))))
  refine zlp hzl1 hwl1 rfl dc rfl underlying49 (zyR 1 rfl (zyN (zaA (zjC (e:=5) ?_))))
  refine zbS (β:=Nat×zBA×Int×Value) (fun b=>zaU (fun _ _=>none) (zcx l1 j1) b.1 b.2.1 b.2.2.1=some r) (fun b=>[]) (fun b=>[(1,.func (.func 86) #[] #[]),(5,b.2.2.2),(8,vl1),(9,zI (l1.length:Int)),(10,zI b.2.2.1)]) (fun b=>[zv3 vvl1 Zl1,own zaz Zl1,byt 5 b.2.2.2 b.2.1]) (fun b=>b.1) (zcG,ByteArray.empty,0,(.slice none 0 0)) h rfl (za9 rfl) (zaa [0,1,2] kr rfl) ?_
  rintro ⟨n1,b4,x3,v4⟩ h
  cases n1 with
  | zero=>exact zez h
  | succ n1 =>
   obtain ⟨ag1,hag1⟩:∃ ag,ag=zaU (fun _ _=>none) (zcx l1 j1) n1:=⟨_,rfl⟩
   have h:zcx l1 j1 ag1 b4 x3=some r:=by rw [hag1]; exact h
   unfold zcx at h
   refine zyG (zaW rfl zbE (zyN (zaM ?_)))
   refine zyB rfl h (fun h => ?_) (fun h => ?_)
   ·
    refine zaq (zaG ?_)
    obtain ⟨j2,hj2,h⟩:=zbT h
    refine za2 (β:=zBA×Value) 0 rfl (fun b=>j2 b.1=some r) (fun b=>[]) (fun b=>[(1,.func (.func 86) #[] #[]),(5,b.2),(8,vl1),(9,zI (l1.length:Int)),(10,zI x3)]) (fun b=>[zv3 vvl1 Zl1,own zaz Zl1,byt 5 b.2 b.1]) (fun cut => ?_) ?_
    ·
     refine cut (zaA (zyG ?_))
     obtain ⟨x4,hq1,h⟩:=zbx h
     obtain ⟨⟨eh1,eh2⟩,eq1⟩:=znL hzl1 hq1
     refine zbc hwl1 eq1 underlying49 zmu rfl dc rfl rfl rfl (zgj (i:=kl1+(x3:Int).toNat) (j:=0) (k:=0) (q:=(x4,(eh1,eh2))) (cs:=[zI x4.at_,.int .u8 x4.broken,.int .i32 x4.base,eh1.v,eh2.v]) zkT zbd rfl dc rfl rfl (Vw.get hwl1 eq1) rfl rfl rfl ?_)
     refine za4 ztd rfl dc (fun b6 => ?_)
     refine za6 (k:=3) (vs:=[zI x4.at_,.int .u8 x4.broken,.int .i32 x4.base,eh1.v,eh2.v]) (l':=[zI x4.at_,.int .u8 x4.broken,.int .i32 x4.base,eh1.v,eh2.v]) zmu rfl rfl rfl rfl rfl (show _≤_ by simp) rfl rfl ?_
     refine zyH (zag ze6 rfl dc rfl (show _=2 from rfl) (zan (k:=3) zft rfl dc rfl rfl rfl (zaW rfl zbE (zyN ?_))))
     refine zyB rfl h (fun h => ?_) (fun h => ?_)
     ·
      refine zao (zyR 1 rfl (zag zoZ rfl dc rfl (show _=1 from rfl) (zan (k:=3) zxZ rfl dc rfl rfl rfl ?_)))
      refine zaX (cs:=[.int .u8 x4.broken]) (te:=5) (ps:=[(0,.tmp 19)]) rfl dc rfl (fun _=>by kernel_rfl) (fun b7 => ?_)
      obtain ⟨hg1,h⟩:=zcg h
      obtain ⟨hg2,h⟩:=zcg h
      refine zhM (k:=2) (k2:=4) (ys:=(zcZ [x4.broken])) underlying43 zuD rfl dc rfl rfl rfl rfl (ziu hg2) rfl hg1 (fun v6 => ?_)
      refine zyR 1 rfl (zaE (zae ?_))
      exact zaj (b4++(zcZ [x4.broken]),v6) h rfl (za9 rfl) (zaa [0,1,2] kr rfl)
     refine zao (zyR 2 rfl (zbW (k:=3) (cs:=[zI x4.at_,.int .u8 x4.broken,.int .i32 x4.base,eh1.v,eh2.v]) zkT rfl dc rfl rfl rfl rfl ?_))
     refine zd6 (k:=1) rfl (zrL (Vw.get hwl1 eq1)) (fun _ _ => ?_)
     obtain ⟨r1,hq2,h⟩:=zbx h
     refine zfG (v:=.string r1) (vs:=[.agg #[zI x4.at_,.int .u8 x4.broken,.int .i32 x4.base,eh1.v,eh2.v]]) rfl dc rfl rfl rfl zyr (zmQ (u1:=x4) (u1_h0:=eh1) (u1_h1:=eh2) hq2) [4,5] kr rfl ?_
     obtain ⟨hg3,h⟩:=zcg h
     refine zfM (k:=2) underlying43 underlying9 zuD rfl dc rfl rfl rfl hg3 (fun v7 => ?_)
     refine zyR 1 rfl (zaE (zae (zgu (k:=1) rfl (zaa [4,5] kr rfl) rfl (zoB (nest:=zaz) (Vw.get hwl1 eq1) rfl) ?_)))
     exact zaj (b4++r1,v7) h rfl (za9 rfl) (zaa [0,1,2] kr rfl)
    rintro ⟨b5,v5⟩ h
    rw [hj2] at h
    refine zao ?_
    obtain ⟨hg4,h⟩:=zcg h
    refine zaW rfl (zbi (r:=x3+1) (IntWalk.i64_in _ hg4)) (zyR 1 rfl (zaE ?_))
    subst hag1
    exact zbv (n1,b5,x3+1,v5) h (Nat.lt_succ_self _) rfl (za9 rfl) (zaa [0,1,2] kr rfl)
   refine zbG (zap (zap (zaI ?_)))
   exact zaj (b4,v4) h rfl (za9 rfl) (zaa [0,1,2] kr rfl)
 rintro ⟨b1,v1⟩ h
 rw [hj1] at h
 refine zyG (zyR 1 rfl (zfL (k:=2) rfl dc rfl rfl underlying43 underlying5 underlying9 (zyR 1 rfl (zyN (zaD ?_)))))
 cases h
 exact zcu (rs:=[.tmp 4]) () (.inl rfl) results19 (.cons (.tmp rfl) .nil) rfl (zaa [0,1] kr rfl)
def zcN (s1:zBA):Option zBA := zak (zea s1) fun (r1:(List zah)) => zak (zdk r1) fun (r2:zBA) => some r2
theorem zdt {s1:zBA} {r:zBA} (h:zcN s1=some r):FnP prog 65 [.string s1] (.string r):=by
 unfold zcN at h
 refine FnP.intro func65 rfl ntmps65 (by simp) ?_
 intro w0 K
 refine zyG (zyR 1 rfl (zyH (zyR 1 rfl ?_)))
 obtain ⟨r1,hq1,h⟩:=zbx h
 refine zb3 (vs:=[.string s1]) rfl dc rfl rfl rfl zvG (zg2 hq1) Splits.nil ?_
 rintro v1
 refine zj4 (k:=0) rfl (fun hd1 he1 => ?_)
 subst he1
 refine zd6 (k:=0) rfl zqx (fun zs1 hz1 => ?_)
 refine zes (k:=0) rfl (fun hw1 => ?_)
 obtain ⟨r2,hq2,h⟩:=zbx h
 refine zfG (v:=.string r2) (vs:=[hd1.v,.func (.func 86) #[] #[]]) rfl dc rfl rfl rfl zvH (zhA hw1 hz1 hq2) [0,1] kr rfl (zyR 1 rfl (zyN (zaD ?_)))
 cases h
 exact zba 2 results65
def zeB (r1:Int):Option zBA := zak (zeV r1) fun (r2:zBA) => zak (zcN r2) fun (r3:zBA) => some r3
theorem zhf {r1:Int} {r:zBA} (h:zeB r1=some r):FnP prog 60 [.int .i32 r1] (.string r):=by
 unfold zeB at h
 refine FnP.intro func60 rfl ntmps60 (by simp) ?_
 intro w0 K
 refine zyG (zyR 1 rfl (zyH (zyR 1 rfl ?_)))
 obtain ⟨r2,hq1,h⟩:=zbx h
 refine zaQ (v:=.string r2) (vs:=[.int .i32 r1]) rfl dc rfl rfl rfl zyw (zkU hq1) ?_
 obtain ⟨r3,hq2,h⟩:=zbx h
 refine zaQ (v:=.string r3) (vs:=[.string r2]) rfl dc rfl rfl rfl zlK (zdt hq2) (zyR 1 rfl (zyN (zaD ?_)))
 cases h
 exact zba 2 results60
section
variable {α β:Type}
def J (f:α→zBA) (l:List α):zBA:=l.foldl (fun s x=>s++f x) ByteArray.empty
theorem zwj (f:α→zBA):∀ (l:List α) (b:zBA),l.foldl (fun s x=>s++f x) b=b++J f l
 | [],b=>by simp [J]
 | x::l,b=>by
  unfold J
  rw [List.foldl_cons,zwj f l,List.foldl_cons,zwj f l (ByteArray.empty++f x),ByteArray.empty_append,ByteArray.append_assoc]
theorem zlu (f:α→zBA):J f []=ByteArray.empty:=rfl
theorem zdo (f:α→zBA) (x:α) (l:List α):J f (x::l)=f x++J f l:=by
 show (l.foldl _ (ByteArray.empty++f x))=_
 rw [zwj,ByteArray.empty_append]
theorem zni (f:α→zBA):∀ (a b:List α),J f (a++b)=J f a++J f b
 | [],b=>by rw [List.nil_append,zlu,ByteArray.empty_append]
 | x::a,b=>by rw [List.cons_append,zdo,zdo,zni f a,ByteArray.append_assoc]
theorem zuM (f:β→zBA) (g:α→List β):∀ l:List α,J f (l.flatMap g)=J (fun x=>J f (g x)) l
 | []=>rfl
 | x::l=>by rw [List.flatMap_cons,zni,zdo,zuM f g l]
theorem znh (f:β→zBA) (g:α→β):∀ l:List α,J f (l.map g)=J (fun x=>f (g x)) l
 | []=>rfl
 | x::l=>by rw [List.map_cons,zdo,zdo,znh f g l]
theorem zhd {f g:α→zBA}:∀ {l:List α},(∀ x∈l,f x=g x)→J f l=J g l
 | [],_=>rfl
 | x::l,h=>by rw [zdo,zdo,h x (List.mem_cons_self ..),zhd (fun y hy=>h y (List.mem_cons_of_mem _ hy))]
theorem zs0 (f:α→zBA) (m:Nat):∀ {l:List α},(∀ x∈l,(f x).size≤m)→(J f l).size≤l.length*m
 | [],_=>by simp [J]
 | x::l,h=>by
  rw [zdo,ByteArray.size_append,List.length_cons,Nat.add_mul,Nat.one_mul]
  have:=zs0 f m (fun y hy=>h y (List.mem_cons_of_mem _ hy))
  have:=h x (List.mem_cons_self ..)
  omega
end
theorem zgX (l:List Int):zeT l=J Utf8.encode l:=rfl
theorem zdl (r:Int):(Utf8.encode r).size≤4:=by
 rw [zge]; exact (zfD r).2
def wr (of:zah→zBA) (u:zah):zBA:=if u.base<0 then zcZ [u.broken] else of u
theorem zte (of:zah→zBA) (l:List zah) (hl:l.length≤1048576) (h:∀ u∈l,u.base<0∧U8 u.broken∨0≤u.base∧ze9 u=some (of u)∧(of u).size≤1048576):zdk l=some (J (wr of) l):=by
 unfold zdk
 refine zb8 ((zrZ (xs:=l) (f:=fun b u=>b++wr of u) (J:=some) (fun k b=>b.size≤k*1048576) ?_ ?_ ?_ (zfs (by omega)) (by decide)).trans rfl)
 ·intro ag k u b hu hb
  have hk:=zkb hu
  unfold zcx
  refine zaL (zlD hu) (zb8 (zaR (zht hu) ?_))
  rcases h u (List.mem_of_getElem? hu) with ⟨h1,h2⟩ | ⟨h1,h2,h3⟩
  ·exact zaL (decide_eq_true h1) (zct (by omega) (zct (by simpa using h2) (zct (zf8 (by omega)) (by simp only [wr,if_pos h1]))))
  ·exact zaF (decide_eq_false (by omega)) (zaR h2 (zct (by omega) (zct (zf8 (by omega)) (by simp only [wr,if_neg (show ¬ u.base<0 by omega)]))))
 ·intro k u b hu hb
  have hw:(wr of u).size≤1048576:=by
   rcases h u (List.mem_of_getElem? hu) with ⟨h1,h2⟩ | ⟨h1,h2,h3⟩
   ·unfold wr; rw [if_pos h1,zhK]; simp
   ·unfold wr; rw [if_neg (by omega)]; exact h3
  rw [ByteArray.size_append]; omega
 ·intro ag b _; unfold zcx; exact zaF zlE rfl
def okT (x:Itm):Prop:=I32 x.Rune∧((x.Rune<0∧x.Text.size=1)∨(0≤x.Rune∧x.Text=Utf8.encode x.Rune))
theorem ztB {s:zBA}:∀ x∈zgq s,okT x:=by
 intro x hx
 unfold zgq at hx
 obtain ⟨p,hp,rfl⟩:=List.mem_map.1 hx
 obtain ⟨h1,h2⟩:=zr5 hp
 obtain ⟨g1,g2,hok⟩:=ziB s.data.toList p hp
 have hv:=hok.valid
 cases hb:p.broken with
 | true=>obtain ⟨e1,e2,_⟩:=h1 hb; exact ⟨by rw [e1]; exact ⟨by omega,by omega⟩,.inl ⟨by omega,e2⟩⟩
 | false =>
  obtain ⟨e1,e2⟩:=h2 hb
  refine ⟨by rw [e1]; exact ⟨by omega,by omega⟩,.inr ⟨by omega,by rw [e2,e1]⟩⟩
theorem zw0 {l:List Itm} (h:∀ x∈l,okT x):∀ x∈apL l,okT x:=by
 intro y hy
 unfold apL at hy
 obtain ⟨x,hx,hy⟩:=List.mem_flatMap.1 hy
 unfold apI at hy
 split at hy
 ·rename_i hL
  obtain ⟨r,hr,rfl⟩:=List.mem_map.1 hy
  obtain ⟨b,ms,hq,hb,_,hms,_⟩:=zey (show zaS x.Rune=true from hL)
  have h0:0≤r:=by
   rw [hq] at hr
   rcases List.mem_cons.1 hr with rfl | hr
   ·exact (zcy _ hb).1
   ·have:=hms r hr; unfold mrk at this; simp at this; omega
  exact ⟨znz (h x hx).1 r hr,.inr ⟨h0,rfl⟩⟩
 ·simp at hy; subst hy; exact h _ hx
theorem zm5:∀ (xs:List Itm) (cur:Option (Itm×List Itm)) (c:Itm×List Itm),c∈clF cur xs→(∀ d,cur=some d→isL d.1=false→d.2=[])→((c.1∈xs∨∃ d,cur=some d∧c.1=d.1)∧(∀ m∈c.2,(isM m=true∧m∈xs)∨∃ d,cur=some d∧m∈d.2)∧(isL c.1=false→c.2=[]))
 | [],none,c,h,_=>by cases h
 | [],some d,c,h,hd=>by
  simp [clF] at h; subst h
  exact ⟨.inr ⟨c,rfl,rfl⟩,fun m hm=>.inr ⟨c,rfl,hm⟩,hd c rfl⟩
 | x::xs,none,c,h,_=>by
  obtain ⟨h1,h2,h3⟩:=zm5 xs (some (x,[])) c h (fun d hd _=>by cases hd; rfl)
  refine ⟨.inl ?_,fun m hm=>.inl ?_,h3⟩
  ·rcases h1 with h1 | ⟨d,hd,h1⟩
   ·exact List.mem_cons_of_mem _ h1
   ·cases hd; rw [h1]; exact List.mem_cons_self ..
  ·rcases h2 m hm with ⟨a,b⟩ | ⟨d,hd,h2⟩
   ·exact ⟨a,List.mem_cons_of_mem _ b⟩
   ·cases hd; cases h2
 | x::xs,some d,c,h,hd=>by
  have h':c∈(if isL d.1&&isM x then clF (some (d.1,d.2++[x])) xs else d::clF (some (x,[])) xs):=h
  cases hk:(isL d.1&&isM x) with
  | true =>
   rw [hk] at h'
   rw [Bool.and_eq_true] at hk
   obtain ⟨h1,h2,h3⟩:=zm5 xs (some (d.1,d.2++[x])) c h' (fun e he hl=>by cases he; rw [hk.1] at hl; cases hl)
   refine ⟨?_,fun m hm => ?_,h3⟩
   ·rcases h1 with h1 | ⟨e,he,h1⟩
    ·exact .inl (List.mem_cons_of_mem _ h1)
    ·cases he; exact .inr ⟨d,rfl,h1⟩
   ·rcases h2 m hm with ⟨a,b⟩ | ⟨e,he,h2⟩
    ·exact .inl ⟨a,List.mem_cons_of_mem _ b⟩
    ·cases he
     rcases List.mem_append.1 h2 with h2 | h2
     ·exact .inr ⟨d,rfl,h2⟩
     ·simp at h2; subst h2; exact .inl ⟨hk.2,List.mem_cons_self ..⟩
  | false =>
   rw [hk] at h'
   rcases List.mem_cons.1 h' with rfl | h'
   ·exact ⟨.inr ⟨c,rfl,rfl⟩,fun m hm=>.inr ⟨c,rfl,hm⟩,hd c rfl⟩
   ·obtain ⟨h1,h2,h3⟩:=zm5 xs (some (x,[])) c h' (fun e he _=>by cases he; rfl)
    refine ⟨.inl ?_,fun m hm=>.inl ?_,h3⟩
    ·rcases h1 with h1 | ⟨e,he,h1⟩
     ·exact List.mem_cons_of_mem _ h1
     ·cases he; rw [h1]; exact List.mem_cons_self ..
    ·rcases h2 m hm with ⟨a,b⟩ | ⟨e,he,h2⟩
     ·exact ⟨a,List.mem_cons_of_mem _ b⟩
     ·cases he; cases h2
theorem zxv {xs:List Itm} {c:Itm×List Itm} (h:c∈cl xs):c.1∈xs∧(∀ m∈c.2,isM m=true∧m∈xs)∧(isL c.1=false→c.2=[]):=by
 obtain ⟨h1,h2,h3⟩:=zm5 xs none c h (fun d hd=>by cases hd)
 refine ⟨?_,fun m hm => ?_,h3⟩
 ·rcases h1 with h1 | ⟨d,hd,_⟩
  ·exact h1
  ·cases hd
 ·rcases h2 m hm with h2 | ⟨d,hd,_⟩
  ·exact h2
  ·cases hd
theorem zm6:∀ (xs:List Itm) (cur:Option (Itm×List Itm)),(clF cur xs).length≤xs.length+cur.toList.length∧∀ c∈clF cur xs,c.2.length≤xs.length+(cur.toList.map (·.2.length)).sum
 | [],none=>by simp [clF]
 | [],some d=>by simp [clF]
 | x::xs,none=>by
  have:=zm6 xs (some (x,[]))
  refine ⟨?_,fun c hc => ?_⟩
  ·have h1:=this.1; show (clF (some (x,[])) xs).length≤_; simp at h1 ⊢; omega
  ·have h1:=this.2 c hc; simp at h1 ⊢; omega
 | x::xs,some d=>by
  have a:=zm6 xs (some (d.1,d.2++[x]))
  have b:=zm6 xs (some (x,[]))
  show (if isL d.1&&isM x then clF (some (d.1,d.2++[x])) xs else d::clF (some (x,[])) xs).length≤_∧_
  show _∧∀ c∈(if isL d.1&&isM x then clF (some (d.1,d.2++[x])) xs else d::clF (some (x,[])) xs),_
  split
  ·refine ⟨by have:=a.1; simp at this ⊢; omega,fun c hc=>by have:=a.2 c hc; simp at this ⊢; omega⟩
  ·refine ⟨by have:=b.1; simp at this ⊢; omega,fun c hc => ?_⟩
   rcases List.mem_cons.1 hc with rfl | hc
   ·simp
   ·have:=b.2 c hc; simp at this ⊢; omega
theorem zxw (xs:List Itm):(cl xs).length≤xs.length∧∀ c∈cl xs,c.2.length≤xs.length:=by
 have:=zm6 xs none
 simpa [cl] using this
theorem ziI {s:zBA} (hs:s.size≤65536):(zki s).length≤196608∧∀ c∈zki s,okT c.1∧(∀ m∈c.2,isM m=true∧okT m)∧(isL c.1=false→c.2=[])∧c.2.length≤196608:=by
 have h1:=zxw (apL (zgq s))
 have h2:=zsN (zgq s)
 have h3:(zgq s).length≤s.size:=by unfold zgq; simpa using zew s
 have hok:=zw0 (ztB (s:=s))
 refine ⟨by unfold zki; omega,fun c hc => ?_⟩
 obtain ⟨g1,g2,g3⟩:=zxv hc
 exact ⟨hok _ g1,fun m hm=>⟨(g2 m hm).1,hok _ (g2 m hm).2⟩,g3,by have:=h1.2 c hc; omega⟩
theorem zgH (c:Itm×List Itm) (h:okT c.1):(toU c).base<0∧U8 (toU c).broken∧c.1.Rune<0∧zcZ [(toU c).broken]=c.1.Text∨0≤(toU c).base∧0≤c.1.Rune∧c.1.Text=Utf8.encode c.1.Rune∧toU c=⟨c.1.At,0,c.1.Rune,(loI c.2).map (·.Rune),(hiI c.2).map (·.Rune)⟩:=by
 rcases h.2 with ⟨h1,h2⟩ | ⟨h1,h2⟩
 ·left
  have e:toU c=⟨c.1.At,zgn c.1.Text,-1,[],[]⟩:=by unfold toU; rw [if_pos h1]
  rw [e]
  refine ⟨by show (-1:Int)<0; omega,?_,h1,?_⟩
  ·show U8 (zgn c.1.Text); unfold zgn; constructor
   ·omega
   ·have:=(c.1.Text.data.toList.headD 0).toNat_lt; omega
  ·show zcZ [zgn c.1.Text]=_
   apply ByteArray.ext; apply Array.toList_inj.1
   have hl:c.1.Text.data.toList.length=1:=by rw [Array.length_toList]; exact h2
   cases hq:c.1.Text.data.toList with
   | nil=>rw [hq] at hl; cases hl
   | cons b l =>
    rw [hq] at hl
    have:l=[]:=List.eq_nil_of_length_eq_zero (by simpa using hl)
    subst this
    unfold zcZ zgn
    rw [hq]; simp
 ·right
  have e:toU c=⟨c.1.At,0,c.1.Rune,(loI c.2).map (·.Rune),(hiI c.2).map (·.Rune)⟩:=by unfold toU; rw [if_neg (by omega)]
  rw [e]
  exact ⟨h1,h1,h2,rfl⟩
theorem ztz (xs:List Itm):(zuo xs).length=xs.length:=by
 obtain ⟨n,hn⟩:∃ n,xs.length≤n:=⟨_,Nat.le_refl _⟩
 induction n generalizing xs with
 | zero=>have:xs=[]:=List.eq_nil_of_length_eq_zero (by omega); subst this; rfl
 | succ n ih =>
  cases xs with
  | nil=>rfl
  | cons x xs =>
   simp only [List.length_cons] at hn
   cases hL:isL x with
   | false=>rw [zqw hL,List.length_cons,List.length_cons,ih xs (by omega)]
   | true =>
    have h1:=zhU (xs.takeWhile isM)
    have h2:xs.length=(xs.takeWhile isM).length+(xs.dropWhile isM).length:=by
     have:=congrArg List.length (List.takeWhile_append_dropWhile (p:=isM) (l:=xs))
     rw [List.length_append] at this; exact this.symm
    rw [zoG hL,List.length_cons,List.length_append,h1,ih _ (by omega),List.length_cons]; omega
def plT:List (Int×List UInt8):=[(223,[115,115]),(230,[97,101]),(248,[111]),(240,[100]),(254,[116,104]),(273,[100]),(295,[104]),(305,[105]),(307,[105,106]),(312,[113]),(320,[108]),(322,[108]),(329,[110]),(331,[110,103]),(339,[111,101]),(359,[116]),(383,[115]),(962,[207,131])]
def zeO (r:Int):zBA:=match zbK r plT with | some b=>⟨b.toArray⟩ | none=>Utf8.encode r
theorem ziy (r:Int):(zeO r).size≤4:=by
 unfold zeO
 split
 ·rename_i b hb
  have h:∀ p∈plT,p.2.length≤4:=by decide
  have:=h _ (zhy hb)
  show (b.toArray).size≤4; simpa using this
 ·exact zdl r
def znP (x:Itm):Itm:=if isL x then ⟨x.Rune,zeO (zbb x.Rune),x.At⟩ else x
def plS (sm:Int) (j1:Option zBA) (ag1:Int→Bool→Nat→Option zBA) (from3:Int) (head3:Bool) (m3:Nat):Option zBA := zat (decide (m3<(pcs zLit0.data.toList).length)) ( zak ((pcs zLit0.data.toList)[m3]?) fun (p1:Pc) => zbF (fun (j2:Int→Option zBA) => zat (((p1.r:Int):Int)==32) ( zat (decide ((0:Int)≤from3)) ( grd (0≤(from3:Int)∧(from3:Int)≤(p1.i:Int)∧((p1.i:Int):Int)≤(zLit0.size:Int)) <| some (zcz zLit0 from3 (p1.i:Int))
) ( zat (((p1.r:Int):Int)==32) ( j2 from3
) ( zat (head3) ( zat (((p1.r:Int):Int)==sm) ( grd (I64 ((p1.i:Int)+((Utf8.encode (p1.r:Int)).size:Int))) <| j2 ((p1.i:Int)+((Utf8.encode (p1.r:Int)).size:Int))
) ( j2 from3
)
) ( j2 from3
)
)
)
) ( zat (((p1.r:Int):Int)==32) ( j2 from3
) ( zat (head3) ( zat (((p1.r:Int):Int)==sm) ( grd (I64 ((p1.i:Int)+((Utf8.encode (p1.r:Int)).size:Int))) <| j2 ((p1.i:Int)+((Utf8.encode (p1.r:Int)).size:Int))
) ( j2 from3
)
) ( j2 from3
)
)
)
) (fun (from4:Int) => ag1 from4 (((p1.r:Int):Int)==32) (m3+1)
)
) ( j1
)
def othP:List Pc:=pcs zLit0.data.toList
def plL (sm:Int):Option zBA:=zaU (fun _ _ _=>none) (plS sm (some (Utf8.encode sm))) zcG (-1) true 0
def hds:List Pc→Bool→List Int
 | [],_=>[]
 | p::ps,h=>(if (p.r==32) then [] else if h then [(p.r:Int)] else [])++hds ps (p.r==32)
theorem zxa:hds othP true=plT.map Prod.fst:=by decide +kernel
theorem ztu:(plT.all fun p=>decide (plL p.1=some (zeO p.1)))=true:=by decide +kernel
theorem ztt (sm:Int) (J:Option zBA):∀ (n m:Nat) (h:Bool),m≤othP.length→othP.length - m<n→sm ∉ hds (othP.drop m) h→zaU (fun _ _ _=>none) (plS sm J) n (-1) h m=J:=by
 intro n
 induction n with
 | zero=>intro m h _ hn; omega
 | succ n ih =>
  intro m h hm hn hs
  rw [zfO]
  generalize zaU (fun _ _ _=>none) (plS sm J) n=ag at ih ⊢
  unfold plS
  by_cases hlt:m<othP.length
  ·have hx:othP[m]?=some othP[m]:=List.getElem?_eq_getElem hlt
   rw [List.drop_eq_getElem_cons hlt] at hs
   generalize othP[m]=p at hx hs
   unfold hds at hs
   rw [List.mem_append,not_or] at hs
   have e:((p.r:Int)==32)=(p.r==32):=by rw [Bool.eq_iff_iff]; simp; omega
   refine zaL (decide_eq_true hlt) (zaR hx (zb8 ?_))
   have nx:ag (-1) ((p.r:Int)==32) (m+1)=J:=ih (m+1) _ (by omega) (by omega) (by rw [e]; exact hs.2)
   cases h32:((p.r:Int)==32) with
   | true =>
    rw [h32] at nx
    exact zaL rfl (zaF (by decide) (zaL rfl nx))
   | false =>
    rw [h32] at nx
    refine zaF rfl (zaF rfl ?_)
    cases h with
    | false=>exact zaF rfl nx
    | true =>
     have h1:=hs.1
     rw [← e,h32] at h1
     refine zaL rfl (zaF ?_ nx)
     rw [beq_eq_false_iff_ne]
     intro e2
     exact h1 (by simp [e2])
  ·exact zaF (decide_eq_false hlt) rfl
theorem zx3 (sm:Int):plL sm=some (zeO sm):=by
 by_cases h:sm∈plT.map Prod.fst
 ·obtain ⟨p,hp,rfl⟩:=List.mem_map.1 h
  exact of_decide_eq_true (List.all_eq_true.1 ztu p hp)
 ·have:plL sm=some (Utf8.encode sm):=ztt sm _ zcG 0 true (Nat.zero_le _) (by
   have:othP.length≤100000:=by decide +kernel
   unfold zcG; omega) (by rw [List.drop_zero,zxa]; exact h)
  rw [this]
  unfold zeO
  cases hg:zbK sm plT with
  | none=>rfl
  | some b=>exact absurd (List.mem_map.2 ⟨_,zhy hg,rfl⟩) h
theorem zvd (u:zah) (hu:I32 u.base):ze9 u=some (if zaS u.base then zeO (zbb u.base) else Utf8.encode u.base):=by
 unfold ze9
 refine zaR (zkA u hu) ?_
 cases hL:zaS u.base with
 | false=>exact zaL rfl rfl
 | true=>exact zaF rfl (zb8 (zct hu (zx3 (zbb u.base))))
def zjn (c:Itm×List Itm):zBA:=(znP c.1).Text
def zfQ (s:zBA):zBA:=J zjn (zki s)
theorem zuR (of:zah→zBA) (g:Itm×List Itm→zBA) (s:zBA) (hs:s.size≤65536) (h:∀ c∈zki s,0≤c.1.Rune→of (toU c)=g c) (hneg:∀ c∈zki s,c.1.Rune<0→g c=c.1.Text):J (wr of) ((zki s).map toU)=J g (zki s):=by
 rw [znh]
 refine zhd fun c hc => ?_
 obtain ⟨h1,h2,h3,_⟩:=(ziI hs).2 c hc
 unfold wr
 rcases zgH c h1 with ⟨g1,_,g3,g4⟩ | ⟨g1,g2,g3,g4⟩
 ·rw [if_pos g1,g4,hneg c hc g3]
 ·rw [if_neg (by omega),h c hc g2]
theorem zgy {x:Itm} (h:x.Rune<0):isL x=false:=by
 cases e:isL x with
 | false=>rfl
 | true=>have:=(zcy x.Rune e).1; omega
theorem zpL (c:Itm×List Itm) (h:okT c.1):(0≤c.1.Rune→(if zaS (toU c).base then zeO (zbb (toU c).base) else Utf8.encode (toU c).base)=zjn c)∧(c.1.Rune<0→zjn c=c.1.Text):=by
 constructor
 ·intro h0
  have hb:=zmr c h0
  rw [hb]
  unfold zjn znP isL
  rcases h.2 with ⟨h1,_⟩ | ⟨_,h2⟩
  ·omega
  ·cases zaS c.1.Rune with
   | true=>rfl
   | false=>simp [h2]
 ·intro h0
  unfold zjn znP; rw [zgy h0]; rfl
theorem zpK (s:zBA) (hs:s.size≤65536):zcN s=some (zfQ s):=by
 unfold zcN
 obtain ⟨hl,hc⟩:=ziI hs
 refine zaR (zor s hs) (zaR (zte (fun u=>if zaS u.base then zeO (zbb u.base) else Utf8.encode u.base) _ (by rw [List.length_map]; omega) ?_) ?_)
 ·intro u hu
  obtain ⟨c,hcm,rfl⟩:=List.mem_map.1 hu
  obtain ⟨h1,_⟩:=hc c hcm
  rcases zgH c h1 with ⟨g1,g2,_⟩ | ⟨g1,g2,g3,g4⟩
  ·exact .inl ⟨g1,g2⟩
  ·refine .inr ⟨g1,zvd _ (by rw [zmr c g2]; exact h1.1),?_⟩
   split
   ·have:=ziy (zbb (toU c).base); omega
   ·have:=zdl (toU c).base; omega
 ·rw [zuR _ zjn s hs (fun c hcm h0=>(zpL c (hc c hcm).1).1 h0) (fun c hcm h0=>(zpL c (hc c hcm).1).2 h0)]; rfl
theorem zi7 {x:Itm} (h:okT x):x.Text.size≤4:=by
 rcases h.2 with ⟨_,h⟩ | ⟨_,h⟩
 ·omega
 ·rw [h]; exact zdl _
theorem zqT {x:Itm} (h:okT x):(znP x).Text.size≤4:=by
 unfold znP
 split
 ·exact ziy _
 ·exact zi7 h
theorem zhS (l:List Int):(zeT l).size≤l.length*4:=by rw [zgX]; exact zs0 _ 4 fun x _=>zdl x
def zeQ (x:Itm):Itm:=⟨x.Rune,x.Text,0⟩
def zeN (c:Itm×List Itm):Itm×List Itm:=(zeQ c.1,c.2.map zeQ)
theorem zjc (x:Itm):isL (zeQ x)=isL x:=rfl
theorem zr6 (x:Itm):isM (zeQ x)=isM x:=rfl
theorem zju:∀ (xs:List Itm) (cur:Option (Itm×List Itm)),clF (cur.map zeN) (xs.map zeQ)=(clF cur xs).map zeN
 | [],none=>rfl
 | [],some c=>rfl
 | x::xs,none=>zju xs (some (x,[]))
 | x::xs,some c=>by
  show (if isL (zeQ c.1)&&isM (zeQ x) then clF (some (zeQ c.1,c.2.map zeQ++[zeQ x])) (xs.map zeQ) else zeN c::clF (some (zeQ x,[])) (xs.map zeQ))=(if isL c.1&&isM x then clF (some (c.1,c.2++[x])) xs else c::clF (some (x,[])) xs).map zeN
  rw [zjc,zr6]
  have h1:=zju xs (some (c.1,c.2++[x]))
  have h2:=zju xs (some (x,[]))
  simp only [Option.map_some,zeN,List.map_append,List.map_cons,List.map_nil] at h1 h2
  split
  ·exact h1
  ·rw [List.map_cons,← h2]
theorem ztX (xs:List Itm):cl (xs.map zeQ)=(cl xs).map zeN:=zju xs none
theorem zsP (x:Itm):apI (zeQ x)=(apI x).map zeQ:=by
 unfold apI
 rw [zjc]
 split
 ·rw [List.map_map]; rfl
 ·rfl
theorem zsM (xs:List Itm):apL (xs.map zeQ)=(apL xs).map zeQ:=by
 unfold apL
 induction xs with
 | nil=>rfl
 | cons x xs ih=>rw [List.map_cons,List.flatMap_cons,List.flatMap_cons,List.map_append,ih,zsP]
theorem zoT (c:Itm×List Itm):zjn (zeN c)=zjn c:=by
 unfold zjn znP zeN
 rw [zjc]
 split <;> rfl
def zet (t:Tok):Itm:=⟨if t.broken then -1 else (t.r:Int),⟨t.bs.toArray⟩,0⟩
def clT (ts:List Tok):List (Itm×List Itm):=cl (apL (ts.map zet))
def FT (ts:List Tok):zBA:=J zjn (clT ts)
theorem zk7 (s:zBA):∀ (ts pre:List Tok),s.data.toList=zbp (pre++ts)→((place (zbp pre).length ts).map (itG s)).map zeQ=ts.map zet
 | [],pre,_=>rfl
 | t::ts,pre,h=>by
  have e:(zbp pre).length+t.bs.length=(zbp (pre++[t])).length:=by rw [zbh,List.length_append]; simp [zbp]
  show zeQ (itG s ⟨(zbp pre).length,t.bs.length,t.r⟩)::((place ((zbp pre).length+t.bs.length) ts).map (itG s)).map zeQ=_
  rw [e,zk7 s ts (pre++[t]) (by rw [h]; simp),List.map_cons]
  congr 1
  unfold zeQ itG zet
  have hb:(⟨(zbp pre).length,t.bs.length,t.r⟩:Pc).broken=t.broken:=rfl
  rw [hb]
  have ht:s.extract (zbp pre).length ((zbp pre).length+t.bs.length)=⟨t.bs.toArray⟩:=by
   apply ByteArray.ext; apply Array.toList_inj.1
   rw [Lib.extract_data,h,zbh,zch]
   simp
  simp only [ht]
theorem zqI (s:zBA):(zgq s).map zeQ=(zdP s.data.toList).map zet:=by
 unfold zgq pcs
 rw [znx]
 have:=zk7 s (zdP s.data.toList) [] (by rw [List.nil_append,zfI])
 exact this
theorem zgO (s:zBA):(zki s).map zeN=clT (zdP s.data.toList):=by
 unfold clT zki
 rw [← zqI,zsM,ztX]
theorem zqQ (s:zBA):zfQ s=FT (zdP s.data.toList):=by
 unfold zfQ FT
 rw [← zgO,znh]
 exact zhd fun c _=>(zoT c).symm
def mkI (r:Int):Itm:=⟨r,Utf8.encode r,0⟩
theorem zjF {t:Tok} (h:t.valid):zet t=mkI (t.r:Int):=by
 unfold zet mkI
 rw [zdi h]
 have:(⟨t.bs.toArray⟩:zBA)=Utf8.encode (t.r:Int):=by
  apply ByteArray.ext; apply Array.toList_inj.1
  rw [zcT,← h.2]
 rw [this]; rfl
theorem zk1 {r:Int} (h:zaS r=false):zcW r=[r]:=by
 unfold zcW
 cases e:zbK r tabS with
 | none=>rfl
 | some p=>have:=(zmt e).2.2; rw [h] at this; cases this
theorem zxC (r:Int):apI (mkI r)=(zcW r).map mkI:=by
 unfold apI
 cases h:isL (mkI r) with
 | true=>rfl
 | false=>rw [zk1 (show zaS r=false from h)]; rfl
theorem zuH (rs:List Int):apL (rs.map mkI)=(rs.flatMap zcW).map mkI:=by
 unfold apL
 induction rs with
 | nil=>rfl
 | cons r rs ih=>rw [List.map_cons,List.flatMap_cons,List.flatMap_cons,List.map_append,ih,zxC]
def zhQ (r:Int):Tok:=⟨r.toNat,encodeRune r⟩
theorem zfW {r:Int} (h:vr r):(zhQ r).valid:=by
 unfold vr at h
 refine ⟨?_,?_⟩
 ·show r.toNat<55296∨_; simp only [zhQ]; omega
 ·show encodeRune r=encodeRune ((r.toNat:Nat):Int)
  rw [show ((r.toNat:Nat):Int)=r by omega]
theorem zqh {rs:List Int} (h:∀ r∈rs,vr r):zdP (zeT rs).data.toList=rs.map zhQ:=by
 have e:(zeT rs).data.toList=zbp (rs.map zhQ):=by
  rw [zgX]
  clear h
  induction rs with
  | nil=>rfl
  | cons r rs ih =>
   rw [zdo,List.map_cons,zch,← ih]
   have:(Utf8.encode r).data.toList=encodeRune r:=zcT r
   show (Utf8.encode r++J Utf8.encode rs).data.toList=encodeRune r++_
   rw [← this]; simp
 rw [e]
 have:=zkO (vs:=rs.map zhQ) (fun t ht=>by obtain ⟨r,hr,rfl⟩:=List.mem_map.1 ht; exact zfW (h r hr)) []
 simpa [zhO] using this
theorem zsg {rs:List Int} (h:∀ r∈rs,vr r):zfQ (zeT rs)=J zjn (cl ((rs.flatMap zcW).map mkI)):=by
 rw [zqQ,zqh h]
 unfold FT clT
 have:(rs.map zhQ).map zet=rs.map mkI:=by
  rw [List.map_map]
  refine List.map_congr_left fun r hr => ?_
  have hv:=h r hr
  show zet (zhQ r)=mkI r
  rw [zjF (zfW hv)]
  show mkI ((r.toNat:Nat):Int)=mkI r
  rw [show ((r.toNat:Nat):Int)=r by unfold vr at hv; omega]
 rw [this,zuH]
end Go.Proofs.YtifpjbgnikjglaaDoor


namespace Go.Proofs.YtifpjbgnikjglaaDoor
open Go.RowKit Go.Lib
open Tryd
set_option linter.unusedVariables false
set_option linter.unusedSimpArgs false
def zcb (l1:List zah) (j1:zBA→Option zBA) (ag1:zBA→Int→Option zBA) (b4:zBA) (x3:Int):Option zBA := zat (decide ((x3:Int)<(l1.length:Int))) ( zbF (fun (j2:zBA→Option zBA) => zak (zd7 l1 x3) fun (x4:zah) => zat (decide ((x4.base:Int)<0)) ( grd (b4.size+1≤140737488355328) <| grd (∀ x∈([x4.broken]:List Int),U8 x) <| j2 (b4++(zcZ [x4.broken]))
) ( zak (zeZ x4) fun (r1:zBA) => grd (b4.size+r1.size≤140737488355328) <| j2 (b4++r1)
)
) (fun (b5:zBA) => grd (I64 (x3+1)) <| ag1 b5 (x3+1)
)
) ( j1 b4
)
def zc0 (l1:List zah):Option zBA := zbF (fun (j1:zBA→Option zBA) => zaU (fun _ _=>none) (zcb l1 j1) zcG ByteArray.empty 0
) (fun (b1:zBA) => some b1
)
theorem zg1 {vvl1 vl1:Value} {Zl1:List (zah×Hd×Hd)} {kl1:Nat} {zl1:List (zah×Hd×Hd)} {l1:List zah} (hwl1:Vw vvl1 Zl1 5 kl1 vl1 zl1) (hzl1:zl1.map Prod.fst=l1) {r:zBA} (h:zc0 l1=some r):Fn prog 19 [vl1,.func (.func 21) #[] #[]] [zv3 vvl1 Zl1,own zaz Zl1] (fun _b:Unit=>.string r) (fun _b=>[zv3 vvl1 Zl1,own zaz Zl1]):=by
 unfold zc0 at h
 refine Fn.intro func19 rfl ntmps19 (by simp) ?_
 intro w0 K
 obtain ⟨j1,hj1,h⟩:=zbT h
 refine za2 (β:=zBA×Value) 2 rfl (fun b=>j1 b.1=some r) (fun b=>[]) (fun b=>[(5,b.2)]) (fun b=>[zv3 vvl1 Zl1,own zaz Zl1,byt 5 b.2 b.1]) (fun cut => ?_) ?_
 ·
  refine zyG (zyR 1 rfl (zyH (zyR 1 rfl (zyN (cut (zyG (zyR 1 rfl ?_)))))))
  refine zlp hzl1 hwl1 rfl dc rfl underlying49 (zyR 1 rfl (zyN (zaA (zjC (e:=5) ?_))))
  refine zbS (β:=Nat×zBA×Int×Value) (fun b=>zaU (fun _ _=>none) (zcb l1 j1) b.1 b.2.1 b.2.2.1=some r) (fun b=>[]) (fun b=>[(1,.func (.func 21) #[] #[]),(5,b.2.2.2),(8,vl1),(9,zI (l1.length:Int)),(10,zI b.2.2.1)]) (fun b=>[zv3 vvl1 Zl1,own zaz Zl1,byt 5 b.2.2.2 b.2.1]) (fun b=>b.1) (zcG,ByteArray.empty,0,(.slice none 0 0)) h rfl (za9 rfl) (zaa [0,1,2] kr rfl) ?_
  rintro ⟨n1,b4,x3,v4⟩ h
  cases n1 with
  | zero=>exact zez h
  | succ n1 =>
   obtain ⟨ag1,hag1⟩:∃ ag,ag=zaU (fun _ _=>none) (zcb l1 j1) n1:=⟨_,rfl⟩
   have h:zcb l1 j1 ag1 b4 x3=some r:=by rw [hag1]; exact h
   unfold zcb at h
   refine zyG (zaW rfl zbE (zyN (zaM ?_)))
   refine zyB rfl h (fun h => ?_) (fun h => ?_)
   ·
    refine zaq (zaG ?_)
    obtain ⟨j2,hj2,h⟩:=zbT h
    refine za2 (β:=zBA×Value) 0 rfl (fun b=>j2 b.1=some r) (fun b=>[]) (fun b=>[(1,.func (.func 21) #[] #[]),(5,b.2),(8,vl1),(9,zI (l1.length:Int)),(10,zI x3)]) (fun b=>[zv3 vvl1 Zl1,own zaz Zl1,byt 5 b.2 b.1]) (fun cut => ?_) ?_
    ·
     refine cut (zaA (zyG ?_))
     obtain ⟨x4,hq1,h⟩:=zbx h
     obtain ⟨⟨eh1,eh2⟩,eq1⟩:=znL hzl1 hq1
     refine zbc hwl1 eq1 underlying49 zmu rfl dc rfl rfl rfl (zgj (i:=kl1+(x3:Int).toNat) (j:=0) (k:=0) (q:=(x4,(eh1,eh2))) (cs:=[zI x4.at_,.int .u8 x4.broken,.int .i32 x4.base,eh1.v,eh2.v]) zkT zbd rfl dc rfl rfl (Vw.get hwl1 eq1) rfl rfl rfl ?_)
     refine za4 ztd rfl dc (fun b6 => ?_)
     refine za6 (k:=3) (vs:=[zI x4.at_,.int .u8 x4.broken,.int .i32 x4.base,eh1.v,eh2.v]) (l':=[zI x4.at_,.int .u8 x4.broken,.int .i32 x4.base,eh1.v,eh2.v]) zmu rfl rfl rfl rfl rfl (show _≤_ by simp) rfl rfl ?_
     refine zyH (zag ze6 rfl dc rfl (show _=2 from rfl) (zan (k:=3) zft rfl dc rfl rfl rfl (zaW rfl zbE (zyN ?_))))
     refine zyB rfl h (fun h => ?_) (fun h => ?_)
     ·
      refine zao (zyR 1 rfl (zag zoZ rfl dc rfl (show _=1 from rfl) (zan (k:=3) zxZ rfl dc rfl rfl rfl ?_)))
      refine zaX (cs:=[.int .u8 x4.broken]) (te:=5) (ps:=[(0,.tmp 19)]) rfl dc rfl (fun _=>by kernel_rfl) (fun b7 => ?_)
      obtain ⟨hg1,h⟩:=zcg h
      obtain ⟨hg2,h⟩:=zcg h
      refine zhM (k:=2) (k2:=4) (ys:=(zcZ [x4.broken])) underlying43 zuD rfl dc rfl rfl rfl rfl (ziu hg2) rfl hg1 (fun v6 => ?_)
      refine zyR 1 rfl (zaE (zae ?_))
      exact zaj (b4++(zcZ [x4.broken]),v6) h rfl (za9 rfl) (zaa [0,1,2] kr rfl)
     refine zao (zyR 2 rfl (zbW (k:=3) (cs:=[zI x4.at_,.int .u8 x4.broken,.int .i32 x4.base,eh1.v,eh2.v]) zkT rfl dc rfl rfl rfl rfl ?_))
     refine zd6 (k:=1) rfl (zrL (Vw.get hwl1 eq1)) (fun _ _ => ?_)
     obtain ⟨r1,hq2,h⟩:=zbx h
     refine zfG (v:=.string r1) (vs:=[.agg #[zI x4.at_,.int .u8 x4.broken,.int .i32 x4.base,eh1.v,eh2.v]]) rfl dc rfl rfl rfl zzb (zlc (u1:=x4) (u1_h0:=eh1) (u1_h1:=eh2) hq2) [4,5] kr rfl ?_
     obtain ⟨hg3,h⟩:=zcg h
     refine zfM (k:=2) underlying43 underlying9 zuD rfl dc rfl rfl rfl hg3 (fun v7 => ?_)
     refine zyR 1 rfl (zaE (zae (zgu (k:=1) rfl (zaa [4,5] kr rfl) rfl (zoB (nest:=zaz) (Vw.get hwl1 eq1) rfl) ?_)))
     exact zaj (b4++r1,v7) h rfl (za9 rfl) (zaa [0,1,2] kr rfl)
    rintro ⟨b5,v5⟩ h
    rw [hj2] at h
    refine zao ?_
    obtain ⟨hg4,h⟩:=zcg h
    refine zaW rfl (zbi (r:=x3+1) (IntWalk.i64_in _ hg4)) (zyR 1 rfl (zaE ?_))
    subst hag1
    exact zbv (n1,b5,x3+1,v5) h (Nat.lt_succ_self _) rfl (za9 rfl) (zaa [0,1,2] kr rfl)
   refine zbG (zap (zap (zaI ?_)))
   exact zaj (b4,v4) h rfl (za9 rfl) (zaa [0,1,2] kr rfl)
 rintro ⟨b1,v1⟩ h
 rw [hj1] at h
 refine zyG (zyR 1 rfl (zfL (k:=2) rfl dc rfl rfl underlying43 underlying5 underlying9 (zyR 1 rfl (zyN (zaD ?_)))))
 cases h
 exact zcu (rs:=[.tmp 4]) () (.inl rfl) results19 (.cons (.tmp rfl) .nil) rfl (zaa [0,1] kr rfl)
def zfa (s1:zBA):Option zBA := zak (zea s1) fun (r1:(List zah)) => zak (zc0 r1) fun (r2:zBA) => some r2
theorem zjm {s1:zBA} {r:zBA} (h:zfa s1=some r):FnP prog 9 [.string s1] (.string r):=by
 unfold zfa at h
 refine FnP.intro func9 rfl ntmps9 (by simp) ?_
 intro w0 K
 refine zyG (zyR 1 rfl (zyH (zyR 1 rfl ?_)))
 obtain ⟨r1,hq1,h⟩:=zbx h
 refine zb3 (vs:=[.string s1]) rfl dc rfl rfl rfl zvG (zg2 hq1) Splits.nil ?_
 rintro v1
 refine zj4 (k:=0) rfl (fun hd1 he1 => ?_)
 subst he1
 refine zd6 (k:=0) rfl zqx (fun zs1 hz1 => ?_)
 refine zes (k:=0) rfl (fun hw1 => ?_)
 obtain ⟨r2,hq2,h⟩:=zbx h
 refine zfG (v:=.string r2) (vs:=[hd1.v,.func (.func 21) #[] #[]]) rfl dc rfl rfl rfl zvH (zg1 hw1 hz1 hq2) [0,1] kr rfl (zyR 1 rfl (zyN (zaD ?_)))
 cases h
 exact zba 2 results9
theorem zqa (of:zah→zBA) (l:List zah) (hl:l.length≤1048576) (h:∀ u∈l,u.base<0∧U8 u.broken∨0≤u.base∧zeZ u=some (of u)∧(of u).size≤1048576):zc0 l=some (J (wr of) l):=by
 unfold zc0
 refine zb8 ((zrZ (xs:=l) (f:=fun b u=>b++wr of u) (J:=some) (fun k b=>b.size≤k*1048576) ?_ ?_ ?_ (zfs (by omega)) (by decide)).trans rfl)
 ·intro ag k u b hu hb
  have hk:=zkb hu
  unfold zcb
  refine zaL (zlD hu) (zb8 (zaR (zht hu) ?_))
  rcases h u (List.mem_of_getElem? hu) with ⟨h1,h2⟩ | ⟨h1,h2,h3⟩
  ·exact zaL (decide_eq_true h1) (zct (by omega) (zct (by simpa using h2) (zct (zf8 (by omega)) (by simp only [wr,if_pos h1]))))
  ·exact zaF (decide_eq_false (by omega)) (zaR h2 (zct (by omega) (zct (zf8 (by omega)) (by simp only [wr,if_neg (show ¬ u.base<0 by omega)]))))
 ·intro k u b hu hb
  have hw:(wr of u).size≤1048576:=by
   rcases h u (List.mem_of_getElem? hu) with ⟨h1,h2⟩ | ⟨h1,h2,h3⟩
   ·unfold wr; rw [if_pos h1,zhK]; simp
   ·unfold wr; rw [if_neg (by omega)]; exact h3
  rw [ByteArray.size_append]; omega
 ·intro ag b _; unfold zcb; exact zaF zlE rfl
def zxA (s:zBA):zBA:=J (fun c=>c.1.Text) (zki s)
def zgQ (c:Itm×List Itm):zBA:=J (·.Text) (zl5 c)
def zdc (s:zBA):zBA:=J zgQ (zki s)
theorem znp (l:List Itm) (h:∀ m∈l,isM m=true∧okT m):zeT (l.map (·.Rune))=J (·.Text) l:=by
 rw [zgX,znh]
 refine zhd fun m hm => ?_
 obtain ⟨h1,h2⟩:=h m hm
 rcases h2.2 with ⟨h3,_⟩ | ⟨_,h3⟩
 ·have:mrk m.Rune=true:=h1
  unfold mrk at this; simp at this; omega
 ·exact h3.symm
theorem zw4 {ms:List Itm} {P:Itm→Prop} (h:∀ m∈ms,P m):(∀ m∈loI ms,P m)∧∀ m∈hiI ms,P m :=
 ⟨fun m hm=>h m (List.mem_filter.1 hm).1,fun m hm=>h m (List.mem_filter.1 hm).1⟩
theorem zoN (ms:List Itm):(loI ms).length≤ms.length∧(hiI ms).length≤ms.length:=⟨List.length_filter_le _ _,List.length_filter_le _ _⟩
theorem zp1 (s:zBA) (hs:s.size≤65536):zfa s=some (zdc s):=by
 unfold zfa
 obtain ⟨hl,hc⟩:=ziI hs
 refine zaR (zor s hs) (zaR (zqa (fun u=>((Utf8.encode u.base)++(zeT u.low))++(zeT u.high)) _ (by rw [List.length_map]; omega) ?_) ?_)
 ·intro u hu
  obtain ⟨c,hcm,rfl⟩:=List.mem_map.1 hu
  obtain ⟨h1,_,_,h4⟩:=hc c hcm
  rcases zgH c h1 with ⟨g1,g2,_⟩ | ⟨g1,g2,g3,g4⟩
  ·exact .inl ⟨g1,g2⟩
  ·have hh:=zoN c.2
   have e1:(toU c).low.length≤196608:=by rw [g4]; simp; omega
   have e2:(toU c).high.length≤196608:=by rw [g4]; simp; omega
   have e3:=zhS (toU c).low
   have e4:=zhS (toU c).high
   have e5:=zdl (toU c).base
   refine .inr ⟨g1,?_,?_⟩
   ·unfold zeZ
    exact zct (by omega) (zct (by rw [ByteArray.size_append]; omega) rfl)
   ·rw [ByteArray.size_append,ByteArray.size_append]
    have:(toU c).low.length+(toU c).high.length≤196608:=by
     rw [g4]; have:=zhU c.2; rw [List.length_append] at this; simp; omega
    omega
 ·rw [zuR _ zgQ s hs (fun c hcm h0=>by
   obtain ⟨h1,h2,_⟩:=hc c hcm
   obtain ⟨hlo,hhi⟩:=zw4 h2
   rcases zgH c h1 with ⟨_,_,g3,_⟩ | ⟨g1,g2,g3,g4⟩
   ·omega
   ·rw [g4]
    show Utf8.encode c.1.Rune++zeT ((loI c.2).map (·.Rune))++zeT ((hiI c.2).map (·.Rune))=_
    rw [znp _ hlo,znp _ hhi]
    unfold zgQ zl5
    rw [zdo,zni,g3,ByteArray.append_assoc]) (fun c hcm h0=>by
   obtain ⟨_,_,h3,_⟩:=hc c hcm
   unfold zgQ zl5
   rw [h3 (zgy h0)]
   show J _ [c.1]=_
   rw [zdo,zlu,ByteArray.append_empty])]; rfl
def zcB (u1:zah) (Mc0:List (zaf×Int)) (j2:Int→(List Int)→Option zBA) (ag1:Int→(List Int)→Bool→Int→Option zBA) (u7:Int) (stayed5:List Int) (free3:Bool) (x3:Int):Option zBA := zat (decide ((x3:Int)<(u1.low.length:Int))) ( zbF (fun (j3:Int→(List Int)→Bool→Option zBA) => zak (zd7 u1.low x3) fun (q1:Int) => zat ((zbK (⟨u7,q1⟩:zaf) Mc0).isSome) ( zat (free3) ( j3 ((zbK (⟨u7,q1⟩:zaf) Mc0).getD 0) stayed5 free3
) ( grd (stayed5.length+1≤2147483648) <| j3 u7 (stayed5++[q1]) false
)
) ( grd (stayed5.length+1≤2147483648) <| j3 u7 (stayed5++[q1]) false
)
) (fun (u8:Int) (stayed6:List Int) (free4:Bool) => grd (I64 (x3+1)) <| ag1 u8 stayed6 free4 (x3+1)
)
) ( j2 u7 stayed5
)
def zb5 (u1:zah) (Mc0:List (zaf×Int)) (j4:Int→(List Int)→Option zBA) (ag2:Int→(List Int)→Bool→Int→Option zBA) (u12:Int) (stayed10:List Int) (free7:Bool) (x6:Int):Option zBA := zat (decide ((x6:Int)<(u1.high.length:Int))) ( zbF (fun (j5:Int→(List Int)→Bool→Option zBA) => zak (zd7 u1.high x6) fun (q2:Int) => zat ((zbK (⟨u12,q2⟩:zaf) Mc0).isSome) ( zat (free7) ( j5 ((zbK (⟨u12,q2⟩:zaf) Mc0).getD 0) stayed10 free7
) ( grd (stayed10.length+1≤2147483648) <| j5 u12 (stayed10++[q2]) false
)
) ( grd (stayed10.length+1≤2147483648) <| j5 u12 (stayed10++[q2]) false
)
) (fun (u13:Int) (stayed11:List Int) (free8:Bool) => grd (I64 (x6+1)) <| ag2 u13 stayed11 free8 (x6+1)
)
) ( j4 u12 stayed10
)
def zdx (u1:zah) (Mc0:List (zaf×Int)):Option zBA := zak (zcp u1) fun (r1:Bool) => zat (!r1) ( some (Utf8.encode u1.base)
) ( zbF (fun (j1:Int→(List Int)→Option zBA) => zbF (fun (j2:Int→(List Int)→Option zBA) => zaU (fun _ _ _ _=>none) (zcB u1 Mc0 j2) zcG u1.base ([]:List Int) true 0
) (fun (u3:Int) (stayed2:List Int) => zbF (fun (j4:Int→(List Int)→Option zBA) => zaU (fun _ _ _ _=>none) (zb5 u1 Mc0 j4) zcG u3 stayed2 true 0
) (fun (u9:Int) (stayed7:List Int) => j1 u9 stayed7
)
)
) (fun (u2:Int) (stayed1:List Int) => grd ((Utf8.encode u2).size+(zeT stayed1).size≤9223372036854775807) <| some ((Utf8.encode u2)++(zeT stayed1))
)
)
theorem zjl {u1:zah} {u1_h0 u1_h1:Hd} {bc0 bmc0:Nat} {Mc0:List (zaf×Int)} {r:zBA} (h:zdx u1 Mc0=some r):Fn prog 23 [.agg #[zI u1.at_,.int .u8 u1.broken,.int .i32 u1.base,u1_h0.v,u1_h1.v],zP bc0] [zv1 u1_h0.v u1.low,zv1 u1_h1.v u1.high,cells bc0 [.map (some bmc0)] 54,za5 (fun p:zaf=>Value.agg #[.int .i32 p.e0,.int .i32 p.e1]) (fun n:Int=>Value.int .i32 n) bmc0 Mc0] (fun _b:Unit=>.string r) (fun _b=>[zv1 u1_h0.v u1.low,zv1 u1_h1.v u1.high,cells bc0 [.map (some bmc0)] 54,za5 (fun p:zaf=>Value.agg #[.int .i32 p.e0,.int .i32 p.e1]) (fun n:Int=>Value.int .i32 n) bmc0 Mc0]):=by
 unfold zdx at h
 refine Fn.intro func23 rfl ntmps23 (by simp) ?_
 intro w0 K
 refine zyG ?_
 refine zeb rfl dc rfl (fun b1 => ?_)
 refine zyR 1 rfl (zyN (zaM (zyG (zbW (k:=4) (cs:=[zI u1.at_,.int .u8 u1.broken,.int .i32 u1.base,u1_h0.v,u1_h1.v]) zkT rfl dc rfl rfl rfl rfl ?_))))
 obtain ⟨r1,hq1,h⟩:=zbx h
 refine zfG (v:=.bool r1) (vs:=[.agg #[zI u1.at_,.int .u8 u1.broken,.int .i32 u1.base,u1_h0.v,u1_h1.v]]) rfl dc rfl rfl rfl ztR (zef (u1:=u1) (u1_h0:=u1_h0) (u1_h1:=u1_h1) hq1) [0,1] kr rfl (zgG rfl dc rfl zeS (zyN ?_))
 refine zyB rfl h (fun h => ?_) (fun h => ?_)
 ·
  refine zyG (zag ze6 rfl dc rfl (show _=2 from rfl) (zan (k:=4) zft rfl dc rfl rfl rfl (zdC rfl dc rfl (zda underlying21 underlying9) (zyR 1 rfl (zyN (zaD (zai ?_)))))))
  cases h
  exact zcu (rs:=[.tmp 3]) () (.inl rfl) results23 (.cons (.tmp rfl) .nil) rfl (zaa [0,1,2,3] kr rfl)
 refine zaq (zaG ?_)
 obtain ⟨j1,hj1,h⟩:=zbT h
 refine za2 (β:=Int×(List Int)×Hd) 1 rfl (fun b=>j1 b.1 b.2.1=some r) (fun b=>[]) (fun b=>[(2,zP b1),(4,b.2.2.v)]) (fun b=>[cells bc0 [.map (some bmc0)] 54,za5 (fun p:zaf=>Value.agg #[.int .i32 p.e0,.int .i32 p.e1]) (fun n:Int=>Value.int .i32 n) bmc0 Mc0,zv1 u1_h0.v u1.low,zv1 u1_h1.v u1.high,cells b1 [zI u1.at_,.int .u8 u1.broken,.int .i32 b.1,u1_h0.v,u1_h1.v] 52,zv1 b.2.2.v b.2.1]) (fun cut => ?_) ?_
 ·
  refine zyG (zyR 1 rfl (zyN (cut (zyG (zag zmV rfl dc rfl (show _=3 from rfl) (zan (k:=4) zqm rfl dc rfl rfl rfl (zag zmU rfl dc rfl (show _=4 from rfl) (zan (k:=4) zqm rfl dc rfl rfl rfl ?_))))))))
  refine zck (v:=.agg #[u1_h0.v,u1_h1.v]) (ps:=[(0,.tmp 19),(1,.tmp 21)]) rfl dc rfl (fun _=>by kernel_rfl) ?_
  refine zyR 1 rfl (zyN (zaA (zp4 3 (ziM (zyG (zaW rfl (zgh (show Value.bool (decide ((0:Int)<2))=Value.bool true from congrArg Value.bool dc) zbE) (zyN (zaM (zcf rfl (zaq ?_))))))))))
  refine zaG ?_
  obtain ⟨j2,hj2,h⟩:=zbT h
  refine za2 (β:=Int×(List Int)×Hd) 0 rfl (fun b=>j2 b.1 b.2.1=some r) (fun b=>[]) (fun b=>[(1,zP bc0),(2,zP b1),(4,b.2.2.v),(22,.agg #[u1_h0.v,u1_h1.v]),(23,zI 0)]) (fun b=>[cells bc0 [.map (some bmc0)] 54,za5 (fun p:zaf=>Value.agg #[.int .i32 p.e0,.int .i32 p.e1]) (fun n:Int=>Value.int .i32 n) bmc0 Mc0,zv1 u1_h0.v u1.low,zv1 u1_h1.v u1.high,cells b1 [zI u1.at_,.int .u8 u1.broken,.int .i32 b.1,u1_h0.v,u1_h1.v] 52,zv1 b.2.2.v b.2.1]) (fun cut => ?_) ?_
  ·
   refine cut (zaA (zyG ?_))
   refine zfF (v:=u1_h0.v) rfl dc rfl rfl (fun _=>by kernel_rfl) ?_
   refine zyR 1 rfl (zyH (zyR 1 rfl (zyH (zyR 1 rfl (zdB (k:=0) rfl dc rfl rfl underlying30 (zyR 1 rfl (zaE ?_)))))))
   refine zaG (zaA (ze2 (enc:=(zlf (.i32))) (e:=21) (size:=1) ?_))
   refine zbS (β:=Nat×Int×(List Int)×Bool×Int×Hd) (fun b=>zaU (fun _ _ _ _=>none) (zcB u1 Mc0 j2) b.1 b.2.1 b.2.2.1 b.2.2.2.1 b.2.2.2.2.1=some r) (fun b=>[]) (fun b=>[(1,zP bc0),(2,zP b1),(4,b.2.2.2.2.2.v),(7,.bool b.2.2.2.1),(22,.agg #[u1_h0.v,u1_h1.v]),(23,zI 0),(26,u1_h0.v),(27,zI (u1.low.length:Int)),(28,zI b.2.2.2.2.1)]) (fun b=>[cells bc0 [.map (some bmc0)] 54,za5 (fun p:zaf=>Value.agg #[.int .i32 p.e0,.int .i32 p.e1]) (fun n:Int=>Value.int .i32 n) bmc0 Mc0,zv1 u1_h0.v u1.low,zv1 u1_h1.v u1.high,cells b1 [zI u1.at_,.int .u8 u1.broken,.int .i32 b.2.1,u1_h0.v,u1_h1.v] 52,zv1 b.2.2.2.2.2.v b.2.2.1]) (fun b=>b.1) (zcG,u1.base,([]:List Int),true,0,Hd.nil) h rfl (za9 rfl) (zaa [2,3,0,1,4,5] kr rfl) ?_
   rintro ⟨n1,u7,stayed5,free3,x3,hd5⟩ h
   cases n1 with
   | zero=>exact zez h
   | succ n1 =>
    obtain ⟨ag1,hag1⟩:∃ ag,ag=zaU (fun _ _ _ _=>none) (zcB u1 Mc0 j2) n1:=⟨_,rfl⟩
    have h:zcB u1 Mc0 j2 ag1 u7 stayed5 free3 x3=some r:=by rw [hag1]; exact h
    unfold zcB at h
    refine zyG (zaW rfl zbE (zyN (zaM ?_)))
    refine zyB rfl h (fun h => ?_) (fun h => ?_)
    ·
     refine zaq (zaG ?_)
     obtain ⟨j3,hj3,h⟩:=zbT h
     refine za2 (β:=Int×(List Int)×Bool×Hd) 0 rfl (fun b=>j3 b.1 b.2.1 b.2.2.1=some r) (fun b=>[]) (fun b=>[(1,zP bc0),(2,zP b1),(4,b.2.2.2.v),(7,.bool b.2.2.1),(22,.agg #[u1_h0.v,u1_h1.v]),(23,zI 0),(26,u1_h0.v),(27,zI (u1.low.length:Int)),(28,zI x3)]) (fun b=>[cells bc0 [.map (some bmc0)] 54,za5 (fun p:zaf=>Value.agg #[.int .i32 p.e0,.int .i32 p.e1]) (fun n:Int=>Value.int .i32 n) bmc0 Mc0,zv1 u1_h0.v u1.low,zv1 u1_h1.v u1.high,cells b1 [zI u1.at_,.int .u8 u1.broken,.int .i32 b.1,u1_h0.v,u1_h1.v] 52,zv1 b.2.2.2.v b.2.1]) (fun cut => ?_) ?_
     ·
      refine cut (zaA (zyG ?_))
      obtain ⟨q1,hq2,h⟩:=zbx h
      refine zbo (k:=2) hq2 underlying30 zho rfl dc rfl rfl rfl rfl (zcv (i:=(x3:Int).toNat) (j:=0) (k:=2) (q:=q1) zft zdr rfl dc rfl rfl (zcj hq2) rfl dc rfl (zyR 1 rfl (zyH (zan (k:=0) zrC rfl dc rfl rfl rfl (zag ze6 rfl dc rfl (show _=2 from rfl) (zan (k:=4) zft rfl dc rfl rfl rfl (zyR 1 rfl ?_)))))))
      refine zck (v:=.agg #[.int .i32 u7,.int .i32 q1]) (ps:=[(0,.tmp 35),(1,.tmp 36)]) rfl dc rfl (fun _=>by kernel_rfl) ?_
      refine zha (k:=1) (ek:=(fun p:zaf=>Value.agg #[.int .i32 p.e0,.int .i32 p.e1])) (ev':=(fun n:Int=>Value.int .i32 n)) (kk:=(⟨u7,q1⟩:zaf)) (z0:=0) (zj6 (f0:=fun p:zaf=>p.e0) (f1:=fun p:zaf=>p.e1) (fun a b h1 h2=>by cases a; cases b; simp_all) underlying61 underlying21 zho) underlying54 kr rfl dc rfl rfl rfl ?_
      refine zyR 1 rfl (zaH rfl dc rfl rfl (zaH rfl dc rfl rfl (zyR 2 rfl (zyH (zyR 2 rfl ?_)))))
      refine zyS (s:=42) rfl h (fun h => ?_) (fun h => ?_)
      ·
       refine zyR 2 rfl (zyN ?_)
       refine zyB rfl h (fun h => ?_) (fun h => ?_)
       ·
        refine zao (zyR 1 rfl (zag ze6 rfl dc rfl (show _=2 from rfl) ?_))
        refine zaP (k:=4) (l':=[zI u1.at_,.int .u8 u1.broken,.int .i32 ((zbK (⟨u7,q1⟩:zaf) Mc0).getD 0),u1_h0.v,u1_h1.v]) zho rfl rfl rfl rfl rfl (fun _ _=>rfl) rfl ?_
        refine zaE (zae ?_)
        exact zaj (((zbK (⟨u7,q1⟩:zaf) Mc0).getD 0),stayed5,free3,hd5) h rfl (za9 rfl) (zaa [0,1,2,3,4,5] kr rfl)
       refine zyG (zyR 2 rfl ?_)
       refine zaX (cs:=[.int .i32 q1]) (te:=21) (ps:=[(0,.tmp 48)]) rfl dc rfl (fun _=>by kernel_rfl) (fun b2 => ?_)
       obtain ⟨hg1,h⟩:=zcg h
       refine zbP (k:=5) (k2:=6) (ys:=[q1]) underlying30 zo0 zdr zg5 rfl dc rfl rfl rfl rfl rfl rfl hg1 (fun v1 => ?_)
       refine zcr (k:=5) rfl (fun hd7 he1 => ?_)
       subst he1
       refine zyR 1 rfl (zyN (zao (zyR 1 rfl (zaE (zae ?_)))))
       exact zaj (u7,stayed5++[q1],false,hd7) h rfl (za9 rfl) (zaa [0,1,2,3,4,5] kr rfl)
      refine zyR 2 rfl (zyN (za3 rfl (zyG (zyR 2 rfl ?_))))
      refine zaX (cs:=[.int .i32 q1]) (te:=21) (ps:=[(0,.tmp 48)]) rfl dc rfl (fun _=>by kernel_rfl) (fun b3 => ?_)
      obtain ⟨hg2,h⟩:=zcg h
      refine zbP (k:=5) (k2:=6) (ys:=[q1]) underlying30 zo0 zdr zg5 rfl dc rfl rfl rfl rfl rfl rfl hg2 (fun v2 => ?_)
      refine zcr (k:=5) rfl (fun hd8 he2 => ?_)
      subst he2
      refine zyR 1 rfl (zyN (zao (zyR 1 rfl (zaE (zae ?_)))))
      exact zaj (u7,stayed5++[q1],false,hd8) h rfl (za9 rfl) (zaa [0,1,2,3,4,5] kr rfl)
     rintro ⟨u8,stayed6,free4,hd6⟩ h
     rw [hj3] at h
     refine zao ?_
     obtain ⟨hg3,h⟩:=zcg h
     refine zaW rfl (zbi (r:=x3+1) (IntWalk.i64_in _ hg3)) (zyR 1 rfl (zaE ?_))
     subst hag1
     exact zbv (n1,u8,stayed6,free4,x3+1,hd6) h (Nat.lt_succ_self _) rfl (za9 rfl) (zaa [0,1,2,3,4,5] kr rfl)
    refine zbG (zap (zap (zaI (zae ?_))))
    exact zaj (u7,stayed5,hd5) h rfl (za9 rfl) (zaa [0,1,2,3,4,5] kr rfl)
  rintro ⟨u3,stayed2,hd2⟩ h
  rw [hj2] at h
  refine zao (zaW rfl (zbi (r:=1) dc) (zyR 1 rfl (zaE (zjy (ziM (zyG (zaW rfl (zgh (show Value.bool (decide ((1:Int)<2))=Value.bool true from congrArg Value.bool dc) zbE) (zyN (zaM (zcf rfl (zaq ?_)))))))))))
  refine zaG ?_
  obtain ⟨j4,hj4,h⟩:=zbT h
  refine za2 (β:=Int×(List Int)×Hd) 0 rfl (fun b=>j4 b.1 b.2.1=some r) (fun b=>[]) (fun b=>[(1,zP bc0),(2,zP b1),(4,b.2.2.v),(22,.agg #[u1_h0.v,u1_h1.v]),(23,zI 1)]) (fun b=>[cells bc0 [.map (some bmc0)] 54,za5 (fun p:zaf=>Value.agg #[.int .i32 p.e0,.int .i32 p.e1]) (fun n:Int=>Value.int .i32 n) bmc0 Mc0,zv1 u1_h0.v u1.low,zv1 u1_h1.v u1.high,cells b1 [zI u1.at_,.int .u8 u1.broken,.int .i32 b.1,u1_h0.v,u1_h1.v] 52,zv1 b.2.2.v b.2.1]) (fun cut => ?_) ?_
  ·
   refine cut (zaA (zyG ?_))
   refine zfF (v:=u1_h1.v) rfl dc rfl rfl (fun _=>by kernel_rfl) ?_
   refine zyR 1 rfl (zyH (zyR 1 rfl (zyH (zyR 1 rfl (zdB (k:=3) rfl dc rfl rfl underlying30 (zyR 1 rfl (zaE ?_)))))))
   refine zaG (zaA ?_)
   refine zbS (β:=Nat×Int×(List Int)×Bool×Int×Hd) (fun b=>zaU (fun _ _ _ _=>none) (zb5 u1 Mc0 j4) b.1 b.2.1 b.2.2.1 b.2.2.2.1 b.2.2.2.2.1=some r) (fun b=>[]) (fun b=>[(1,zP bc0),(2,zP b1),(4,b.2.2.2.2.2.v),(7,.bool b.2.2.2.1),(22,.agg #[u1_h0.v,u1_h1.v]),(23,zI 1),(26,u1_h1.v),(27,zI (u1.high.length:Int)),(28,zI b.2.2.2.2.1)]) (fun b=>[cells bc0 [.map (some bmc0)] 54,za5 (fun p:zaf=>Value.agg #[.int .i32 p.e0,.int .i32 p.e1]) (fun n:Int=>Value.int .i32 n) bmc0 Mc0,zv1 u1_h0.v u1.low,zv1 u1_h1.v u1.high,cells b1 [zI u1.at_,.int .u8 u1.broken,.int .i32 b.2.1,u1_h0.v,u1_h1.v] 52,zv1 b.2.2.2.2.2.v b.2.2.1]) (fun b=>b.1) (zcG,u3,stayed2,true,0,hd2) h rfl (za9 rfl) (zaa [0,1,2,3,4,5] kr rfl) ?_
   rintro ⟨n2,u12,stayed10,free7,x6,hd12⟩ h
   cases n2 with
   | zero=>exact zez h
   | succ n2 =>
    obtain ⟨ag2,hag2⟩:∃ ag,ag=zaU (fun _ _ _ _=>none) (zb5 u1 Mc0 j4) n2:=⟨_,rfl⟩
    have h:zb5 u1 Mc0 j4 ag2 u12 stayed10 free7 x6=some r:=by rw [hag2]; exact h
    unfold zb5 at h
    refine zyG (zaW rfl zbE (zyN (zaM ?_)))
    refine zyB rfl h (fun h => ?_) (fun h => ?_)
    ·
     refine zaq (zaG ?_)
     obtain ⟨j5,hj5,h⟩:=zbT h
     refine za2 (β:=Int×(List Int)×Bool×Hd) 0 rfl (fun b=>j5 b.1 b.2.1 b.2.2.1=some r) (fun b=>[]) (fun b=>[(1,zP bc0),(2,zP b1),(4,b.2.2.2.v),(7,.bool b.2.2.1),(22,.agg #[u1_h0.v,u1_h1.v]),(23,zI 1),(26,u1_h1.v),(27,zI (u1.high.length:Int)),(28,zI x6)]) (fun b=>[cells bc0 [.map (some bmc0)] 54,za5 (fun p:zaf=>Value.agg #[.int .i32 p.e0,.int .i32 p.e1]) (fun n:Int=>Value.int .i32 n) bmc0 Mc0,zv1 u1_h0.v u1.low,zv1 u1_h1.v u1.high,cells b1 [zI u1.at_,.int .u8 u1.broken,.int .i32 b.1,u1_h0.v,u1_h1.v] 52,zv1 b.2.2.2.v b.2.1]) (fun cut => ?_) ?_
     ·
      refine cut (zaA (zyG ?_))
      obtain ⟨q2,hq3,h⟩:=zbx h
      refine zbo (k:=3) hq3 underlying30 zho rfl dc rfl rfl rfl rfl (zcv (i:=(x6:Int).toNat) (j:=0) (k:=3) (q:=q2) zft zdr rfl dc rfl rfl (zcj hq3) rfl dc rfl (zyR 1 rfl (zyH (zan (k:=0) zrC rfl dc rfl rfl rfl (zag ze6 rfl dc rfl (show _=2 from rfl) (zan (k:=4) zft rfl dc rfl rfl rfl (zyR 1 rfl ?_)))))))
      refine zck (v:=.agg #[.int .i32 u12,.int .i32 q2]) (ps:=[(0,.tmp 35),(1,.tmp 36)]) rfl dc rfl (fun _=>by kernel_rfl) ?_
      refine zha (k:=1) (ek:=(fun p:zaf=>Value.agg #[.int .i32 p.e0,.int .i32 p.e1])) (ev':=(fun n:Int=>Value.int .i32 n)) (kk:=(⟨u12,q2⟩:zaf)) (z0:=0) (zj6 (f0:=fun p:zaf=>p.e0) (f1:=fun p:zaf=>p.e1) (fun a b h1 h2=>by cases a; cases b; simp_all) underlying61 underlying21 zho) underlying54 kr rfl dc rfl rfl rfl ?_
      refine zyR 1 rfl (zaH rfl dc rfl rfl (zaH rfl dc rfl rfl (zyR 2 rfl (zyH (zyR 2 rfl ?_)))))
      refine zyS (s:=42) rfl h (fun h => ?_) (fun h => ?_)
      ·
       refine zyR 2 rfl (zyN ?_)
       refine zyB rfl h (fun h => ?_) (fun h => ?_)
       ·
        refine zao (zyR 1 rfl (zag ze6 rfl dc rfl (show _=2 from rfl) ?_))
        refine zaP (k:=4) (l':=[zI u1.at_,.int .u8 u1.broken,.int .i32 ((zbK (⟨u12,q2⟩:zaf) Mc0).getD 0),u1_h0.v,u1_h1.v]) zho rfl rfl rfl rfl rfl (fun _ _=>rfl) rfl ?_
        refine zaE (zae ?_)
        exact zaj (((zbK (⟨u12,q2⟩:zaf) Mc0).getD 0),stayed10,free7,hd12) h rfl (za9 rfl) (zaa [0,1,2,3,4,5] kr rfl)
       refine zyG (zyR 2 rfl ?_)
       refine zaX (cs:=[.int .i32 q2]) (te:=21) (ps:=[(0,.tmp 48)]) rfl dc rfl (fun _=>by kernel_rfl) (fun b4 => ?_)
       obtain ⟨hg4,h⟩:=zcg h
       refine zbP (k:=5) (k2:=6) (ys:=[q2]) underlying30 zo0 zdr zg5 rfl dc rfl rfl rfl rfl rfl rfl hg4 (fun v3 => ?_)
       refine zcr (k:=5) rfl (fun hd14 he3 => ?_)
       subst he3
       refine zyR 1 rfl (zyN (zao (zyR 1 rfl (zaE (zae ?_)))))
       exact zaj (u12,stayed10++[q2],false,hd14) h rfl (za9 rfl) (zaa [0,1,2,3,4,5] kr rfl)
      refine zyR 2 rfl (zyN (za3 rfl (zyG (zyR 2 rfl ?_))))
      refine zaX (cs:=[.int .i32 q2]) (te:=21) (ps:=[(0,.tmp 48)]) rfl dc rfl (fun _=>by kernel_rfl) (fun b5 => ?_)
      obtain ⟨hg5,h⟩:=zcg h
      refine zbP (k:=5) (k2:=6) (ys:=[q2]) underlying30 zo0 zdr zg5 rfl dc rfl rfl rfl rfl rfl rfl hg5 (fun v4 => ?_)
      refine zcr (k:=5) rfl (fun hd15 he4 => ?_)
      subst he4
      refine zyR 1 rfl (zyN (zao (zyR 1 rfl (zaE (zae ?_)))))
      exact zaj (u12,stayed10++[q2],false,hd15) h rfl (za9 rfl) (zaa [0,1,2,3,4,5] kr rfl)
     rintro ⟨u13,stayed11,free8,hd13⟩ h
     rw [hj5] at h
     refine zao ?_
     obtain ⟨hg6,h⟩:=zcg h
     refine zaW rfl (zbi (r:=x6+1) (IntWalk.i64_in _ hg6)) (zyR 1 rfl (zaE ?_))
     subst hag2
     exact zbv (n2,u13,stayed11,free8,x6+1,hd13) h (Nat.lt_succ_self _) rfl (za9 rfl) (zaa [0,1,2,3,4,5] kr rfl)
    refine zbG (zap (zap (zaI (zae ?_))))
    exact zaj (u12,stayed10,hd12) h rfl (za9 rfl) (zaa [0,1,2,3,4,5] kr rfl)
  rintro ⟨u9,stayed7,hd9⟩ h
  rw [hj4] at h
  refine zao (zaW rfl (zbi (r:=2) dc) (zyR 1 rfl (zaE (zjy (ziM (zyG (zaW rfl (zgh (show Value.bool (decide ((2:Int)<2))=Value.bool false from congrArg Value.bool dc) zbE) (zyN (zaM (za3 rfl (zbG ?_)))))))))))
  refine zap (zap (zaI ?_))
  exact zaj (u9,stayed7,hd9) h rfl (za9 rfl) (zaa [0,1,2,3,4,5] kr rfl)
 rintro ⟨u2,stayed1,hd1⟩ h
 rw [hj1] at h
 refine zyG (zag ze6 rfl dc rfl (show _=2 from rfl) (zan (k:=4) zft rfl dc rfl rfl rfl (zdC rfl dc rfl (zda underlying21 underlying9) (zyR 1 rfl (ziN (k:=5) rfl dc rfl rfl underlying30 underlying21 underlying9 ?_)))))
 obtain ⟨hg7,h⟩:=zcg h
 refine zaW rfl (zfq hg7) (zyR 1 rfl (zyN (zaD ?_)))
 cases h
 exact zcu (rs:=[.tmp 3]) () (.inl rfl) results23 (.cons (.tmp rfl) .nil) rfl (zaa [2,3,0,1] kr rfl)
def zbL (l1:List zah) (Mof10:List (zaf×Int)) (j1:zBA→Option zBA) (ag1:zBA→Int→Option zBA) (b4:zBA) (x3:Int):Option zBA := zat (decide ((x3:Int)<(l1.length:Int))) ( zbF (fun (j2:zBA→Option zBA) => zak (zd7 l1 x3) fun (x4:zah) => zat (decide ((x4.base:Int)<0)) ( grd (b4.size+1≤140737488355328) <| grd (∀ x∈([x4.broken]:List Int),U8 x) <| j2 (b4++(zcZ [x4.broken]))
) ( zak (zdx x4 Mof10) fun (r1:zBA) => grd (b4.size+r1.size≤140737488355328) <| j2 (b4++r1)
)
) (fun (b5:zBA) => grd (I64 (x3+1)) <| ag1 b5 (x3+1)
)
) ( j1 b4
)
def zcJ (l1:List zah) (Mof10:List (zaf×Int)):Option zBA := zbF (fun (j1:zBA→Option zBA) => zaU (fun _ _=>none) (zbL l1 Mof10 j1) zcG ByteArray.empty 0
) (fun (b1:zBA) => some b1
)
theorem zgk {vvl1 vl1:Value} {Zl1:List (zah×Hd×Hd)} {kl1:Nat} {zl1:List (zah×Hd×Hd)} {l1:List zah} (hwl1:Vw vvl1 Zl1 5 kl1 vl1 zl1) (hzl1:zl1.map Prod.fst=l1) {bof10 bmof10:Nat} {Mof10:List (zaf×Int)} {r:zBA} (h:zcJ l1 Mof10=some r):Fn prog 19 [vl1,.func (.func 23) #[] #[zP bof10]] [zv3 vvl1 Zl1,own zaz Zl1,cells bof10 [.map (some bmof10)] 54,za5 (fun p:zaf=>Value.agg #[.int .i32 p.e0,.int .i32 p.e1]) (fun n:Int=>Value.int .i32 n) bmof10 Mof10] (fun _b:Unit=>.string r) (fun _b=>[zv3 vvl1 Zl1,own zaz Zl1,cells bof10 [.map (some bmof10)] 54,za5 (fun p:zaf=>Value.agg #[.int .i32 p.e0,.int .i32 p.e1]) (fun n:Int=>Value.int .i32 n) bmof10 Mof10]):=by
 unfold zcJ at h
 refine Fn.intro func19 rfl ntmps19 (by simp) ?_
 intro w0 K
 obtain ⟨j1,hj1,h⟩:=zbT h
 refine za2 (β:=zBA×Value) 2 rfl (fun b=>j1 b.1=some r) (fun b=>[]) (fun b=>[(5,b.2)]) (fun b=>[cells bof10 [.map (some bmof10)] 54,za5 (fun p:zaf=>Value.agg #[.int .i32 p.e0,.int .i32 p.e1]) (fun n:Int=>Value.int .i32 n) bmof10 Mof10,zv3 vvl1 Zl1,own zaz Zl1,byt 5 b.2 b.1]) (fun cut => ?_) ?_
 ·
  refine zyG (zyR 1 rfl (zyH (zyR 1 rfl (zyN (cut (zyG (zyR 1 rfl ?_)))))))
  refine zlp hzl1 hwl1 rfl dc rfl underlying49 (zyR 1 rfl (zyN (zaA (zjC (e:=5) ?_))))
  refine zbS (β:=Nat×zBA×Int×Value) (fun b=>zaU (fun _ _=>none) (zbL l1 Mof10 j1) b.1 b.2.1 b.2.2.1=some r) (fun b=>[]) (fun b=>[(1,.func (.func 23) #[] #[zP bof10]),(5,b.2.2.2),(8,vl1),(9,zI (l1.length:Int)),(10,zI b.2.2.1)]) (fun b=>[cells bof10 [.map (some bmof10)] 54,za5 (fun p:zaf=>Value.agg #[.int .i32 p.e0,.int .i32 p.e1]) (fun n:Int=>Value.int .i32 n) bmof10 Mof10,zv3 vvl1 Zl1,own zaz Zl1,byt 5 b.2.2.2 b.2.1]) (fun b=>b.1) (zcG,ByteArray.empty,0,(.slice none 0 0)) h rfl (za9 rfl) (zaa [2,3,0,1,4] kr rfl) ?_
  rintro ⟨n1,b4,x3,v4⟩ h
  cases n1 with
  | zero=>exact zez h
  | succ n1 =>
   obtain ⟨ag1,hag1⟩:∃ ag,ag=zaU (fun _ _=>none) (zbL l1 Mof10 j1) n1:=⟨_,rfl⟩
   have h:zbL l1 Mof10 j1 ag1 b4 x3=some r:=by rw [hag1]; exact h
   unfold zbL at h
   refine zyG (zaW rfl zbE (zyN (zaM ?_)))
   refine zyB rfl h (fun h => ?_) (fun h => ?_)
   ·
    refine zaq (zaG ?_)
    obtain ⟨j2,hj2,h⟩:=zbT h
    refine za2 (β:=zBA×Value) 0 rfl (fun b=>j2 b.1=some r) (fun b=>[]) (fun b=>[(1,.func (.func 23) #[] #[zP bof10]),(5,b.2),(8,vl1),(9,zI (l1.length:Int)),(10,zI x3)]) (fun b=>[cells bof10 [.map (some bmof10)] 54,za5 (fun p:zaf=>Value.agg #[.int .i32 p.e0,.int .i32 p.e1]) (fun n:Int=>Value.int .i32 n) bmof10 Mof10,zv3 vvl1 Zl1,own zaz Zl1,byt 5 b.2 b.1]) (fun cut => ?_) ?_
    ·
     refine cut (zaA (zyG ?_))
     obtain ⟨x4,hq1,h⟩:=zbx h
     obtain ⟨⟨eh1,eh2⟩,eq1⟩:=znL hzl1 hq1
     refine zbc hwl1 eq1 underlying49 zmu rfl dc rfl rfl rfl (zgj (i:=kl1+(x3:Int).toNat) (j:=0) (k:=2) (q:=(x4,(eh1,eh2))) (cs:=[zI x4.at_,.int .u8 x4.broken,.int .i32 x4.base,eh1.v,eh2.v]) zkT zbd rfl dc rfl rfl (Vw.get hwl1 eq1) rfl rfl rfl ?_)
     refine za4 ztd rfl dc (fun b6 => ?_)
     refine za6 (k:=5) (vs:=[zI x4.at_,.int .u8 x4.broken,.int .i32 x4.base,eh1.v,eh2.v]) (l':=[zI x4.at_,.int .u8 x4.broken,.int .i32 x4.base,eh1.v,eh2.v]) zmu rfl rfl rfl rfl rfl (show _≤_ by simp) rfl rfl ?_
     refine zyH (zag ze6 rfl dc rfl (show _=2 from rfl) (zan (k:=5) zft rfl dc rfl rfl rfl (zaW rfl zbE (zyN ?_))))
     refine zyB rfl h (fun h => ?_) (fun h => ?_)
     ·
      refine zao (zyR 1 rfl (zag zoZ rfl dc rfl (show _=1 from rfl) (zan (k:=5) zxZ rfl dc rfl rfl rfl ?_)))
      refine zaX (cs:=[.int .u8 x4.broken]) (te:=5) (ps:=[(0,.tmp 19)]) rfl dc rfl (fun _=>by kernel_rfl) (fun b7 => ?_)
      obtain ⟨hg1,h⟩:=zcg h
      obtain ⟨hg2,h⟩:=zcg h
      refine zhM (k:=4) (k2:=6) (ys:=(zcZ [x4.broken])) underlying43 zuD rfl dc rfl rfl rfl rfl (ziu hg2) rfl hg1 (fun v6 => ?_)
      refine zyR 1 rfl (zaE (zae ?_))
      exact zaj (b4++(zcZ [x4.broken]),v6) h rfl (za9 rfl) (zaa [0,1,2,3,4] kr rfl)
     refine zao (zyR 2 rfl (zbW (k:=5) (cs:=[zI x4.at_,.int .u8 x4.broken,.int .i32 x4.base,eh1.v,eh2.v]) zkT rfl dc rfl rfl rfl rfl ?_))
     refine zd6 (k:=3) rfl (zrL (Vw.get hwl1 eq1)) (fun _ _ => ?_)
     obtain ⟨r1,hq2,h⟩:=zbx h
     refine zfG (v:=.string r1) (vs:=[.agg #[zI x4.at_,.int .u8 x4.broken,.int .i32 x4.base,eh1.v,eh2.v]]) rfl dc rfl rfl rfl zza (zjl (u1:=x4) (u1_h0:=eh1) (u1_h1:=eh2) (bmc0:=bmof10) hq2) [6,7,0,1] kr rfl ?_
     obtain ⟨hg3,h⟩:=zcg h
     refine zfM (k:=4) underlying43 underlying9 zuD rfl dc rfl rfl rfl hg3 (fun v7 => ?_)
     refine zyR 1 rfl (zaE (zae (zgu (k:=3) rfl (zaa [6,7] kr rfl) rfl (zoB (nest:=zaz) (Vw.get hwl1 eq1) rfl) ?_)))
     exact zaj (b4++r1,v7) h rfl (za9 rfl) (zaa [0,1,2,3,4] kr rfl)
    rintro ⟨b5,v5⟩ h
    rw [hj2] at h
    refine zao ?_
    obtain ⟨hg4,h⟩:=zcg h
    refine zaW rfl (zbi (r:=x3+1) (IntWalk.i64_in _ hg4)) (zyR 1 rfl (zaE ?_))
    subst hag1
    exact zbv (n1,b5,x3+1,v5) h (Nat.lt_succ_self _) rfl (za9 rfl) (zaa [0,1,2,3,4] kr rfl)
   refine zbG (zap (zap (zaI ?_)))
   exact zaj (b4,v4) h rfl (za9 rfl) (zaa [0,1,2,3,4] kr rfl)
 rintro ⟨b1,v1⟩ h
 rw [hj1] at h
 refine zyG (zyR 1 rfl (zfL (k:=4) rfl dc rfl rfl underlying43 underlying5 underlying9 (zyR 1 rfl (zyN (zaD ?_)))))
 cases h
 exact zcu (rs:=[.tmp 4]) () (.inl rfl) results19 (.cons (.tmp rfl) .nil) rfl (zaa [2,3,0,1] kr rfl)
def zc8 (s1:zBA):Option zBA := zak (zeJ) fun (r1:((List (zaf×Int))×(List (Int×zaf)))) => zak (zea s1) fun (r2:(List zah)) => zak (zcJ r2 r1.1) fun (r3:zBA) => some r3
theorem zfP {s1:zBA} {r:zBA} (h:zc8 s1=some r):FnP prog 10 [.string s1] (.string r):=by
 unfold zc8 at h
 refine FnP.intro func10 rfl ntmps10 (by simp) ?_
 intro w0 K
 refine zyG (zyR 1 rfl (zyH ?_))
 obtain ⟨r1,hq1,h⟩:=zbx h
 refine zb3 (vs:=[]) rfl dc rfl rfl rfl zvF (zgz hq1) Splits.nil ?_
 rintro ⟨b1,b2⟩
 refine zyR 1 rfl (zaH rfl dc rfl rfl (zaH rfl dc rfl rfl ?_))
 refine za4 zwB rfl dc (fun b3 => ?_)
 refine zaP (k:=2) (l':=[.map (some b1)]) zwO rfl rfl rfl rfl rfl (fun _ _=>rfl) rfl ?_
 refine zyR 1 rfl (zyH (zyR 1 rfl ?_))
 obtain ⟨r2,hq2,h⟩:=zbx h
 refine zb3 (vs:=[.string s1]) rfl dc rfl rfl rfl zvG (zg2 hq2) Splits.nil ?_
 rintro v1
 refine zj4 (k:=3) rfl (fun hd1 he1 => ?_)
 subst he1
 refine zfB (x1:=[]) (x2:=[.tmp 3]) rfl dc rfl rfl ?_
 refine zd6 (k:=3) rfl zqx (fun zs1 hz1 => ?_)
 refine zes (k:=3) rfl (fun hw1 => ?_)
 obtain ⟨r3,hq3,h⟩:=zbx h
 refine zfG (v:=.string r3) (vs:=[hd1.v,.func (.func 23) #[] #[zP b3]]) rfl dc rfl rfl rfl zvH (zgk (bmof10:=b1) hw1 hz1 hq3) [3,4,2,0] kr rfl (zyR 1 rfl (zyN (zaD ?_)))
 cases h
 exact zba 2 results10
theorem zmn (M:List (zaf×Int)) (of:zah→zBA) (l:List zah) (hl:l.length≤1048576) (h:∀ u∈l,u.base<0∧U8 u.broken∨0≤u.base∧zdx u M=some (of u)∧(of u).size≤1048576):zcJ l M=some (J (wr of) l):=by
 unfold zcJ
 refine zb8 ((zrZ (xs:=l) (f:=fun b u=>b++wr of u) (J:=some) (fun k b=>b.size≤k*1048576) ?_ ?_ ?_ (zfs (by omega)) (by decide)).trans rfl)
 ·intro ag k u b hu hb
  have hk:=zkb hu
  unfold zbL
  refine zaL (zlD hu) (zb8 (zaR (zht hu) ?_))
  rcases h u (List.mem_of_getElem? hu) with ⟨h1,h2⟩ | ⟨h1,h2,h3⟩
  ·exact zaL (decide_eq_true h1) (zct (by omega) (zct (by simpa using h2) (zct (zf8 (by omega)) (by simp only [wr,if_pos h1]))))
  ·exact zaF (decide_eq_false (by omega)) (zaR h2 (zct (by omega) (zct (zf8 (by omega)) (by simp only [wr,if_neg (show ¬ u.base<0 by omega)]))))
 ·intro k u b hu hb
  have hw:(wr of u).size≤1048576:=by
   rcases h u (List.mem_of_getElem? hu) with ⟨h1,h2⟩ | ⟨h1,h2,h3⟩
   ·unfold wr; rw [if_pos h1,zhK]; simp
   ·unfold wr; rw [if_neg (by omega)]; exact h3
  rw [ByteArray.size_append]; omega
 ·intro ag b _; unfold zbL; exact zaF zlE rfl
theorem ztm:(tabP.all fun p=>decide (0<p.2∧p.2≤2000)&&zaS p.2)=true:=by decide +kernel
theorem zqG {b m j:Int} (h:joined b m=some j):0<j∧j≤2000∧zaS j=true:=by
 have:=List.all_eq_true.1 ztm _ (zhy h)
 simp only [Bool.and_eq_true,decide_eq_true_eq] at this
 exact ⟨this.1.1,this.1.2,this.2⟩
def tgS (a:Int×List Int×Bool) (m:Int):Int×List Int×Bool :=
 match joined a.1 m with
 | some j=>if a.2.2 then (j,a.2.1,true) else (a.1,a.2.1++[m],false)
 | none=>(a.1,a.2.1++[m],false)
def tgU (b:Int) (lo hi:List Int):zBA :=
 Utf8.encode (hi.foldl tgS ((lo.foldl tgS (b,[],true)).1,(lo.foldl tgS (b,[],true)).2.1,true)).1++zeT (hi.foldl tgS ((lo.foldl tgS (b,[],true)).1,(lo.foldl tgS (b,[],true)).2.1,true)).2.1
theorem zov (a:Int×List Int×Bool) (m:Int):(tgS a m).2.1.length≤a.2.1.length+1:=by
 unfold tgS
 split
 ·split <;> simp
 ·simp
theorem zhR (ms:List Int):∀ a:Int×List Int×Bool,(ms.foldl tgS a).2.1.length≤a.2.1.length+ms.length:=by
 induction ms with
 | nil=>intro a; simp
 | cons m ms ih=>intro a; have:=ih (tgS a m); have:=zov a m; rw [List.foldl_cons,List.length_cons]; omega
section
variable {R X A B C:Type} {xs:List X}
theorem zw3 {F:(A→B→C→Int→Option R)→A→B→C→Int→Option R} {bot:A→B→C→Int→Option R} {f:A×B×C→X→A×B×C} {Jf:A→B→Option R} (Inv:Nat→A×B×C→Prop)
  (hs:∀ ag k x (a:A×B×C),xs[k]?=some x→Inv k a→F ag a.1 a.2.1 a.2.2 (k:Int)=ag (f a x).1 (f a x).2.1 (f a x).2.2 ((k:Int)+1)) (hI:∀ k x a,xs[k]?=some x→Inv k a→Inv (k+1) (f a x))
  (he:∀ ag (a:A×B×C),Inv xs.length a→F ag a.1 a.2.1 a.2.2 (xs.length:Int)=Jf a.1 a.2.1) {n:Nat} (hn:xs.length<n) {a:A×B×C} (h0:Inv 0 a):zaU bot F n a.1 a.2.1 a.2.2 0=Jf (xs.foldl f a).1 (xs.foldl f a).2.1:=by
 have key:∀ (n k:Nat) (a:A×B×C),k≤xs.length→xs.length - k<n→Inv k a→zaU bot F n a.1 a.2.1 a.2.2 (k:Int)=Jf ((xs.drop k).foldl f a).1 ((xs.drop k).foldl f a).2.1:=by
  intro n
  induction n with
  | zero=>intro k a _ h; omega
  | succ n ih =>
   intro k a hk hn hi
   rw [zfO]
   by_cases h:k<xs.length
   ·have hx:xs[k]?=some xs[k]:=List.getElem?_eq_getElem h
    rw [hs _ k _ a hx hi,List.drop_eq_getElem_cons h,List.foldl_cons]
    exact ih (k+1) _ (by omega) (by omega) (hI k _ a hx hi)
   ·have:k=xs.length:=by omega
    subst this
    rw [he _ a hi,List.drop_length]; rfl
 have:=key n 0 a (Nat.zero_le _) (by omega) h0
 simpa using this
end
def tgJ:Int→List Int→Option zBA:=fun u9 stayed7=>grd ((Utf8.encode u9).size+(zeT stayed7).size≤9223372036854775807)<|some ((Utf8.encode u9)++(zeT stayed7))
def zwJ (u:zah):Int→List Int→Option zBA:=fun u3 stayed2=>zbF (fun (j4:Int→(List Int)→Option zBA)=>zaU (fun _ _ _ _=>none) (zb5 u tabP j4) zcG u3 stayed2 true 0) tgJ
theorem zzE (u:zah) (hu:I32 u.base) (h1:u.low.length≤200000) (h2:u.high.length≤200000):zdx u tabP=some (if zaS u.base then tgU u.base u.low u.high else Utf8.encode u.base):=by
 unfold zdx
 refine zaR (zkA u hu) ?_
 cases hL:zaS u.base with
 | false=>exact zaL rfl rfl
 | true =>
  refine zaF rfl (zb8 (zb8 ?_))
  have step:∀ (xs:List Int) (k:Nat) (x:Int) (a:Int×List Int×Bool) (ag:Int→List Int→Bool→Int→Option zBA),xs[k]?=some x→xs.length≤200000→a.2.1.length≤400000 →
    (zak (zd7 xs (k:Int)) fun (q1:Int)=>zat ((zbK (⟨a.1,q1⟩:zaf) tabP).isSome) (zat (a.2.2) ((fun (u8:Int) (stayed6:List Int) (free4:Bool)=>grd (I64 ((k:Int)+1))<|ag u8 stayed6 free4 ((k:Int)+1)) ((zbK (⟨a.1,q1⟩:zaf) tabP).getD 0) a.2.1 a.2.2)
     (grd (a.2.1.length+1≤2147483648)<|(fun (u8:Int) (stayed6:List Int) (free4:Bool)=>grd (I64 ((k:Int)+1))<|ag u8 stayed6 free4 ((k:Int)+1)) a.1 (a.2.1++[q1]) false))
     (grd (a.2.1.length+1≤2147483648)<|(fun (u8:Int) (stayed6:List Int) (free4:Bool)=>grd (I64 ((k:Int)+1))<|ag u8 stayed6 free4 ((k:Int)+1)) a.1 (a.2.1++[q1]) false))=ag (tgS a x).1 (tgS a x).2.1 (tgS a x).2.2 ((k:Int)+1):=by
   intro xs k x a ag hx hxs ha
   have hk:=zkb hx
   refine zaR (zht hx) ?_
   unfold tgS joined
   cases zbK (⟨a.1,x⟩:zaf) tabP with
   | none=>exact zaF rfl (zct (by omega) (zct (zf8 (by omega)) rfl))
   | some j =>
    refine zaL rfl ?_
    cases hf:a.2.2 with
    | true=>exact zaL rfl (zct (zf8 (by omega)) rfl)
    | false=>exact zaF rfl (zct (by omega) (zct (zf8 (by omega)) rfl))
  have hb1:=zhR u.low (u.base,[],true)
  have lo:=zw3 (xs:=u.low) (F:=zcB u tabP (zwJ u)) (bot:=fun _ _ _ _=>none) (f:=tgS) (Jf:=zwJ u) (fun k a=>a.2.1.length≤k) (fun ag k x a hx hi=>by
     have hk:=zkb hx
     unfold zcB
     exact zaL (zlD hx) (zb8 (step u.low k x a ag hx h1 (by omega)))) (fun k x a _ hi=>by have:=zov a x; omega) (fun ag a _=>by unfold zcB; exact zaF zlE rfl) (n:=zcG) (zfs (by omega)) (a:=(u.base,[],true)) (Nat.le_refl _)
  refine lo.trans ?_
  show zaU (fun _ _ _ _=>none) (zb5 u tabP tgJ) zcG _ _ true 0=_
  simp only [List.length_nil,Nat.zero_add] at hb1
  generalize hA:u.low.foldl tgS (u.base,[],true)=A at hb1 ⊢
  have hb2:=zhR u.high (A.1,A.2.1,true)
  have hi':=zw3 (xs:=u.high) (F:=zb5 u tabP tgJ) (bot:=fun _ _ _ _=>none) (f:=tgS) (Jf:=tgJ) (fun k a=>a.2.1.length≤200000+k) (fun ag k x a hx hi=>by
     have hk:=zkb hx
     unfold zb5
     exact zaL (zlD hx) (zb8 (step u.high k x a ag hx h2 (by omega)))) (fun k x a _ hi=>by have:=zov a x; omega) (fun ag a _=>by unfold zb5; exact zaF zlE rfl) (n:=zcG) (zfs (by omega)) (a:=(A.1,A.2.1,true)) (by show A.2.1.length≤200000+0; omega)
  refine hi'.trans ?_
  simp only at hb2
  have e1:=zdl (u.high.foldl tgS (A.1,A.2.1,true)).1
  have e2:=zhS (u.high.foldl tgS (A.1,A.2.1,true)).2.1
  refine zct (by omega) ?_
  show some _=some (tgU _ _ _)
  unfold tgU
  rw [hA]
def tgC (c:Itm×List Itm):zBA:=if isL c.1 then tgU c.1.Rune ((loI c.2).map (·.Rune)) ((hiI c.2).map (·.Rune)) else c.1.Text
def zie (s:zBA):zBA:=J tgC (zki s)
theorem zpn (b:Int) (lo hi:List Int) (h1:lo.length≤200000) (h2:hi.length≤200000):(tgU b lo hi).size≤4+4*(lo.length+hi.length):=by
 unfold tgU
 rw [ByteArray.size_append]
 have a1:=zhR lo (b,[],true)
 have a2:=zhR hi ((lo.foldl tgS (b,[],true)).1,(lo.foldl tgS (b,[],true)).2.1,true)
 have a3:=zhS (hi.foldl tgS ((lo.foldl tgS (b,[],true)).1,(lo.foldl tgS (b,[],true)).2.1,true)).2.1
 have a4:=zdl (hi.foldl tgS ((lo.foldl tgS (b,[],true)).1,(lo.foldl tgS (b,[],true)).2.1,true)).1
 simp only [List.length_nil,Nat.zero_add] at a1
 simp only at a2
 omega
theorem zuX (s:zBA) (hs:s.size≤65536):zc8 s=some (zie s):=by
 unfold zc8
 obtain ⟨hl,hc⟩:=ziI hs
 refine zaR zpo (zaR (zor s hs) (zaR (zmn tabP (fun u=>if zaS u.base then tgU u.base u.low u.high else Utf8.encode u.base) _ (by rw [List.length_map]; omega) ?_) ?_))
 ·intro u hu
  obtain ⟨c,hcm,rfl⟩:=List.mem_map.1 hu
  obtain ⟨h1,_,_,h4⟩:=hc c hcm
  rcases zgH c h1 with ⟨g1,g2,_⟩ | ⟨g1,g2,g3,g4⟩
  ·exact .inl ⟨g1,g2⟩
  ·have hh:=zoN c.2
   have e1:(toU c).low.length≤196608:=by rw [g4]; simp; omega
   have e2:(toU c).high.length≤196608:=by rw [g4]; simp; omega
   have e3:(toU c).low.length+(toU c).high.length≤196608:=by
    rw [g4]; have:=zhU c.2; rw [List.length_append] at this; simp; omega
   refine .inr ⟨g1,zzE _ (by rw [zmr c g2]; exact h1.1) (by omega) (by omega),?_⟩
   split
   ·have:=zpn (toU c).base (toU c).low (toU c).high (by omega) (by omega); omega
   ·have:=zdl (toU c).base; omega
 ·rw [zuR _ tgC s hs (fun c hcm h0=>by
   obtain ⟨h1,_⟩:=hc c hcm
   rcases zgH c h1 with ⟨_,_,g3,_⟩ | ⟨g1,g2,g3,g4⟩
   ·omega
   ·unfold tgC isL
    rw [g4]
    show (if zaS c.1.Rune then _ else _)=_
    cases zaS c.1.Rune with
    | true=>rfl
    | false=>simp [g3]) (fun c hcm h0=>by unfold tgC; rw [zgy h0]; rfl)]; rfl
theorem znD {m:Itm} (h:okT m) (hm:isM m=true):m.Text=Utf8.encode m.Rune:=by
 rcases h.2 with ⟨h3,_⟩ | ⟨_,h3⟩
 ·have:mrk m.Rune=true:=hm
  unfold mrk at this; simp at this; omega
 ·exact h3

def zeW (t:Tok):Prop:=t.valid∨t.broken=true
def itT (x:Itm):Tok:=⟨if x.Rune<0 then 65533 else x.Rune.toNat,x.Text.data.toList⟩
theorem ziE {t:Tok} (h:zeW t):itT (zet t)=t:=by
 unfold itT zet
 rcases h with h | h
 ·rw [zdi h]
  cases t; simp; intro h; omega
 ·rw [h]
  have:t.r=65533:=by unfold Tok.broken at h; simp at h; exact h.1
  cases t; simp at this; subst this; simp
def LM (t:Tok):Prop:=zaS (t.r:Int)=true∨mrk (t.r:Int)=true
def zqK (g:List Tok×(Itm×List Itm)):Prop :=
 (isL g.2.1=true∧g.1≠[]∧(∀ t∈g.1,t.valid∧LM t)∧(∀ m∈g.2.2,isM m=true)∧zbK g.2.1.Rune tabS=none)∨(isL g.2.1=false∧g.2.2=[]∧∃ t,g.1=[t]∧zeW t∧g.2.1=zet t)
theorem zth {t:Tok} (h:zeW t) (hm:isM (zet t)=true):t.valid∧mrk (t.r:Int)=true:=by
 rcases h with h | h
 ·refine ⟨h,?_⟩
  unfold isM zet at hm
  rw [zdi h] at hm; exact hm
 ·unfold isM zet at hm
  rw [h] at hm; exact absurd (show mrk (-1)=true from hm) (by decide)
theorem zsO {t:Tok} (h:zeW t):∃ x ms,apI (zet t)=x::ms∧zqK ([t],(x,ms))∧(∀ m∈ms,isM m=true)∧(isL x=false→ms=[])∧isM x=isM (zet t):=by
 cases hL:isL (zet t) with
 | false =>
  exact ⟨zet t,[],by unfold apI; rw [hL]; rfl,.inr ⟨hL,rfl,t,rfl,h,rfl⟩,by simp,fun _=>rfl,rfl⟩
 | true =>
  have hL':zaS (zet t).Rune=true:=hL
  obtain ⟨b,ms,hq,hb,hn,hms,_⟩:=zey hL'
  have hv:t.valid:=by
   rcases h with h | h
   ·exact h
   ·unfold zet at hL'; rw [h] at hL'; exact absurd (show zaS (-1)=true from hL') (by decide)
  have hlt:zaS (t.r:Int)=true:=by unfold zet at hL'; rw [zdi hv] at hL'; exact hL'
  have hM1:isM (zet t)=false:=by
   cases e:isM (zet t) with
   | false=>rfl
   | true=>have:=zcR (show mrk (zet t).Rune=true from e); rw [hL'] at this; cases this
  have hM2:isM (⟨b,Utf8.encode b,(zet t).At⟩:Itm)=false:=by
   cases e:isM (⟨b,Utf8.encode b,(zet t).At⟩:Itm) with
   | false=>rfl
   | true=>have:=zcR (show mrk b=true from e); rw [hb] at this; cases this
  have hmm:∀ m∈ms.map (fun r=>(⟨r,Utf8.encode r,(zet t).At⟩:Itm)),isM m=true:=fun m hm=>by
   obtain ⟨r,hr,rfl⟩:=List.mem_map.1 hm; exact hms r hr
  exact ⟨⟨b,Utf8.encode b,(zet t).At⟩,ms.map fun r=>⟨r,Utf8.encode r,(zet t).At⟩,by unfold apI; rw [hL,hq]; rfl,.inl ⟨hb,by simp,fun u hu=>by simp at hu; subst hu; exact ⟨hv,.inl hlt⟩,hmm,hn⟩,hmm,
   (fun e=>by rw [show isL (⟨b,Utf8.encode b,(zet t).At⟩:Itm)=true from hb] at e; cases e),by rw [hM1,hM2]⟩
theorem zoR:∀ (ts gs:List Tok) (c:Itm×List Itm),(∀ t∈ts,zeW t)→zqK (gs,c)→∃ G:List (List Tok×(Itm×List Itm)),gs++ts=G.flatMap (·.1)∧clF (some c) (apL (ts.map zet))=G.map (·.2)∧∀ g∈G,zqK g
 | [],gs,c,_,hc=>⟨[(gs,c)],by simp,by simp [apL,clF],by simpa using hc⟩
 | t::ts,gs,c,hok,hc=>by
  have ht:=hok t (List.mem_cons_self ..)
  have hts:=fun u hu=>hok u (List.mem_cons_of_mem _ hu)
  have hap:apL ((t::ts).map zet)=apI (zet t)++apL (ts.map zet):=by unfold apL; rw [List.map_cons,List.flatMap_cons]
  obtain ⟨x,ms,h1,h2,h3,h4,h5⟩:=zsO ht
  rw [hap]
  cases hk:(isL c.1&&isM (zet t)) with
  | true =>
   rw [Bool.and_eq_true] at hk
   have hL:isL (zet t)=false:=zcR (show mrk (zet t).Rune=true from hk.2)
   have ha:apI (zet t)=[zet t]:=by unfold apI; rw [hL]; rfl
   obtain ⟨hv,hm⟩:=zth ht hk.2
   have hc':zqK (gs++[t],(c.1,c.2++[zet t])):=by
    rcases hc with ⟨g1,g2,g3,g4,g5⟩ | ⟨g1,_⟩
    ·refine .inl ⟨g1,by simp,fun u hu => ?_,fun m hm2 => ?_,g5⟩
     ·rcases List.mem_append.1 hu with hu | hu
      ·exact g3 u hu
      ·simp at hu; subst hu; exact ⟨hv,.inr hm⟩
     ·rcases List.mem_append.1 hm2 with hm2 | hm2
      ·exact g4 m hm2
      ·simp at hm2; subst hm2; exact hk.2
    ·rw [hk.1] at g1; cases g1
   obtain ⟨G,e1,e2,e3⟩:=zoR ts (gs++[t]) (c.1,c.2++[zet t]) hts hc'
   refine ⟨G,by rw [← e1]; simp,?_,e3⟩
   rw [ha,← e2,List.singleton_append]
   show (if isL c.1&&isM (zet t) then clF (some (c.1,c.2++[zet t])) (apL (ts.map zet)) else _)=_
   rw [hk.1,hk.2]; rfl
  | false =>
   obtain ⟨G,e1,e2,e3⟩:=zoR ts [t] (x,ms) hts h2
   refine ⟨(gs,c)::G,by rw [List.flatMap_cons,← e1]; simp,?_,fun g hg => ?_⟩
   ·rw [h1,List.cons_append,List.map_cons,← e2]
    show (if isL c.1&&isM x then _ else c::clF (some (x,[])) (ms++apL (ts.map zet)))=_
    rw [h5,hk]
    have h6:clF (some (x,[])) (ms++apL (ts.map zet))=clF (some (x,ms)) (apL (ts.map zet)):=by
     cases hx:isL x with
     | true=>rw [zjv x hx _ ms [] h3]; rfl
     | false=>rw [h4 hx]; rfl
    rw [← h6]; rfl
   ·rcases List.mem_cons.1 hg with rfl | hg
    ·exact hc
    ·exact e3 g hg
theorem zr8 (ts:List Tok) (hok:∀ t∈ts,zeW t):∃ G:List (List Tok×(Itm×List Itm)),ts=G.flatMap (·.1)∧clT ts=G.map (·.2)∧∀ g∈G,zqK g:=by
 cases ts with
 | nil=>exact ⟨[],rfl,rfl,by simp⟩
 | cons t ts =>
  obtain ⟨x,ms,h1,h2,h3,h4,h5⟩:=zsO (hok t (List.mem_cons_self ..))
  obtain ⟨G,e1,e2,e3⟩:=zoR ts [t] (x,ms) (fun u hu=>hok u (List.mem_cons_of_mem _ hu)) h2
  refine ⟨G,by rw [← e1]; rfl,?_,e3⟩
  unfold clT
  have hap:apL ((t::ts).map zet)=apI (zet t)++apL (ts.map zet):=by unfold apL; rw [List.map_cons,List.flatMap_cons]
  rw [hap,h1,← e2]
  show clF (some (x,[])) (ms++apL (ts.map zet))=_
  cases hx:isL x with
  | true=>rw [zjv x hx _ ms [] h3]; rfl
  | false=>rw [h4 hx]; rfl
structure zof (out:Itm×List Itm→List Tok):Prop where
 other:∀ x,isL x=false→out (x,[])=[itT x]
 ne:∀ c,isL c.1=true→out c≠[]
 val:∀ c,isL c.1=true→zbK c.1.Rune tabS=none→(∀ m∈c.2,isM m=true)→∀ t∈out c,t.valid∧LM t
theorem zrQ {out:Itm×List Itm→List Tok} (ho:zof out):∀ (G:List (List Tok×(Itm×List Itm))),(∀ g∈G,zqK g)→Sub (G.flatMap (·.1)) ((G.map (·.2)).flatMap out)
 | [],_=>Sub.nil
 | g::G,h=>by
  have ih:=zrQ ho G (fun x hx=>h x (List.mem_cons_of_mem _ hx))
  rw [List.flatMap_cons,List.map_cons,List.flatMap_cons]
  rcases h g (List.mem_cons_self ..) with ⟨g1,g2,g3,g4,g5⟩ | ⟨g1,g2,t,g3,g4,g5⟩
  ·exact Sub.val g2 (ho.ne _ g1) (fun t ht=>(g3 t ht).1) (fun t ht=>(ho.val _ g1 g5 g4 t ht).1) ih
  ·have e:out g.2=[t]:=by
    rw [show g.2=(g.2.1,[]) from Prod.ext rfl g2,ho.other _ g1,g5,ziE g4]
   rw [g3,e]
   rcases g4 with g4 | g4
   ·exact Sub.one g4 (by simp) (by simpa using g4) ih
   ·exact Sub.brk g4 ih
theorem zmD {out:Itm×List Itm→List Tok} (ho:zof out) {s x:zBA} (hx:x.data.toList=zbp ((clT (zdP s.data.toList)).flatMap out)):zdP x.data.toList=(clT (zdP s.data.toList)).flatMap out:=by
 obtain ⟨G,e1,e2,e3⟩:=zr8 (zdP s.data.toList) (ze3 _)
 rw [hx,e2]
 have:=(zrQ ho G e3).good (by rw [← e1]; exact zk9 _)
 exact this
def sp:zBA:=⟨#[32]⟩
theorem zhZ (y:Itm) (Y:List Itm) (hy:isM y=false):∀ (X:List Itm) (cur:Option (Itm×List Itm)),clF cur (X++y::Y)=clF cur X++clF none (y::Y)
 | [],none=>rfl
 | [],some c=>by
  show (if isL c.1&&isM y then _ else c::clF (some (y,[])) Y)=_
  rw [hy,Bool.and_false]; rfl
 | x::X,none=>zhZ y Y hy X (some (x,[]))
 | x::X,some c=>by
  show (if isL c.1&&isM x then clF (some (c.1,c.2++[x])) (X++y::Y) else c::clF (some (x,[])) (X++y::Y))=(if isL c.1&&isM x then clF (some (c.1,c.2++[x])) X else c::clF (some (x,[])) X)++_
  split
  ·exact zhZ y Y hy X _
  ·rw [zhZ y Y hy X]; rfl
theorem zqY (ta tb:List Tok) (h:∀ t,tb.head?=some t→mrk (zet t).Rune=false):clT (ta++tb)=clT ta++clT tb:=by
 unfold clT
 rw [List.map_append]
 have e:∀ x y:List Itm,apL (x++y)=apL x++apL y:=fun x y=>by unfold apL; rw [List.flatMap_append]
 rw [e]
 cases tb with
 | nil=>simp [apL,cl,clF]
 | cons t tb =>
  have ht:=h t rfl
  obtain ⟨y,ys,hy,hm⟩:∃ y ys,apL ((t::tb).map zet)=y::ys∧isM y=false:=by
   unfold apL
   rw [List.map_cons,List.flatMap_cons]
   unfold apI
   split
   ·rename_i hL
    obtain ⟨b,ms,hq,hb,_⟩:=zey (show zaS (zet t).Rune=true from hL)
    rw [hq]
    refine ⟨_,_,rfl,?_⟩
    cases e:isM (⟨b,Utf8.encode b,(zet t).At⟩:Itm) with
    | false=>rfl
    | true=>have:=zcR (show mrk b=true from e); rw [hb] at this; cases this
   ·exact ⟨_,_,rfl,ht⟩
  rw [hy]
  exact zhZ y ys hm _ none
theorem zi9 (l:List Itm):loI (l.map zeQ)=(loI l).map zeQ∧hiI (l.map zeQ)=(hiI l).map zeQ:=by
 unfold loI hiI
 rw [List.filter_map,List.filter_map]
 exact ⟨rfl,rfl⟩
theorem zgt (c:Itm×List Itm):zgQ (zeN c)=zgQ c:=by
 unfold zgQ zl5 zeN
 simp only
 rw [(zi9 c.2).1,(zi9 c.2).2,← List.map_append,zdo,zdo,znh]; rfl
theorem zrr (c:Itm×List Itm):tgC (zeN c)=tgC c:=by
 unfold tgC zeN
 simp only
 rw [zjc,(zi9 c.2).1,(zi9 c.2).2,List.map_map,List.map_map]; rfl
def mkO (g:Itm×List Itm→List Int) (c:Itm×List Itm):List Tok:=if isL c.1 then (g c).map zhQ else [itT c.1]
theorem zqi (rs:List Int):(zeT rs).data.toList=zbp (rs.map zhQ):=by
 rw [zgX]
 induction rs with
 | nil=>rfl
 | cons r rs ih =>
  rw [zdo,List.map_cons,zch,← ih]
  have:(Utf8.encode r).data.toList=encodeRune r:=zcT r
  show (Utf8.encode r++J Utf8.encode rs).data.toList=encodeRune r++_
  rw [← this]; simp
theorem zga {r:Int} (h:zaS r=true):vr r:=by have:=zcy r h; unfold vr; omega
theorem zpx {r:Int} (h:mrk r=true):vr r:=by unfold mrk at h; simp at h; unfold vr; omega
theorem zuW {r:Int} (h:zaS r=true∨mrk r=true):(zhQ r).valid∧LM (zhQ r):=by
 have hv:vr r:=by rcases h with h | h; exact zga h; exact zpx h
 refine ⟨zfW hv,?_⟩
 unfold LM
 have:(((zhQ r).r:Nat):Int)=r:=by show ((r.toNat:Nat):Int)=r; unfold vr at hv; omega
 rw [this]; exact h
theorem zrX {g:Itm×List Itm→List Int} (h0:∀ c,isL c.1=true→g c≠[]) (h:∀ c,isL c.1=true→zbK c.1.Rune tabS=none→(∀ m∈c.2,isM m=true)→∀ r∈g c,zaS r=true∨mrk r=true):zof (mkO g) where
 other x hx:=by unfold mkO; rw [hx]; rfl
 ne c hc:=by unfold mkO; rw [hc]; simpa using h0 c hc
 val c hc hn hm t ht:=by
  unfold mkO at ht; rw [hc] at ht
  obtain ⟨r,hr,rfl⟩:=List.mem_map.1 (show t∈(g c).map zhQ from ht)
  exact zuW (h c hc hn hm r hr)
theorem zuA (f:Itm×List Itm→zBA) (out:Itm×List Itm→List Tok):∀ l:List (Itm×List Itm),(∀ c∈l,(f c).data.toList=zbp (out c))→(J f l).data.toList=zbp (l.flatMap out)
 | [],_=>rfl
 | c::l,h=>by
  rw [zdo,List.flatMap_cons,zbh,← zuA f out l (fun d hd=>h d (List.mem_cons_of_mem _ hd)),← h c (List.mem_cons_self ..)]
  simp
theorem zi6 {x:Itm} (h:okT x):okT (zeQ x):=h
theorem zjM {f:Itm×List Itm→zBA} {g:Itm×List Itm→List Int} (hf:∀ c,f (zeN c)=f c)
  (h1:∀ c,isL c.1=true→okT c.1→(∀ m∈c.2,isM m=true∧okT m)→f c=zeT (g c)) (h2:∀ c,isL c.1=false→c.2=[]→f c=c.1.Text)
  (s:zBA) (hs:s.size≤65536):(J f (zki s)).data.toList=zbp ((clT (zdP s.data.toList)).flatMap (mkO g)):=by
 have e:J f (zki s)=J f (clT (zdP s.data.toList)):=by
  rw [← zgO,znh]; exact zhd fun c _=>(hf c).symm
 rw [e]
 refine zuA f _ _ fun c hc => ?_
 rw [← zgO] at hc
 obtain ⟨d,hd,rfl⟩:=List.mem_map.1 hc
 obtain ⟨o1,o2,o3,_⟩:=(ziI hs).2 d hd
 unfold mkO
 cases hL:isL (zeN d).1 with
 | true =>
  rw [h1 _ hL (zi6 o1) (fun m hm=>by obtain ⟨y,hy,rfl⟩:=List.mem_map.1 (show m∈d.2.map zeQ from hm); exact ⟨(o2 y hy).1,zi6 (o2 y hy).2⟩),zqi]; rfl
 | false =>
  rw [h2 _ hL (by show d.2.map zeQ=[]; rw [o3 hL]; rfl)]
  show _=zbp [itT (zeN d).1]
  simp [zbp,itT]
def gA (c:Itm×List Itm):List Int:=(zl5 c).map (·.Rune)
def gT (c:Itm×List Itm):List Int:=let hi:=(hiI c.2).map (·.Rune); let lo:=(loI c.2).map (·.Rune)
 (hi.foldl tgS ((lo.foldl tgS (c.1.Rune,[],true)).1,(lo.foldl tgS (c.1.Rune,[],true)).2.1,true)).1::(hi.foldl tgS ((lo.foldl tgS (c.1.Rune,[],true)).1,(lo.foldl tgS (c.1.Rune,[],true)).2.1,true)).2.1
theorem zoL {c:Itm×List Itm} {x:Itm} (h:x∈zl5 c):x=c.1∨x∈c.2:=by
 unfold zl5 at h
 rcases List.mem_cons.1 h with h | h
 ·exact .inl h
 ·unfold loI hiI at h
  rw [List.mem_append,List.mem_filter,List.mem_filter] at h
  exact .inr (by rcases h with h | h <;> exact h.1)
theorem zyl:zof (mkO gA):=zrX (fun c _=>by unfold gA zl5; simp) (fun c hc hn hm r hr=>by
 unfold gA at hr
 obtain ⟨x,hx,rfl⟩:=List.mem_map.1 hr
 rcases zoL hx with rfl | hx
 ·exact .inl hc
 ·exact .inr (hm x hx))
theorem zk4 {x:Itm} (h:okT x) (hL:isL x=true):x.Text=Utf8.encode x.Rune:=by
 rcases h.2 with ⟨h1,_⟩ | ⟨_,h1⟩
 ·have:=(zcy _ hL).1; omega
 ·exact h1
theorem zn6 (s:zBA) (hs:s.size≤65536):(zdc s).data.toList=zbp ((clT (zdP s.data.toList)).flatMap (mkO gA)):=by
 refine zjM zgt (fun c hL h1 h2 => ?_) (fun c hL h2 => ?_) s hs
 ·unfold zgQ gA
  rw [zgX,znh]
  refine zhd fun x hx => ?_
  rcases zoL hx with rfl | hx
  ·exact zk4 h1 hL
  ·exact znD (h2 x hx).2 (h2 x hx).1
 ·unfold zgQ zl5 loI hiI; rw [h2]; rw [zdo]; simp [zlu]
theorem zox (x:Int) (l:List Int):zeT (x::l)=Utf8.encode x++zeT l:=by rw [zgX,zgX,zdo]
theorem zqd {a:Int×List Int×Bool} {m:Int} (h:zaS a.1=true∧∀ x∈a.2.1,mrk x=true) (hm:mrk m=true):zaS (tgS a m).1=true∧∀ x∈(tgS a m).2.1,mrk x=true:=by
 have app:∀ x∈a.2.1++[m],mrk x=true:=fun x hx=>by
  rcases List.mem_append.1 hx with hx | hx
  ·exact h.2 x hx
  ·simp at hx; subst hx; exact hm
 unfold tgS
 split
 ·rename_i j hj
  split
  ·exact ⟨(zqG hj).2.2,h.2⟩
  ·exact ⟨h.1,app⟩
 ·exact ⟨h.1,app⟩
theorem zip:∀ (ms:List Int) (a:Int×List Int×Bool),(zaS a.1=true∧∀ x∈a.2.1,mrk x=true)→(∀ m∈ms,mrk m=true)→zaS (ms.foldl tgS a).1=true∧∀ x∈(ms.foldl tgS a).2.1,mrk x=true
 | [],a,h,_=>h
 | m::ms,a,h,hm=>zip ms _ (zqd h (hm m (List.mem_cons_self ..))) (fun x hx=>hm x (List.mem_cons_of_mem _ hx))
theorem zkz {c:Itm×List Itm} (hm:∀ m∈c.2,isM m=true):(∀ m∈(loI c.2).map (·.Rune),mrk m=true)∧∀ m∈(hiI c.2).map (·.Rune),mrk m=true:=by
 constructor <;> intro m h <;> obtain ⟨x,hx,rfl⟩:=List.mem_map.1 h
 ·unfold loI at hx; rw [List.mem_filter] at hx; exact hm x hx.1
 ·unfold hiI at hx; rw [List.mem_filter] at hx; exact hm x hx.1
theorem zsd {c:Itm×List Itm} (hL:isL c.1=true) (hm:∀ m∈c.2,isM m=true):∃ j st,gT c=j::st∧zaS j=true∧∀ x∈st,mrk x=true:=by
 obtain ⟨h1,h2⟩:=zkz hm
 have a:=zip _ (c.1.Rune,[],true) ⟨hL,by simp⟩ h1
 have b:=zip _ (((loI c.2).map (·.Rune)).foldl tgS (c.1.Rune,[],true) |>.1,(((loI c.2).map (·.Rune)).foldl tgS (c.1.Rune,[],true)).2.1,true) a h2
 exact ⟨_,_,rfl,b.1,b.2⟩
theorem gT_ok:zof (mkO gT):=zrX (fun c _=>by unfold gT; simp) (fun c hc hn hm r hr=>by
 obtain ⟨j,st,e,h1,h2⟩:=zsd hc hm
 rw [e] at hr
 rcases List.mem_cons.1 hr with rfl | hr
 ·exact .inl h1
 ·exact .inr (h2 r hr))
theorem zjG (s:zBA) (hs:s.size≤65536):(zie s).data.toList=zbp ((clT (zdP s.data.toList)).flatMap (mkO gT)):=by
 refine zjM zrr (fun c hL h1 h2 => ?_) (fun c hL h2 => ?_) s hs
 ·unfold tgC tgU
  rw [hL]
  exact (zox _ _).symm
 ·unfold tgC; rw [hL]; rfl
def zsh (r:Int):Bool:=!zaS r||(decide (zeO (zbb r)=zeT (zep (zeO (zbb r))))&&!(zep (zeO (zbb r))).isEmpty &&
 ((zbK r tabS).isSome||(zep (zeO (zbb r))).all fun x=>zaS x&&!great x&&(zbK x tabS).isNone&&decide (zeO x=Utf8.encode x)&&decide (zbb x=x)))
theorem ztO:((List.range 1120).all fun n=>zsh (n:Int))=true:=by decide +kernel
theorem zqS {r:Int} (h:zaS r=true):zeO (zbb r)=zeT (zep (zeO (zbb r)))∧zep (zeO (zbb r))≠[]∧(zbK r tabS=none→∀ x∈zep (zeO (zbb r)),zaS x=true∧great x=false∧zbK x tabS=none∧zeO x=Utf8.encode x∧zbb x=x):=by
 have hr:=zcy r h
 have:=List.all_eq_true.1 ztO r.toNat (List.mem_range.2 (by omega))
 rw [show ((r.toNat:Nat):Int)=r by omega] at this
 unfold zsh at this
 rw [h] at this
 simp only [Bool.not_true,Bool.false_or,Bool.and_eq_true,decide_eq_true_eq,Bool.or_eq_true] at this
 obtain ⟨⟨h1,h2⟩,h3⟩:=this
 refine ⟨h1,?_,fun hn x hx => ?_⟩
 ·intro e; rw [e] at h2; cases h2
 ·rw [hn] at h3
  rcases h3 with h3 | h3
  ·cases h3
  ·have:=List.all_eq_true.1 h3 x hx
   simp only [Bool.and_eq_true,decide_eq_true_eq,Bool.not_eq_true',Option.isNone_iff_eq_none] at this
   obtain ⟨⟨⟨⟨a,b⟩,c⟩,d⟩,e⟩:=this
   exact ⟨a,b,c,d,e⟩
def zwt:Bool→List (Itm×List Itm)→Prop
 | _,[]=>True
 | p,c::cs=>(p=true→isM c.1=false)∧zwt (isL c.1) cs
theorem zm7:∀ (xs:List Itm) (c:Itm×List Itm) (p:Bool),(p=true→isM c.1=false)→zwt p (clF (some c) xs)
 | [],c,p,h=>⟨h,trivial⟩
 | x::xs,c,p,h=>by
  show zwt p (if isL c.1&&isM x then clF (some (c.1,c.2++[x])) xs else c::clF (some (x,[])) xs)
  cases e:(isL c.1&&isM x) with
  | true=>exact zm7 xs (c.1,c.2++[x]) p h
  | false=>exact ⟨h,zm7 xs (x,[]) (isL c.1) (fun hL=>by rw [hL] at e; exact e)⟩
theorem zvS (xs:List Itm):zwt false (cl xs):=by
 cases xs with
 | nil=>trivial
 | cons x xs=>exact zm7 xs (x,[]) false (fun h=>by cases h)
def zzu (c:Itm×List Itm):Prop:=(isL c.1=true∧(∀ m∈c.2,isM m=true)∧zbK c.1.Rune tabS=none)∨(isL c.1=false∧c.2=[]∧∃ t,zeW t∧c.1=zet t)
theorem zkG {ts:List Tok} (hok:∀ t∈ts,zeW t):∀ c∈clT ts,zzu c:=by
 obtain ⟨G,e1,e2,e3⟩:=zr8 ts hok
 intro c hc
 rw [e2] at hc
 obtain ⟨g,hg,rfl⟩:=List.mem_map.1 hc
 rcases e3 g hg with ⟨g1,g2,g3,g4,g5⟩ | ⟨g1,g2,t,g3,g4,g5⟩
 ·exact .inl ⟨g1,g4,g5⟩
 ·exact .inr ⟨g1,g2,t,g4,g5⟩
theorem zt5 (x:Itm) (xs:List Itm):apL (x::xs)=apI x++apL xs:=by unfold apL; rw [List.flatMap_cons]
theorem zlj {t:Tok} (h:isL (zet t)=false) (ts:List Tok):clT (t::ts)=(zet t,[])::clT ts:=by
 unfold clT
 rw [List.map_cons,zt5,show apI (zet t)=[zet t] by unfold apI; rw [h]; rfl]
 exact zpV h _
theorem zpW {out:Itm×List Itm→List Tok} (ho:zof out) (hh:∀ c,isL c.1=true→zbK c.1.Rune tabS=none→(∀ m∈c.2,isM m=true)→∀ t,(out c).head?=some t→mrk (zet t).Rune=false) :
  ∀ (cs:List (Itm×List Itm)) (p:Bool),(∀ c∈cs,zzu c)→zwt p cs→clT (cs.flatMap out)=cs.flatMap (fun c=>clT (out c))
 | [],_,_,_=>rfl
 | c::cs,p,hc,ha=>by
  have ih:=zpW ho hh cs (isL c.1) (fun d hd=>hc d (List.mem_cons_of_mem _ hd)) ha.2
  rw [List.flatMap_cons,List.flatMap_cons,← ih]
  rcases hc c (List.mem_cons_self ..) with ⟨g1,g2,g3⟩ | ⟨g1,g2,t,g3,g4⟩
  ·refine zqY _ _ fun t ht => ?_
   cases cs with
   | nil=>cases ht
   | cons c' cs =>
    have ha':=ha.2.1 g1
    rw [List.flatMap_cons] at ht
    rcases hc c' (List.mem_cons_of_mem _ (List.mem_cons_self ..)) with ⟨k1,k2,k3⟩ | ⟨k1,k2,u,k3,k4⟩
    ·obtain ⟨v,vs,hv⟩:=List.exists_cons_of_ne_nil (ho.ne c' k1)
     rw [hv] at ht
     exact hh c' k1 k3 k2 t (by rw [hv]; exact ht)
    ·have e:out c'=[u]:=by rw [show c'=(c'.1,[]) from Prod.ext rfl k2,ho.other _ k1,k4,ziE k3]
     rw [e] at ht
     have:u=t:=Option.some.inj ht
     subst this
     rw [← k4]; exact ha'
  ·have e:out c=[t]:=by rw [show c=(c.1,[]) from Prod.ext rfl g2,ho.other _ g1,g4,ziE g3]
   have hL:isL (zet t)=false:=by rw [← g4]; exact g1
   rw [e,List.singleton_append,zlj hL,zlj hL]; rfl
theorem znO {out:Itm×List Itm→List Tok} (ho:zof out) (hh:∀ c,isL c.1=true→zbK c.1.Rune tabS=none→(∀ m∈c.2,isM m=true)→∀ t,(out c).head?=some t→mrk (zet t).Rune=false)
  {f g:Itm×List Itm→zBA} (hf:∀ c,f (zeN c)=f c) (hg:∀ c,g (zeN c)=g c) {s x:zBA} (hs:s.size≤65536) (hx:x.data.toList=zbp ((clT (zdP s.data.toList)).flatMap out))
  (hL:∀ c,isL c.1=true→(∀ m∈c.2,isM m=true∧okT m)→zbK c.1.Rune tabS=none→okT c.1→J f (clT (out c))=g c)
  (hN:∀ y,isL y=false→f (y,[])=g (y,[])):J f (zki x)=J g (zki s):=by
 have e:∀ (h:Itm×List Itm→zBA) (u:zBA),(∀ c,h (zeN c)=h c)→J h (zki u)=J h (clT (zdP u.data.toList)):=fun h u hh=>by
  rw [← zgO,znh]; exact zhd fun c _=>(hh c).symm
 rw [e f x hf,e g s hg,zmD ho hx]
 have hadj:zwt false (clT (zdP s.data.toList)):=zvS _
 have hcl:=zkG (ze3 s.data.toList)
 rw [zpW ho hh _ false hcl hadj,zuM]
 refine zhd fun c hc => ?_
 rcases hcl c hc with ⟨g1,g2,g3⟩ | ⟨g1,g2,t,g3,g4⟩
 ·rw [← zgO] at hc
  obtain ⟨d,hd,rfl⟩:=List.mem_map.1 hc
  obtain ⟨o1,o2,o3,_⟩:=(ziI hs).2 d hd
  exact hL _ g1 (fun m hm=>by obtain ⟨y,hy,rfl⟩:=List.mem_map.1 (show m∈d.2.map zeQ from hm); exact ⟨(o2 y hy).1,zi6 (o2 y hy).2⟩) g3 (zi6 o1)
 ·have ec:c=(c.1,[]):=Prod.ext rfl g2
  have e1:out c=[t]:=by rw [ec,ho.other _ g1,g4,ziE g3]
  have hLt:isL (zet t)=false:=by rw [← g4]; exact g1
  rw [e1,zlj hLt]
  show J f [(zet t,[])]=g c
  rw [zdo,zlu,ByteArray.append_empty,← g4,hN _ g1,← ec]
theorem zjI {r:Int} (h:zaS r=true):mrk r=false:=by
 cases e:mrk r with
 | false=>rfl
 | true=>have:=zcR e; rw [h] at this; cases this
theorem zrn {r:Int} (h:vr r):zet (zhQ r)=mkI r:=by
 rw [zjF (zfW h)]
 show mkI ((r.toNat:Nat):Int)=mkI r
 rw [show ((r.toNat:Nat):Int)=r by unfold vr at h; omega]
theorem zti {rs:List Int} (h:∀ r∈rs,vr r):(rs.map zhQ).map zet=rs.map mkI:=by
 rw [List.map_map]
 exact List.map_congr_left fun r hr=>zrn (h r hr)
theorem zk3:∀ {st:List Int},(∀ m∈st,mrk m=true)→st.flatMap zcW=st
 | [],_=>rfl
 | m::st,h=>by
  rw [List.flatMap_cons,zk1 (zcR (h m (List.mem_cons_self ..))),zk3 fun x hx=>h x (List.mem_cons_of_mem _ hx)]; rfl
theorem zpl {α:Type} {p:α→Bool}:∀ {l:List α},(∀ x∈l,p x=true)→l.takeWhile p=l
 | [],_=>rfl
 | x::l,h=>by rw [List.takeWhile_cons,if_pos (h x (List.mem_cons_self ..)),zpl fun y hy=>h y (List.mem_cons_of_mem _ hy)]
theorem zpT {α:Type} {p:α→Bool}:∀ {l:List α},(∀ x∈l,p x=true)→l.dropWhile p=[]
 | [],_=>rfl
 | x::l,h=>by rw [List.dropWhile_cons,if_pos (h x (List.mem_cons_self ..)),zpT fun y hy=>h y (List.mem_cons_of_mem _ hy)]
theorem zxx {j b:Int} {st ms:List Int} (hj:zaS j=true) (hst:∀ m∈st,mrk m=true) (hp:zcW j=b::ms):clT ((j::st).map zhQ)=[(mkI b,(ms++st).map mkI)]:=by
 unfold clT
 rw [zti (fun r hr=>by
  rcases List.mem_cons.1 hr with rfl | hr
  ·exact zga hj
  ·exact zpx (hst r hr)),zuH,List.flatMap_cons,hp,zk3 hst]
 obtain ⟨b',ms',hq,hb,hn,hms,_⟩:=zey hj
 rw [hp] at hq
 obtain ⟨rfl,rfl⟩:=List.cons.inj hq
 rw [List.cons_append,List.map_cons,zli (show isL (mkI b)=true from hb)]
 have hall:∀ x∈(ms++st).map mkI,isM x=true:=fun x hx=>by
  obtain ⟨r,hr,rfl⟩:=List.mem_map.1 hx
  show mrk r=true
  rcases List.mem_append.1 hr with hr | hr
  ·exact hms r hr
  ·exact hst r hr
 have h1:((ms++st).map mkI).takeWhile isM=(ms++st).map mkI:=zpl hall
 have h2:((ms++st).map mkI).dropWhile isM=[]:=zpT hall
 rw [h1,h2,zuB]
def kLo (c:Itm×List Itm):List Int:=(loI c.2).map (·.Rune)
def kHi (c:Itm×List Itm):List Int:=(hiI c.2).map (·.Rune)
theorem zuu (b:Int) (ks:List Int):kLo (mkI b,ks.map mkI)=ks.filter znF∧kHi (mkI b,ks.map mkI)=ks.filter (fun r=>!znF r):=by
 unfold kLo kHi loI hiI
 constructor
 ·induction ks with
  | nil=>rfl
  | cons k ks ih =>
   rw [List.map_cons,List.filter_cons,List.filter_cons,show zuy (mkI k)=znF k from rfl]
   split
   ·rw [List.map_cons]; exact congrArg _ ih
   ·exact ih
 ·induction ks with
  | nil=>rfl
  | cons k ks ih =>
   rw [List.map_cons,List.filter_cons,List.filter_cons,show zuy (mkI k)=znF k from rfl]
   split
   ·rw [List.map_cons]; exact congrArg _ ih
   ·exact ih
theorem zr4 (c:Itm×List Itm):(∀ x∈kLo c,znF x=true)∧∀ x∈kHi c,znF x=false:=by
 unfold kLo kHi loI hiI
 constructor
 ·intro x hx
  obtain ⟨y,hy,rfl⟩:=List.mem_map.1 hx
  rw [List.mem_filter] at hy; exact hy.2
 ·intro x hx
  obtain ⟨y,hy,rfl⟩:=List.mem_map.1 hx
  rw [List.mem_filter] at hy
  simpa [zuy] using hy.2
theorem zpJ (c:Itm×List Itm):gA c=c.1.Rune::(kLo c++kHi c):=by unfold gA zl5 kLo kHi; simp
def zsZ (c d:Itm×List Itm):Prop:=c.1.Rune=d.1.Rune∧kLo c=kLo d∧kHi c=kHi d
theorem zvt {c d:Itm×List Itm} (h:zsZ c d):gA c=gA d:=by
 obtain ⟨h1,h2,h3⟩:=h
 rw [zpJ,zpJ,h1,h2,h3]
theorem ztF:(tabP.all fun p=>decide (zcW p.2=zcW p.1.e0++[p.1.e1]))=true:=by decide +kernel
theorem zqH {b m j:Int} (h:joined b m=some j):zcW j=zcW b++[m]:=by
 unfold joined at h
 have:=List.all_eq_true.1 ztF _ (zhy h)
 simpa using this
theorem zrq:∀ (l:List Int) (b:Int) (st:List Int),l.foldl tgS (b,st,false)=(b,st++l,false)
 | [],b,st=>by simp
 | m::l,b,st=>by
  have:tgS (b,st,false) m=(b,st++[m],false):=by unfold tgS; split <;> rfl
  rw [List.foldl_cons,this,zrq l]; simp
theorem zou:∀ (l:List Int) (b:Int) (st:List Int),∃ La Ls,l=La++Ls∧(l.foldl tgS (b,st,true)).2.1=st++Ls∧zcW (l.foldl tgS (b,st,true)).1=zcW b++La
 | [],b,st=>⟨[],[],rfl,by simp,by simp⟩
 | m::l,b,st=>by
  rw [List.foldl_cons]
  cases h:joined b m with
  | some j =>
   have e:tgS (b,st,true) m=(j,st,true):=by unfold tgS; rw [h]; rfl
   rw [e]
   obtain ⟨La,Ls,h1,h2,h3⟩:=zou l j st
   exact ⟨m::La,Ls,by rw [h1]; rfl,h2,by rw [h3,zqH h]; simp⟩
  | none =>
   have e:tgS (b,st,true) m=(b,st++[m],false):=by unfold tgS; rw [h]
   rw [e,zrq]
   exact ⟨[],m::l,rfl,by simp,by simp⟩
theorem ztN {c:Itm×List Itm} (hn:zbK c.1.Rune tabS=none):∃ j La Ls Ha Hs,gT c=j::(Ls++Hs)∧kLo c=La++Ls∧kHi c=Ha++Hs∧zcW j=c.1.Rune::(La++Ha):=by
 obtain ⟨La,Ls,h1,h2,h3⟩:=zou (kLo c) c.1.Rune []
 obtain ⟨Ha,Hs,k1,k2,k3⟩:=zou (kHi c) ((kLo c).foldl tgS (c.1.Rune,[],true)).1 ((kLo c).foldl tgS (c.1.Rune,[],true)).2.1
 have hp:zcW c.1.Rune=[c.1.Rune]:=by unfold zcW; rw [hn]
 refine ⟨((kHi c).foldl tgS (((kLo c).foldl tgS (c.1.Rune,[],true)).1,((kLo c).foldl tgS (c.1.Rune,[],true)).2.1,true)).1,La,Ls,Ha,Hs,?_,h1,k1,?_⟩
 ·show gT c=_::_
  unfold kLo kHi at *
  unfold gT
  simp only
  rw [k2,h2]; simp
 ·rw [k3,h3,hp]; simp
def zzj (c:Itm×List Itm) (ts:List Tok) (d:Itm×List Itm):Prop:=clT ts=[d]∧isL d.1=true∧okT d.1∧(∀ m∈d.2,isM m=true∧okT m)∧d.1.Rune=c.1.Rune
theorem zuq {r:Int} (h:vr r):okT (mkI r):=by
 unfold vr at h
 refine ⟨?_,.inr ⟨?_,rfl⟩⟩
 ·show I32 r; exact ⟨by omega,by omega⟩
 ·show 0≤r; omega
theorem zup {c:Itm×List Itm} {j b:Int} {st ms:List Int} (hj:zaS j=true) (hst:∀ m∈st,mrk m=true) (hp:zcW j=b::ms) (hb:b=c.1.Rune):zzj c ((j::st).map zhQ) (mkI b,(ms++st).map mkI):=by
 obtain ⟨b',ms',hq,hb',hn,hms,_⟩:=zey hj
 rw [hp] at hq
 obtain ⟨rfl,rfl⟩:=List.cons.inj hq
 refine ⟨zxx hj hst hp,hb',zuq (zga hb'),fun m hm => ?_,hb⟩
 obtain ⟨r,hr,rfl⟩:=List.mem_map.1 hm
 have hm':mrk r=true:=by
  rcases List.mem_append.1 hr with hr | hr
  ·exact hms r hr
  ·exact hst r hr
 exact ⟨hm',zuq (zpx hm')⟩
theorem zmG {l:List Int} (h:∀ x∈l,znF x=true):l.filter znF=l∧l.filter (fun r=>!znF r)=[] :=
 ⟨List.filter_eq_self.2 h,List.filter_eq_nil_iff.2 fun x hx=>by simp [h x hx]⟩
theorem zmN {l:List Int} (h:∀ x∈l,znF x=false):l.filter znF=[]∧l.filter (fun r=>!znF r)=l :=
 ⟨List.filter_eq_nil_iff.2 fun x hx=>by simp [h x hx],List.filter_eq_self.2 fun x hx=>by simp [h x hx]⟩
theorem zx9 {c:Itm×List Itm} (hL:isL c.1=true) (hm:∀ m∈c.2,isM m=true) (hn:zbK c.1.Rune tabS=none):∃ d,zzj c (mkO gT c) d∧zsZ d c:=by
 obtain ⟨j,La,Ls,Ha,Hs,h1,h2,h3,h4⟩:=ztN hn
 obtain ⟨j',st',g1,g2,g3⟩:=zsd hL hm
 rw [h1] at g1
 obtain ⟨rfl,rfl⟩:=List.cons.inj g1
 have e:mkO gT c=(j::(Ls++Hs)).map zhQ:=by unfold mkO; rw [hL,h1]; rfl
 rw [e]
 refine ⟨_,zup g2 g3 h4 rfl,rfl,?_⟩
 obtain ⟨k1,k2⟩:=zuu c.1.Rune ((La++Ha)++(Ls++Hs))
 obtain ⟨l1,l2⟩:=zr4 c
 rw [h2] at l1
 rw [h3] at l2
 have a1:=zmG (l:=La) fun x hx=>l1 x (List.mem_append_left _ hx)
 have a2:=zmG (l:=Ls) fun x hx=>l1 x (List.mem_append_right _ hx)
 have a3:=zmN (l:=Ha) fun x hx=>l2 x (List.mem_append_left _ hx)
 have a4:=zmN (l:=Hs) fun x hx=>l2 x (List.mem_append_right _ hx)
 rw [k1,k2,h2,h3]
 simp only [List.filter_append,a1.1,a1.2,a2.1,a2.2,a3.1,a3.2,a4.1,a4.2]
 simp
theorem zj0 {c:Itm×List Itm} (hL:isL c.1=true) (h1:okT c.1) (h2:∀ m∈c.2,isM m=true∧okT m):zgQ c=zeT (gA c):=by
 unfold zgQ gA
 rw [zgX,znh]
 refine zhd fun x hx => ?_
 rcases zoL hx with rfl | hx
 ·exact zk4 h1 hL
 ·exact znD (h2 x hx).2 (h2 x hx).1
theorem zsi {c:Itm×List Itm} (hL:isL c.1=true):zjn c=zeO (zbb c.1.Rune):=by
 unfold zjn znP; rw [hL]; rfl
theorem zuz {r:Int} {rs:List Int} (h:zaS r=true):∀ t,((r::rs).map zhQ).head?=some t→mrk (zet t).Rune=false:=by
 intro t ht
 have:zhQ r=t:=Option.some.inj ht
 subst this
 rw [zrn (zga h)]
 exact zjI h
theorem zzI:∀ c:Itm×List Itm,isL c.1=true→zbK c.1.Rune tabS=none→(∀ m∈c.2,isM m=true)→∀ t,(mkO gT c).head?=some t→mrk (zet t).Rune=false:=by
 intro c hL _ hm
 obtain ⟨j,st,g1,g2,g3⟩:=zsd hL hm
 have e:mkO gT c=(j::st).map zhQ:=by unfold mkO; rw [hL,g1]; rfl
 rw [e]; exact zuz g2
theorem zyb {c d:Itm×List Itm} {ts:List Tok} (f:Itm×List Itm→zBA) (h:zzj c ts d):J f (clT ts)=f d:=by
 rw [h.1,zdo,zlu,ByteArray.append_empty]
theorem zn5 (s:zBA) (hs:s.size≤65536):zdc (zie s)=zdc s:=by
 refine znO gT_ok zzI zgt zgt hs (zjG s hs) (fun c hL hm hn hok => ?_) (fun y hy=>rfl)
 obtain ⟨d,hd,hk⟩:=zx9 hL (fun m h=>(hm m h).1) hn
 rw [zyb _ hd,zj0 hd.2.1 hd.2.2.1 hd.2.2.2.1,zj0 hL hok hm,zvt hk]
end Go.Proofs.YtifpjbgnikjglaaDoor


namespace Go.Proofs.YtifpjbgnikjglaaDoor
open Go.RowKit Go.Lib
open Tryd
set_option linter.unusedVariables false
set_option linter.unusedSimpArgs false
end Go.Proofs.YtifpjbgnikjglaaDoor
