/-
  Texts laid together: Ca, LqP, LqQ, PqA, PqB, LqS, LqR, LqZ, PqC, PqD, PqE, LqE, LqB, Cb, LqG. Nothing is assumed.
-/
import Derived.Test.YtbempdelckaccaaGreatDoorPageBack3
import Derived.Test.YtbempdelckaccaaGreatDoorPageBack2
set_option maxRecDepth 100000
set_option maxHeartbeats 4000000

namespace Go.Proofs.YtbempdelckaccaaGreatDoor
open Go.RowKit Go.Lib Go.Shelf
set_option linter.unusedVariables false
set_option linter.unusedSimpArgs false
def zpu (r:Int):Int:=if r=13 then 0 else if r=10 then 1 else -1
theorem zqK:∀ n:Nat,n<128→Lib.indexByte [13,10] (n:Int).toNat.toUInt8=zpu (n:Int):=by decide +kernel
theorem zst:pcs (⟨#[13,10]⟩:ByteArray).data.toList=[⟨0,1,13⟩,⟨1,1,10⟩]:=by decide +kernel
theorem zqH (j:Option Int):zaM (fun _=>none) (zbJ j) zb4 0=j:=by
 obtain ⟨n,hn,_⟩:=zn5 3 (by decide)
 rw [hn]
 rw [show n+3=n+2+1 from rfl,zcf]
 unfold zbJ
 rw [zst]
 refine zay rfl (zaN rfl (zaw (by decide) ?_))
 rw [show n+2=n+1+1 from rfl,zcf]
 refine zay rfl (zaN rfl (zaw (by decide) ?_))
 rw [zcf]
 exact zaw rfl rfl
theorem zmm (r:Nat) (hv:r<55296∨(57343<r∧r≤1114111)) (h:128≤r):2≤(encodeRune (r:Int)).length∧(encodeRune (r:Int)).length≤4∧∀ x∈encodeRune (r:Int),128≤x.toNat:=by
 unfold encodeRune
 rcases zi2 r hv with ⟨h1,_⟩ | ⟨h1,h2,e⟩ | ⟨h1,h2,e⟩ | ⟨h1,h2,e⟩
 ·omega
 all_goals
  rw [e]
  refine ⟨by simp,by simp,fun x hx => ?_⟩
  simp only [List.map_cons,List.map_nil,List.mem_cons,List.not_mem_nil,or_false] at hx
 ·rcases hx with rfl | rfl <;> rw [zd5 _ (by omega) (by omega)] <;> omega
 ·rcases hx with rfl | rfl | rfl <;> rw [zd5 _ (by omega) (by omega)] <;> omega
 ·rcases hx with rfl | rfl | rfl | rfl <;> rw [zd5 _ (by omega) (by omega)] <;> omega
theorem zq1 (r:Nat) (h:r<128):encodeRune (r:Int)=[r.toUInt8]:=by
 unfold encodeRune; rw [encodeRuneZ_one (by omega) (by omega)]; simp
theorem zsi {e:ByteArray} (h2:∀ x∈e.data.toList,128≤x.toNat) {i:Int} (h0:0≤i) (hi:i<(e.size:Int)):∃ c,zg2 e i=some c∧128≤c:=by
 obtain ⟨n,rfl⟩:∃ n:Nat,i=n:=⟨i.toNat,by omega⟩
 have hn:n<e.size:=by omega
 refine ⟨((e[n]'hn).toNat:Int),zn4 rfl hn,?_⟩
 have h3:128≤(e[n]'hn).toNat:=h2 _ (Array.mem_toList_iff.2 (Array.getElem_mem hn))
 omega
theorem zsh {r:Nat} (hv:r<55296∨(57343<r∧r≤1114111)) (h:128≤r) {i:Int} (h0:0≤i) (hi:i<((Utf8.encode (r:Int)).size:Int)):∃ c,zg2 (Utf8.encode (r:Int)) i=some c∧128≤c :=
 zsi (by rw [zhN]; exact (zmm r hv h).2.2) h0 hi
theorem ztD (r:Nat) (hv:r<55296∨(57343<r∧r≤1114111)):zce (r:Int)=some (zpu (r:Int)):=by
 unfold zce
 refine zay (decide_eq_true (by omega)) ?_
 by_cases h1:r<128
 ·refine zay (decide_eq_true (by omega)) ?_
  rw [u8w _ (by omega)]
  exact congrArg some (zqK r h1)
 ·have he:zpu (r:Int)=-1:=by unfold zpu; rw [if_neg (by omega),if_neg (by omega)]
  rw [he]
  refine zaw (decide_eq_false (by omega)) ?_
  by_cases h2:r=65533
  ·refine zay (beq_iff_eq.2 (by omega)) (zbF ?_)
   exact zqH _
  ·refine zaw (beq_eq_false_iff_ne.2 (by omega)) ?_
   have hval:Lib.validRune (r:Int)=true:=by
    unfold Lib.validRune; simp; omega
   refine zaw (by rw [hval]; rfl) (zbF ?_)
   obtain ⟨hs2,hs4,_⟩:=zmm r hv (by omega)
   rw [← zhM] at hs2 hs4
   refine zbM ⟨by omega,by omega⟩ ?_
   obtain ⟨n,hn,_⟩:=zn5 1 (by decide)
   rw [hn,zcf]
   unfold zb5
   have hz:((⟨#[13,10]⟩:ByteArray).size:Int)=2:=rfl
   by_cases h3:(Utf8.encode (r:Int)).size=2
   ·refine zay (decide_eq_true (by rw [hz]; omega)) (zbF ?_)
    obtain ⟨c,hc,hc128⟩:=zsh hv (by omega) (i:=((Utf8.encode (r:Int)).size:Int) - 1) (by omega) (by omega)
    refine zaN (a:=10) (by rw [h3]; rfl) (zaN hc (zay (bne_iff_ne.2 (by omega)) ?_))
    refine zbM ⟨by omega,by omega⟩ (zbM ⟨by omega,by rw [hz]; omega,Int.le_refl _⟩ (zaN hc (zay ?_ rfl)))
    have:(zbE (⟨#[13,10]⟩:ByteArray) (((Utf8.encode (r:Int)).size:Int) - 1+1) ((⟨#[13,10]⟩:ByteArray).size:Int)).data.toList=[]:=by rw [h3]; decide +kernel
    rw [this]
    rfl
   ·refine zaw (decide_eq_false (by rw [hz]; omega)) rfl
def isE (b:UInt8):Bool:=b==13||b==10
def zlI (s:ByteArray):Bool:=s.data.toList.any isE
theorem ztC {b:UInt8} (h:128≤b.toNat):isE b=false:=by
 unfold isE
 have h1:(b==13)=false:=beq_eq_false_iff_ne.2 (by rintro rfl; exact absurd h (by decide))
 have h2:(b==10)=false:=beq_eq_false_iff_ne.2 (by rintro rfl; exact absurd h (by decide))
 rw [h1,h2]; rfl
theorem zsc (r:Int):decide (0≤zpu r)=(decide (r=13)||decide (r=10)):=by
 unfold zpu
 by_cases h1:r=13
 ·subst h1; rfl
 ·by_cases h2:r=10
  ·subst h2; rfl
  ·rw [if_neg h1,if_neg h2]; simp [h1,h2]
theorem zqt (l:List UInt8) (h:l≠[]):decide (0≤zpu ((decodeL l).1:Int))=(l.take (decodeL l).2).any isE:=by
 rw [zsc]
 obtain ⟨b,t,rfl⟩:=List.exists_cons_of_ne_nil h
 by_cases hb:b.toNat<128
 ·rw [decodeL_ascii b t hb]
  simp only [List.take_succ_cons,List.take_zero,List.any_cons,List.any_nil,Bool.or_false]
  unfold isE
  congr 1
  ·rw [Bool.eq_iff_iff,decide_eq_true_iff,beq_iff_eq]
   exact ⟨fun h=>UInt8.toNat.inj (by show b.toNat=13; omega),fun h=>by subst h; rfl⟩
  ·rw [Bool.eq_iff_iff,decide_eq_true_iff,beq_iff_eq]
   exact ⟨fun h=>UInt8.toNat.inj (by show b.toNat=10; omega),fun h=>by subst h; rfl⟩
 ·have hd:=zrb (b::t) (by simp)
  generalize (decodeL (b::t)).1=r at hd ⊢
  generalize (decodeL (b::t)).2=w at hd ⊢
  obtain ⟨w,rfl⟩:∃ v,w=v+1:=⟨w - 1,by have:=hd.pos; omega⟩
  have hall:128≤r∧∀ x∈(b::t).take (w+1),128≤x.toNat:=by
   by_cases hbr:r=65533∧w+1=1
   ·obtain ⟨rfl,hw⟩:=hbr
    obtain rfl:w=0:=by omega
    refine ⟨by omega,fun x hx => ?_⟩
    simp at hx; subst hx; omega
   ·have he:=hd.bytes hbr
    have hr:128≤r:=by
     rcases Nat.lt_or_ge r 128 with h1 | h1
     ·rw [zq1 r h1,List.take_succ_cons] at he
      have h2:r.toUInt8=b:=(List.cons.inj he).1
      have h3:b.toNat=r:=by rw [← h2]; simp; omega
      omega
     ·exact h1
    refine ⟨hr,?_⟩
    rw [← he]
    exact (zmm r hd.valid hr).2.2
  rw [decide_eq_false (show ¬ (r:Int)=13 by omega),decide_eq_false (show ¬ (r:Int)=10 by omega)]
  symm
  rw [Bool.or_false,List.any_eq_false]
  intro x hx
  rw [ztC (hall.2 x hx)]
  decide
theorem zpe (s:ByteArray) (j:Option Int):∀ (n m:Nat),(pcs s.data.toList).length - m<n→(∀ p∈pcs s.data.toList,zce (p.r:Int)=some (zpu (p.r:Int))) →
  ∃ x:Option Int,zaM (fun _=>none) (zbh s j) n m=x∧((((pcs s.data.toList).drop m).any (fun p=>decide (0≤zpu (p.r:Int)))=true∧∃ k:Nat,x=some (k:Int))∨(((pcs s.data.toList).drop m).any (fun p=>decide (0≤zpu (p.r:Int)))=false∧x=j)):=by
 intro n
 induction n with
 | zero=>intro m h; omega
 | succ n ih =>
  intro m hm hp
  rw [zcf]
  rcases Nat.lt_or_ge m (pcs s.data.toList).length with h1 | h1
  ·obtain ⟨p,hq⟩:∃ p,(pcs s.data.toList)[m]?=some p:=⟨_,List.getElem?_eq_getElem h1⟩
   have hd:(pcs s.data.toList).drop m=p::(pcs s.data.toList).drop (m+1):=by
    rw [List.drop_eq_getElem_cons h1]; congr 1
    rw [List.getElem?_eq_getElem h1] at hq; exact Option.some.inj hq
   rw [hd,List.any_cons]
   cases hh:decide (0≤zpu (p.r:Int)) with
   | true =>
    refine ⟨some (p.i:Int),?_,.inl ⟨rfl,p.i,rfl⟩⟩
    unfold zbh
    exact zay (decide_eq_true h1) (zaN hq (zaN (hp p (List.mem_of_getElem? hq)) (zay hh rfl)))
   | false =>
    obtain ⟨x,hx,h3⟩:=ih (m+1) (by omega) hp
    refine ⟨x,?_,by rw [Bool.false_or]; exact h3⟩
    conv=>lhs; unfold zbh
    refine zay (decide_eq_true h1) (zaN hq (zaN (hp p (List.mem_of_getElem? hq)) (zaw hh hx)))
  ·rw [List.drop_eq_nil_of_le h1]
   refine ⟨j,?_,.inr ⟨rfl,rfl⟩⟩
   unfold zbh
   exact zaw (decide_eq_false (by omega)) rfl
theorem zka:∀ (n:Nat) (l:List UInt8) (i:Nat),l.length≤n→(zc7 i l).any (fun p=>decide (0≤zpu (p.r:Int)))=l.any isE
 | 0,l,i,h=>by
  obtain rfl:l=[]:=List.length_eq_zero_iff.1 (by omega)
  rw [zcq]; rfl
 | n+1,l,i,h=>by
  by_cases hl:l=[]
  ·subst hl; rw [zcq]; rfl
  ·have hw:=zfv l
   have hle:=ziu l hl
   rw [zcE i l hl,List.any_cons,zka n _ _ (by rw [List.length_drop]; omega)]
   show (decide (0≤zpu ((decodeL l).1:Int))||_)=_
   rw [zqt l hl,← List.any_append,List.take_append_drop]
theorem zj9:∀ (n:Nat) (l:List UInt8) (i:Nat),l.length≤n→(zc7 i l).length≤l.length
 | 0,l,i,h=>by
  obtain rfl:l=[]:=List.length_eq_zero_iff.1 (by omega)
  rw [zcq]; exact Nat.le_refl _
 | n+1,l,i,h=>by
  by_cases hl:l=[]
  ·subst hl; rw [zcq]; exact Nat.le_refl _
  ·have hw:=zfv l
   have hle:=ziu l hl
   rw [zcE i l hl,List.length_cons]
   have:=zj9 n (l.drop (decodeL l).2) (i+(decodeL l).2) (by rw [List.length_drop]; omega)
   rw [List.length_drop] at this
   omega
theorem zqv (l:List UInt8):∀ p∈pcs l,p.r<55296∨(57343<p.r∧p.r≤1114111):=by
 have key:∀ (n:Nat) (l:List UInt8) (i:Nat),l.length≤n→∀ p∈zc7 i l,p.r<55296∨(57343<p.r∧p.r≤1114111):=by
  intro n
  induction n with
  | zero =>
   intro l i h p hp
   obtain rfl:l=[]:=List.length_eq_zero_iff.1 (by omega)
   rw [zcq] at hp; cases hp
  | succ n ih =>
   intro l i h p hp
   by_cases hl:l=[]
   ·subst hl; rw [zcq] at hp; cases hp
   ·have hw:=zfv l
    have hle:=ziu l hl
    rw [zcE i l hl] at hp
    rcases List.mem_cons.1 hp with rfl | hp
    ·exact zkD l
    ·exact ih _ _ (by rw [List.length_drop]; omega) p hp
 exact key _ l 0 (Nat.le_refl _)
theorem zsT (s:ByteArray) (h8:s.size≤8):∃ r,zcL s=some r∧decide (0≤r)=zlI s:=by
 unfold zcL
 obtain ⟨x,hx,h⟩:=zpe s (some (-1)) zb4 0 (by
  have:=zj9 s.data.toList.length s.data.toList 0 (Nat.le_refl _)
  have h2:s.data.toList.length=s.size:=by rw [Array.length_toList]; rfl
  have h3:(pcs s.data.toList).length≤s.data.toList.length:=this
  have h4:(9:Nat)<zb4:=by unfold zb4; omega
  omega) (fun p hp=>ztD p.r (zqv _ p hp))
 have hany:=zka s.data.toList.length s.data.toList 0 (Nat.le_refl _)
 rw [List.drop_zero] at h
 have e:∀ r,x=some r→zax (decide ((⟨#[13,10]⟩:ByteArray)=(⟨#[]⟩:ByteArray))) (some (-1)) (zax ((((⟨#[13,10]⟩:ByteArray).size:Int):Int)==1) (zbr (fun (j1:Int→Option Int)=>zak (zg2 (⟨#[13,10]⟩:ByteArray) 0) fun (c1:Int)=>grd (I32 c1)<|zax (decide ((128:Int)≤c1)) (j1 65533) (j1 c1)) (fun (r1:Int)=>none)) (zbr (fun (j2:Option Int)=>zax (decide (8<((s.size:Int):Int))) (none) (j2)) (zbr (fun (j3:Option Int)=>zaM (fun _=>none) (zbh s j3) zb4 0) (some (-1)))))=some r:=fun r hr =>
  zaw (by decide) (zaw (by decide) (zbF (zaw (decide_eq_false (by omega)) (zbF (hx.trans hr)))))
 rcases h with ⟨h1,k,rfl⟩ | ⟨h1,rfl⟩
 ·exact ⟨(k:Int),e _ rfl,by rw [decide_eq_true (by omega)]; exact (hany.symm.trans h1).symm⟩
 ·exact ⟨-1,e _ rfl,by rw [decide_eq_false (by omega)]; exact (hany.symm.trans h1).symm⟩
def iaV (s:ByteArray):Int:=if 8<s.size then Lib.indexAny s.data.toList [13,10] else (zcL s).getD 0
theorem zuZ (s:ByteArray) (h:s.size≤4294967280):FnP Tryz.prog 134 [.string s,.string (⟨#[13,10]⟩:ByteArray)] (.int .i64 (iaV s)):=by
 unfold iaV
 split
 ·rename_i h8; exact zsd s h8 (by omega)
 ·rename_i h8
  obtain ⟨r,hr,_⟩:=zsT s (by omega)
  rw [hr]
  exact zga hr
theorem zu0 (s:ByteArray):decide (0≤iaV s)=zlI s:=by
 unfold iaV
 split
 ·rename_i h8
  unfold zlI
  generalize s.data.toList=l
  induction l with
  | nil=>rfl
  | cons b l ih =>
   have hge:=Lib.indexAny_ge [13,10] l
   have hc:([13,10]:List UInt8).contains b=isE b:=by unfold isE; simp only [List.contains_cons,List.contains_nil,Bool.or_false]
   rw [Lib.indexAny,hc,List.any_cons]
   cases hb:isE b with
   | true=>rfl
   | false =>
    rw [Bool.false_or,← ih,if_neg (by decide)]
    split
    ·rename_i h2; rw [beq_iff_eq.1 h2]
    ·rename_i h2
     have h3:Lib.indexAny l [13,10]≠-1:=fun e=>h2 (by rw [e]; rfl)
     rw [decide_eq_true (by omega),decide_eq_true (by omega)]
 ·rename_i h8
  obtain ⟨r,hr,h1⟩:=zsT s (by omega)
  rw [hr]; exact h1
end Go.Proofs.YtbempdelckaccaaGreatDoor

namespace Go.Proofs.YtbempdelckaccaaGreatDoor
open Go.RowKit Go.Lib
set_option linter.unusedVariables false
set_option linter.unusedSimpArgs false
def zdd (s1:ByteArray) (j1:(List Gapi_Place)→(List Gplace_ended)→Int→Int→Int→Int→Int→Int→Int→Option ((Option Gplace_Map)×Int)) (ag1:(List Gapi_Place)→(List Gplace_ended)→Int→Int→Int→Int→Int→Int→Int→Nat→Option ((Option Gplace_Map)×Int)) (m10:List Gapi_Place) (m11:List Gplace_ended) (p16:Int) (p17:Int) (p18:Int) (p19:Int) (p20:Int) (line7:Int) (line8:Int) (m12:Nat):Option ((Option Gplace_Map)×Int) :=
zax (decide (m12<(pcs s1.data.toList).length)) (
zak ((pcs s1.data.toList)[m12]?) fun (p21:Pc) =>
zbr (fun (j2:Int→Option ((Option Gplace_Map)×Int)) =>
grd (m10.length+1≤2147483648) <|
grd (I64 (p17+1)) <|
grd (I64 (p18+1)) <|
grd (I64 (p20+1)) <|
zax (decide ((65536:Int)≤(p21.r:Int))) (
grd (I64 ((p18+1)+1)) <|
j2 ((p18+1)+1)
) (
j2 (p18+1)
)
) (fun (p22:Int) =>
zbr (fun (j3:Int→Option ((Option Gplace_Map)×Int)) =>
zax (((p21.r:Int):Int)==13) (
grd (I64 ((p21.i:Int)+1)) <|
zax (decide ((((p21.i:Int)+1):Int)<(s1.size:Int))) (
grd (I64 ((p21.i:Int)+1)) <|
zak (zg2 s1 ((p21.i:Int)+1)) fun (c1:Int) =>
zax ((c1:Int)==10) (
ag1 (m10++[(⟨(p21.i:Int),p17,p18,p19,p20⟩:Gapi_Place)]) m11 (p21.i:Int) (p17+1) p22 p19 (p20+1) line7 line8 (m12+1)
) (
zax (((p21.r:Int):Int)==10) (
zax (decide ((0:Int)<(p21.i:Int))) (
grd (I64 ((p21.i:Int) - 1)) <|
zak (zg2 s1 ((p21.i:Int) - 1)) fun (c2:Int) =>
zax ((c2:Int)==13) (
j3 2
) (
zax (((p21.r:Int):Int) != 13) (
zax (((p21.r:Int):Int) != 10) (
ag1 (m10++[(⟨(p21.i:Int),p17,p18,p19,p20⟩:Gapi_Place)]) m11 (p21.i:Int) (p17+1) p22 p19 (p20+1) line7 line8 (m12+1)
) (
j3 1
)
) (
j3 1
)
)
) (
zax (((p21.r:Int):Int) != 13) (
zax (((p21.r:Int):Int) != 10) (
ag1 (m10++[(⟨(p21.i:Int),p17,p18,p19,p20⟩:Gapi_Place)]) m11 (p21.i:Int) (p17+1) p22 p19 (p20+1) line7 line8 (m12+1)
) (
j3 1
)
) (
j3 1
)
)
) (
zax (((p21.r:Int):Int) != 13) (
zax (((p21.r:Int):Int) != 10) (
ag1 (m10++[(⟨(p21.i:Int),p17,p18,p19,p20⟩:Gapi_Place)]) m11 (p21.i:Int) (p17+1) p22 p19 (p20+1) line7 line8 (m12+1)
) (
j3 1
)
) (
j3 1
)
)
)
) (
zax (((p21.r:Int):Int)==10) (
zax (decide ((0:Int)<(p21.i:Int))) (
grd (I64 ((p21.i:Int) - 1)) <|
zak (zg2 s1 ((p21.i:Int) - 1)) fun (c3:Int) =>
zax ((c3:Int)==13) (
j3 2
) (
zax (((p21.r:Int):Int) != 13) (
zax (((p21.r:Int):Int) != 10) (
ag1 (m10++[(⟨(p21.i:Int),p17,p18,p19,p20⟩:Gapi_Place)]) m11 (p21.i:Int) (p17+1) p22 p19 (p20+1) line7 line8 (m12+1)
) (
j3 1
)
) (
j3 1
)
)
) (
zax (((p21.r:Int):Int) != 13) (
zax (((p21.r:Int):Int) != 10) (
ag1 (m10++[(⟨(p21.i:Int),p17,p18,p19,p20⟩:Gapi_Place)]) m11 (p21.i:Int) (p17+1) p22 p19 (p20+1) line7 line8 (m12+1)
) (
j3 1
)
) (
j3 1
)
)
) (
zax (((p21.r:Int):Int) != 13) (
zax (((p21.r:Int):Int) != 10) (
ag1 (m10++[(⟨(p21.i:Int),p17,p18,p19,p20⟩:Gapi_Place)]) m11 (p21.i:Int) (p17+1) p22 p19 (p20+1) line7 line8 (m12+1)
) (
j3 1
)
) (
j3 1
)
)
)
) (
zax (((p21.r:Int):Int)==10) (
zax (decide ((0:Int)<(p21.i:Int))) (
grd (I64 ((p21.i:Int) - 1)) <|
zak (zg2 s1 ((p21.i:Int) - 1)) fun (c4:Int) =>
zax ((c4:Int)==13) (
j3 2
) (
zax (((p21.r:Int):Int) != 13) (
zax (((p21.r:Int):Int) != 10) (
ag1 (m10++[(⟨(p21.i:Int),p17,p18,p19,p20⟩:Gapi_Place)]) m11 (p21.i:Int) (p17+1) p22 p19 (p20+1) line7 line8 (m12+1)
) (
j3 1
)
) (
j3 1
)
)
) (
zax (((p21.r:Int):Int) != 13) (
zax (((p21.r:Int):Int) != 10) (
ag1 (m10++[(⟨(p21.i:Int),p17,p18,p19,p20⟩:Gapi_Place)]) m11 (p21.i:Int) (p17+1) p22 p19 (p20+1) line7 line8 (m12+1)
) (
j3 1
)
) (
j3 1
)
)
) (
zax (((p21.r:Int):Int) != 13) (
zax (((p21.r:Int):Int) != 10) (
ag1 (m10++[(⟨(p21.i:Int),p17,p18,p19,p20⟩:Gapi_Place)]) m11 (p21.i:Int) (p17+1) p22 p19 (p20+1) line7 line8 (m12+1)
) (
j3 1
)
) (
j3 1
)
)
)
) (fun (width1:Int) =>
grd (I64 ((p21.i:Int)+1)) <|
grd (I64 (((p21.i:Int)+1) - width1)) <|
grd (m11.length+1≤2147483648) <|
grd (I64 ((p21.i:Int)+1)) <|
grd (I64 (p19+1)) <|
ag1 (m10++[(⟨(p21.i:Int),p17,p18,p19,p20⟩:Gapi_Place)]) (m11++[(⟨line7,((p21.i:Int)+1) - width1,width1,line8⟩:Gplace_ended)]) (p21.i:Int) (p17+1) p22 (p19+1) 0 ((p21.i:Int)+1) ((m10++[(⟨(p21.i:Int),p17,p18,p19,p20⟩:Gapi_Place)]).length:Int) (m12+1)
)
)
) (
j1 m10 m11 p16 p17 p18 p19 p20 line7 line8
)
def zeJ (s1:ByteArray):Option ((Option Gplace_Map)×Int) :=
zax (decide ((65536:Int)<(s1.size:Int))) (
some (none,3)
) (
zbr (fun (j1:(List Gapi_Place)→(List Gplace_ended)→Int→Int→Int→Int→Int→Int→Int→Option ((Option Gplace_Map)×Int)) =>
zaM (fun _ _ _ _ _ _ _ _ _ _=>none) (zdd s1 j1) zb4 ([]:List Gapi_Place) ([]:List Gplace_ended) 0 0 0 0 0 0 0 0
) (fun (m1:List Gapi_Place) (m2:List Gplace_ended) (p1:Int) (p2:Int) (p3:Int) (p4:Int) (p5:Int) (line1:Int) (line2:Int) =>
grd (m1.length+1≤2147483648) <|
grd (m2.length+1≤2147483648) <|
some ((some (⟨s1,m1++[(⟨(s1.size:Int),p2,p3,p4,p5⟩:Gapi_Place)],m2++[(⟨line1,(s1.size:Int),0,line2⟩:Gplace_ended)]⟩:Gplace_Map)),0)
)
)
theorem zm0 {s1:ByteArray} {r:((Option Gplace_Map)×Int)} (h:zeJ s1=some r):Fn Tryz.prog 45 [.string s1] [] (fun v0:Value=>.tuple #[v0,zI r.2]) (fun v0=>[zho zef zea 153 v0 r.1]):=by
 unfold zeJ at h
 refine Fn.intro Tryz.func45 rfl Tryz.ntmps45 (by simp) ?_
 intro w0 K
 refine zyG (zyR 2 rfl (zyN ?_))
 refine zf4 (β:=Unit) (l:=0) (fun _=>False) (fun _=>[]) (fun _=>[]) rfl ?_ ?_
 ·
  refine zaH (zyG (zyR 1 rfl (zbl rfl dc rfl Tryz.underlying9 (zaW rfl zcR (zyN ?_)))))
  refine zyB rfl h (fun h => ?_) (fun h => ?_)
  ·
   refine zyG (zyR 2 rfl (zyN (zaA (zai (zcl (by simp) (zck zef zea 153 ?_))))))
   cases h
   exact zaF (rs:=[.tmp 2,.tmp 3]) (.pointer none) (.inl rfl) Tryz.results45 (.cons (.tmp rfl) (.cons (.tmp rfl) .nil)) rfl (zad [0] kr rfl)
  refine zau (zaI ?_)
  obtain ⟨j1,hj1,h⟩:=zbO h
  refine zaY (β:=(List Gapi_Place)×(List Gplace_ended)×Int×Int×Int×Int×Int×Int×Int×Nat×Hd×Hd×Nat×Nat) 4 rfl (fun b=>j1 b.1 b.2.1 b.2.2.1 b.2.2.2.1 b.2.2.2.2.1 b.2.2.2.2.2.1 b.2.2.2.2.2.2.1 b.2.2.2.2.2.2.2.1 b.2.2.2.2.2.2.2.2.1=some r) (fun b=>[]) (fun b=>[(0,.string s1),(4,zP b.2.2.2.2.2.2.2.2.2.1),(5,zP b.2.2.2.2.2.2.2.2.2.2.2.2.1),(6,zP b.2.2.2.2.2.2.2.2.2.2.2.2.2)]) (fun b=>[cells b.2.2.2.2.2.2.2.2.2.1 [.string s1,b.2.2.2.2.2.2.2.2.2.2.1.v,b.2.2.2.2.2.2.2.2.2.2.2.1.v] 153,zv5 b.2.2.2.2.2.2.2.2.2.2.1.v b.1,zv4 b.2.2.2.2.2.2.2.2.2.2.2.1.v b.2.1,cells b.2.2.2.2.2.2.2.2.2.2.2.2.1 [zI b.2.2.1,zI b.2.2.2.1,zI b.2.2.2.2.1,zI b.2.2.2.2.2.1,zI b.2.2.2.2.2.2.1] 155,cells b.2.2.2.2.2.2.2.2.2.2.2.2.2 [zI b.2.2.2.2.2.2.2.1,zI 0,zI 0,zI b.2.2.2.2.2.2.2.2.1] 157]) (fun cut => ?_) ?_
  ·
   refine zyG (zyR 1 rfl ?_)
   refine zbb (v:=.agg #[.string s1,.slice none 0 0,.slice none 0 0]) (ps:=[(0,.tmp 13)]) rfl dc rfl (fun _=>by kernel_rfl) ?_
   refine zdQ rfl dc rfl (fun b4 => ?_)
   refine zyR 1 rfl (zyH ?_)
   refine zbb (v:=.agg #[zI 0,zI 0,zI 0,zI 0,zI 0]) (ps:=[]) rfl dc rfl (fun _=>by kernel_rfl) ?_
   refine zbg zuq rfl dc (fun b5 => ?_)
   refine zaU (k:=1) (vs:=[zI 0,zI 0,zI 0,zI 0,zI 0]) (l':=[zI 0,zI 0,zI 0,zI 0,zI 0]) zuD rfl rfl rfl rfl rfl (show _≤_ by simp) rfl rfl (zyH ?_)
   refine zbb (v:=.agg #[zI 0,zI 0,zI 0,zI 0]) (ps:=[]) rfl dc rfl (fun _=>by kernel_rfl) ?_
   refine zbg zup rfl dc (fun b6 => ?_)
   refine zaU (k:=2) (vs:=[zI 0,zI 0,zI 0,zI 0]) (l':=[zI 0,zI 0,zI 0,zI 0]) zll rfl rfl rfl rfl rfl (show _≤_ by simp) rfl rfl (zyN (zaH (zjM (zaI (cut (zyG (zyR 1 rfl ?_)))))))
   refine zej Tryz.underlying9 rfl dc rfl (fun b7 => ?_)
   refine zyN (zaG (zdR (enc:=zd2) (e:=155) (size:=5) ?_))
   refine zdR (enc:=zdo) (e:=157) (size:=4) ?_
   refine zbt (β:=Nat×(List Gapi_Place)×(List Gplace_ended)×Int×Int×Int×Int×Int×Int×Int×Nat×Hd×Hd) (fun b=>zaM (fun _ _ _ _ _ _ _ _ _ _=>none) (zdd s1 j1) b.1 b.2.1 b.2.2.1 b.2.2.2.1 b.2.2.2.2.1 b.2.2.2.2.2.1 b.2.2.2.2.2.2.1 b.2.2.2.2.2.2.2.1 b.2.2.2.2.2.2.2.2.1 b.2.2.2.2.2.2.2.2.2.1 b.2.2.2.2.2.2.2.2.2.2.1=some r) (fun b=>[]) (fun b=>[(0,.string s1),(4,zP b4),(5,zP b5),(6,zP b6),(19,zP b7)]) (fun b=>[cells b4 [.string s1,b.2.2.2.2.2.2.2.2.2.2.2.1.v,b.2.2.2.2.2.2.2.2.2.2.2.2.v] 153,zv5 b.2.2.2.2.2.2.2.2.2.2.2.1.v b.2.1,zv4 b.2.2.2.2.2.2.2.2.2.2.2.2.v b.2.2.1,cells b5 [zI b.2.2.2.1,zI b.2.2.2.2.1,zI b.2.2.2.2.2.1,zI b.2.2.2.2.2.2.1,zI b.2.2.2.2.2.2.2.1] 155,cells b6 [zI b.2.2.2.2.2.2.2.2.1,zI 0,zI 0,zI b.2.2.2.2.2.2.2.2.2.1] 157,obj b7 (.stringIter s1 (zfr s1 b.2.2.2.2.2.2.2.2.2.2.1))]) (fun b=>b.1) (zb4,([]:List Gapi_Place),([]:List Gplace_ended),0,0,0,0,0,0,0,0,Hd.nil,Hd.nil) (by exact h) rfl (zba rfl) (zad [0,4,5,1,2,3] kr rfl) ?_
   rintro ⟨n1,m10,m11,p16,p17,p18,p19,p20,line7,line8,m12,hd8,hd9⟩ h
   cases n1 with
   | zero=>exact zdG h
   | succ n1 =>
    obtain ⟨ag1,hag1⟩:∃ ag,ag=zaM (fun _ _ _ _ _ _ _ _ _ _=>none) (zdd s1 j1) n1:=⟨_,rfl⟩
    have h:zdd s1 j1 ag1 m10 m11 p16 p17 p18 p19 p20 line7 line8 m12=some r:=by rw [hag1]; exact h
    unfold zdd at h
    refine zyG ?_
    refine zeq (b:=decide (m12<(pcs s1.data.toList).length)) (fun hb2 => ?_) (fun hb2 => ?_)
    ·
     have h:=zg9 hb2 h
     obtain ⟨p21,hq1,h⟩:=zbx h
     refine zeV (k:=5) (m:=m12) (p:=p21) rfl dc rfl rfl hq1 (zaJ rfl dc rfl rfl (zyN (zaH (zbd rfl (zau (zaI (zaG ?_)))))))
     obtain ⟨j2,hj2,h⟩:=zbO h
     refine zaY (β:=Int×Hd) 6 rfl (fun b=>j2 b.1=some r) (fun b=>[]) (fun b=>[(0,.string s1),(4,zP b4),(5,zP b5),(6,zP b6),(7,zI (p21.i:Int)),(8,.int .i32 (p21.r:Int)),(19,zP b7)]) (fun b=>[cells b4 [.string s1,b.2.v,hd9.v] 153,zv5 b.2.v (m10++[(⟨(p21.i:Int),p17,p18,p19,p20⟩:Gapi_Place)]),zv4 hd9.v m11,cells b5 [zI (p21.i:Int),zI (p17+1),zI b.1,zI p19,zI (p20+1)] 155,cells b6 [zI line7,zI 0,zI 0,zI line8] 157,obj b7 (.stringIter s1 (zfr s1 (m12+1)))]) (fun cut => ?_) ?_
     ·
      refine zyG (zaJ rfl dc rfl rfl (zaJ rfl dc rfl rfl (zyR 2 rfl (zyH (zyR 1 rfl (zac zoS rfl dc rfl (show _=0 from rfl) ?_))))))
      refine zbe (k:=3) (l':=[zI (p21.i:Int),zI p17,zI p18,zI p19,zI p20]) zf9 rfl rfl rfl rfl rfl (fun _ _=>rfl) rfl ?_
      refine zyN (zaH ?_)
      obtain ⟨hg1,h⟩:=zbw h
      refine zfz 1 ?_
      refine let vals1:(Nat×Hd)→List (Nat×Nat×Value):=fun b=>[(0,26,zP b4),(1,27,zP b4),(2,28,zP b4),(3,29,.pointer (some ⟨b4,1,none⟩)),(4,30,hd8.v),(5,31,.agg #[zI (p21.i:Int),zI p17,zI p18,zI p19,zI p20]),(6,32,.slice (some ⟨b.1,0,none⟩) 1 1),(7,33,b.2.v)]; let LL1:(Nat→Prop)→(Nat×Hd)→List Asn:=fun D b=>[cells b4 [.string s1,hd8.v,hd9.v] 153,eD D (zv5 hd8.v m10) [(7,zv5 b.2.v (m10++[(⟨(p21.i:Int),p17,p18,p19,p20⟩:Gapi_Place)]))],zv4 hd9.v m11,cells b5 [zI (p21.i:Int),zI p17,zI p18,zI p19,zI p20] 155,cells b6 [zI line7,zI 0,zI 0,zI line8] 157,obj b7 (.stringIter s1 (zfr s1 (m12+1))),eD D emp [(6,cells b.1 [zI (p21.i:Int),zI p17,zI p18,zI p19,zI p20] 155)]]; ?_
      have zhq:zyQ [6,7] LL1:=fun i h D b=>zab rfl (zab (zja rfl h) (zab rfl (zab rfl (zab rfl (zab rfl (zab (zja rfl h) rfl))))))
      refine zdB (β:=Nat×Hd) 8 ((0:Nat),Hd.nil) vals1 LL1 mixed kr kr dc (fun _=>rfl) (zab rfl (zab zbN (zeH (zab zbN rfl)))) (zlc zhq (fun _=>rfl) (fun _=>rfl) 2 0 (fun _=>rfl) rfl (zyq zhq rfl (fun _=>rfl) (fun _=>rfl) ?_ (zyq zhq rfl (fun _=>rfl) (fun _=>rfl) ?_ (zgj zhq rfl (fun _=>rfl) (fun _=>rfl) ?_ (zgj zhq rfl (fun _=>rfl) (fun _=>rfl) ?_ (zat ?_ (zat ?_ DrawG.nil))))))) ?_
      · exact fun D ⟨b8,hd11⟩ n d c u i=>zar rfl dc (zaa (m:=1) u rfl (d 1 dc)) (zaf 2 u i rfl)
      · exact fun D ⟨b8,hd11⟩ n d c u i=>zac zih rfl dc (zaa (m:=2) u rfl (d 2 dc)) (show _=1 from rfl) (zaf 3 u i rfl)
      · exact fun D ⟨b8,hd11⟩ n d c u i=>⟨_,(zab rfl (zab (zag (fun hD=>n (c 7 _ rfl hD 4 dc)) zaj) (znG rfl))),zan (k:=0) zqg rfl dc (zaa (m:=3) u rfl (d 3 dc)) rfl rfl (zaf 4 u i rfl)⟩
      · exact fun D ⟨b8,hd11⟩ n d c u i=>⟨_,(zab rfl (zab (zag (fun hD=>n (c 6 _ rfl (c 7 _ rfl hD 6 dc) 5 dc)) zaj) (zeH (zab (zag (fun hD=>n (c 6 _ rfl hD 5 dc)) zaj) rfl)))),za5 (k:=3) (cs:=[zI (p21.i:Int),zI p17,zI p18,zI p19,zI p20]) zsN rfl dc (za8 (by rfl) rfl) rfl rfl rfl (zaf 5 u i rfl)⟩
      ·
       intro D b hn hd hcl
       obtain ⟨zb0,hd11⟩:=b
       refine zaK (zab rfl (zab (zag (fun hD=>hn (hcl 7 _ rfl hD 6 dc)) zaj) (zeH (zab (zag hn zaj) rfl)))) ?_
       refine zaR (cs:=[zI (p21.i:Int),zI p17,zI p18,zI p19,zI p20]) (te:=155) (ps:=[(0,.tmp 31)]) rfl dc (evP.cons (zaa (m:=5) rfl rfl (hd 5 dc)) evP.nil) (fun _=>by kernel_rfl) (fun b8 => ?_)
       refine zcS 6 rfl rfl ?_
       exact zaQ (b:=(zb0,hd11)) (b8,hd11) 6 (by rfl) (by rfl) rfl (zta (zao (fun hD=>absurd hD hn) (zao (fun _=>rfl) rfl))) (zab rfl (zab ((zam (by rfl)).trans (zag (fun hD=>hn (hcl 7 _ rfl hD 6 dc)) zaj)) (zeH (zab (zaE (Or.inr rfl) rfl) rfl))))
      ·
       intro D b hn hd hcl
       obtain ⟨b8,zb1⟩:=b
       refine zaK (zab rfl (zab (zag hn zaj) (zeH (zab (zaE (hd 6 dc) rfl) rfl)))) ?_
       refine zaZ (k:=1) (k2:=6) (ys:=[(⟨(p21.i:Int),p17,p18,p19,p20⟩:Gapi_Place)]) Tryz.underlying150 zs3 zf1 zf0 rfl dc (zaa (m:=4) rfl rfl (hd 4 dc)) (zaa (m:=6) rfl rfl (hd 6 dc)) rfl rfl rfl rfl hg1 (fun v1 => ?_)
       refine zbo (k:=1) rfl (fun hd11 he1 => ?_)
       subst he1
       exact zaQ (b:=(b8,zb1)) (b8,hd11) 7 (by rfl) (by rfl) rfl (zjo (zao (fun hD=>absurd hD hn) rfl)) (zab rfl (zab (zaE (Or.inr rfl) rfl) (zeH (zab ((zam (by rfl)).trans (zaE (hd 6 dc) rfl)) rfl))))
      intro D b hall
      obtain ⟨b8,hd11⟩:=b
      refine zaK (zab rfl (zab (zaE (hall 7 dc) rfl) (zeH (zab (zaE (hall 6 dc) rfl) rfl)))) (zar rfl dc rfl (zac zih rfl dc rfl (show _=1 from rfl) ?_))
      refine zbe (k:=0) (l':=[.string s1,hd11.v,hd9.v]) zsI rfl rfl rfl rfl rfl (fun _ _=>rfl) rfl ?_
      refine zyH (zac zoR rfl dc rfl (show _=1 from rfl) (zan (k:=3) zbS rfl dc rfl rfl rfl ?_))
      obtain ⟨hg2,h⟩:=zbw h
      refine zaW rfl (zaV (r:=p17+1) (IntWalk.i64_in _ hg2)) (zac zoR rfl dc rfl (show _=1 from rfl) ?_)
      refine zbe (k:=3) (l':=[zI (p21.i:Int),zI (p17+1),zI p18,zI p19,zI p20]) zf9 rfl rfl rfl rfl rfl (fun _ _=>rfl) rfl ?_
      refine zyH (zac zjH rfl dc rfl (show _=2 from rfl) (zan (k:=3) zbS rfl dc rfl rfl rfl ?_))
      obtain ⟨hg3,h⟩:=zbw h
      refine zaW rfl (zaV (r:=p18+1) (IntWalk.i64_in _ hg3)) (zac zjH rfl dc rfl (show _=2 from rfl) ?_)
      refine zbe (k:=3) (l':=[zI (p21.i:Int),zI (p17+1),zI (p18+1),zI p19,zI p20]) zf9 rfl rfl rfl rfl rfl (fun _ _=>rfl) rfl ?_
      refine zyH (zac zml rfl dc rfl (show _=4 from rfl) (zan (k:=3) zbS rfl dc rfl rfl rfl ?_))
      obtain ⟨hg4,h⟩:=zbw h
      refine zaW rfl (zaV (r:=p20+1) (IntWalk.i64_in _ hg4)) (zac zml rfl dc rfl (show _=4 from rfl) ?_)
      refine zbe (k:=3) (l':=[zI (p21.i:Int),zI (p17+1),zI (p18+1),zI p19,zI (p20+1)]) zf9 rfl rfl rfl rfl rfl (fun _ _=>rfl) rfl ?_
      refine zyN (cut (zyG (zyR 1 rfl (zaW rfl zeg (zyN ?_)))))
      refine zyB rfl h (fun h => ?_) (fun h => ?_)
      ·
       refine zaB (zac zjH rfl dc rfl (show _=2 from rfl) (zan (k:=3) zbS rfl dc rfl rfl rfl ?_))
       obtain ⟨hg5,h⟩:=zbw h
       refine zaW rfl (zaV (r:=(p18+1)+1) (IntWalk.i64_in _ hg5)) (zac zjH rfl dc rfl (show _=2 from rfl) ?_)
       refine zbe (k:=3) (l':=[zI (p21.i:Int),zI (p17+1),zI ((p18+1)+1),zI p19,zI (p20+1)]) zf9 rfl rfl rfl rfl rfl (fun _ _=>rfl) rfl ?_
       refine zaX ?_
       exact zaq ((p18+1)+1,hd11) h rfl (zba rfl) (zad [0,1,2,3,4,5] kr rfl)
      refine zau ?_
      exact zaq (p18+1,hd11) h rfl (zba rfl) (zad [0,1,2,3,4,5] kr rfl)
     rintro ⟨p22,hd10⟩ h
     rw [hj2] at h
     obtain ⟨j3,hj3,h⟩:=zbO h
     refine zaY (β:=Int) 1 rfl (fun b=>j3 b=some r) (fun b=>[]) (fun b=>[(0,.string s1),(4,zP b4),(5,zP b5),(6,zP b6),(7,zI (p21.i:Int)),(9,zI b),(19,zP b7)]) (fun b=>[cells b4 [.string s1,hd10.v,hd9.v] 153,zv5 hd10.v (m10++[(⟨(p21.i:Int),p17,p18,p19,p20⟩:Gapi_Place)]),zv4 hd9.v m11,cells b5 [zI (p21.i:Int),zI (p17+1),zI p22,zI p19,zI (p20+1)] 155,cells b6 [zI line7,zI 0,zI 0,zI line8] 157,obj b7 (.stringIter s1 (zfr s1 (m12+1)))]) (fun cut => ?_) ?_
     ·
      refine zyG (zyR 1 rfl (zyN (cut (zaG (zyG (zyR 1 rfl (zaW rfl za1 (zyR 1 rfl ?_))))))))
      refine zyS (s:=57) rfl h (fun h => ?_) (fun h => ?_)
      ·
       refine zyR 1 rfl ?_
       obtain ⟨hg6,h⟩:=zbw h
       refine zaW rfl (zaV (r:=(p21.i:Int)+1) (IntWalk.i64_in _ hg6)) (zyR 1 rfl (zbl rfl dc rfl Tryz.underlying9 (zaW rfl zbA (zyR 2 rfl ?_))))
       refine zyS (s:=64) rfl h (fun h => ?_) (fun h => ?_)
       ·
        refine zyR 2 rfl ?_
        obtain ⟨hg7,h⟩:=zbw h
        refine zaW rfl (zaV (r:=(p21.i:Int)+1) (IntWalk.i64_in _ hg7)) ?_
        obtain ⟨c1,hq2,h⟩:=zbx h
        refine zcb rfl dc rfl rfl (za2 Tryz.underlying9 hq2) (zaW rfl za1 (zyR 2 rfl (zyN ?_)))
        refine zyB rfl h (fun h => ?_) (fun h => ?_)
        ·
         refine za9 (zcH dc (zap (zaz ?_)))
         subst hag1
         exact za4 (n1,m10++[(⟨(p21.i:Int),p17,p18,p19,p20⟩:Gapi_Place)],m11,(p21.i:Int),p17+1,p22,p19,p20+1,line7,line8,m12+1,hd10,hd9) h (Nat.lt_succ_self _) rfl (zba rfl) (zad [0,1,2,3,4,5] kr rfl)
        refine zyG (zyR 1 rfl (zaW rfl za1 (zyR 1 rfl ?_)))
        refine zyS (s:=74) rfl h (fun h => ?_) (fun h => ?_)
        ·
         refine zyR 1 rfl (zaW rfl zcR (zyR 2 rfl ?_))
         refine zyS (s:=78) rfl h (fun h => ?_) (fun h => ?_)
         ·
          refine zyR 2 rfl ?_
          obtain ⟨hg8,h⟩:=zbw h
          refine zaW rfl (zcd (r:=(p21.i:Int) - 1) (IntWalk.i64_in _ hg8)) ?_
          obtain ⟨c2,hq3,h⟩:=zbx h
          refine zcb rfl dc rfl rfl (za2 Tryz.underlying9 hq3) (zaW rfl za1 (zyR 2 rfl (zyN ?_)))
          refine zyB rfl h (fun h => ?_) (fun h => ?_)
          ·
           refine zaB (zyR 1 rfl (zaX (zah ?_)))
           exact zaq 2 h rfl (zba rfl) (zad [0,1,2,3,4,5] kr rfl)
          refine zyG (zyR 1 rfl (zaW rfl zbP (zyR 1 rfl ?_)))
          refine zyS (s:=88) rfl h (fun h => ?_) (fun h => ?_)
          ·
           refine zyR 1 rfl (zaW rfl zbP (zyR 2 rfl (zyN ?_)))
           refine zyB rfl h (fun h => ?_) (fun h => ?_)
           ·
            refine za9 (zcH dc (zap (zaz ?_)))
            subst hag1
            exact za4 (n1,m10++[(⟨(p21.i:Int),p17,p18,p19,p20⟩:Gapi_Place)],m11,(p21.i:Int),p17+1,p22,p19,p20+1,line7,line8,m12+1,hd10,hd9) h (Nat.lt_succ_self _) rfl (zba rfl) (zad [0,1,2,3,4,5] kr rfl)
           refine zau (zah ?_)
           exact zaq 1 h rfl (zba rfl) (zad [0,1,2,3,4,5] kr rfl)
          refine zyR 4 rfl (zyN (zaT rfl (zau (zah ?_))))
          exact zaq 1 h rfl (zba rfl) (zad [0,1,2,3,4,5] kr rfl)
         refine zyR 7 rfl (zyN (zaT rfl (zyG (zyR 1 rfl (zaW rfl zbP ?_)))))
         refine zyR 1 rfl ?_
         refine zyS (s:=88) rfl h (fun h => ?_) (fun h => ?_)
         ·
          refine zyR 1 rfl (zaW rfl zbP (zyR 2 rfl (zyN ?_)))
          refine zyB rfl h (fun h => ?_) (fun h => ?_)
          ·
           refine za9 (zcH dc (zap (zaz ?_)))
           subst hag1
           exact za4 (n1,m10++[(⟨(p21.i:Int),p17,p18,p19,p20⟩:Gapi_Place)],m11,(p21.i:Int),p17+1,p22,p19,p20+1,line7,line8,m12+1,hd10,hd9) h (Nat.lt_succ_self _) rfl (zba rfl) (zad [0,1,2,3,4,5] kr rfl)
          refine zau (zah ?_)
          exact zaq 1 h rfl (zba rfl) (zad [0,1,2,3,4,5] kr rfl)
         refine zyR 4 rfl (zyN (zaT rfl (zau (zah ?_))))
         exact zaq 1 h rfl (zba rfl) (zad [0,1,2,3,4,5] kr rfl)
        refine zyR 11 rfl (zyN (zaT rfl ?_))
        refine zyG (zyR 1 rfl (zaW rfl zbP (zyR 1 rfl ?_)))
        refine zyS (s:=88) rfl h (fun h => ?_) (fun h => ?_)
        ·
         refine zyR 1 rfl (zaW rfl zbP (zyR 2 rfl (zyN ?_)))
         refine zyB rfl h (fun h => ?_) (fun h => ?_)
         ·
          refine za9 (zcH dc (zap (zaz ?_)))
          subst hag1
          exact za4 (n1,m10++[(⟨(p21.i:Int),p17,p18,p19,p20⟩:Gapi_Place)],m11,(p21.i:Int),p17+1,p22,p19,p20+1,line7,line8,m12+1,hd10,hd9) h (Nat.lt_succ_self _) rfl (zba rfl) (zad [0,1,2,3,4,5] kr rfl)
         refine zau (zah ?_)
         exact zaq 1 h rfl (zba rfl) (zad [0,1,2,3,4,5] kr rfl)
        refine zyR 4 rfl (zyN (zaT rfl (zau (zah ?_))))
        exact zaq 1 h rfl (zba rfl) (zad [0,1,2,3,4,5] kr rfl)
       refine zyR 7 rfl (zyN (zaT rfl (zyG (zyR 1 rfl (zaW rfl za1 ?_)))))
       refine zyR 1 rfl ?_
       refine zyS (s:=74) rfl h (fun h => ?_) (fun h => ?_)
       ·
        refine zyR 1 rfl (zaW rfl zcR (zyR 2 rfl ?_))
        refine zyS (s:=78) rfl h (fun h => ?_) (fun h => ?_)
        ·
         refine zyR 2 rfl ?_
         obtain ⟨hg9,h⟩:=zbw h
         refine zaW rfl (zcd (r:=(p21.i:Int) - 1) (IntWalk.i64_in _ hg9)) ?_
         obtain ⟨c3,hq4,h⟩:=zbx h
         refine zcb rfl dc rfl rfl (za2 Tryz.underlying9 hq4) (zaW rfl za1 (zyR 2 rfl (zyN ?_)))
         refine zyB rfl h (fun h => ?_) (fun h => ?_)
         ·
          refine zaB (zyR 1 rfl (zaX (zah ?_)))
          exact zaq 2 h rfl (zba rfl) (zad [0,1,2,3,4,5] kr rfl)
         refine zyG (zyR 1 rfl (zaW rfl zbP (zyR 1 rfl ?_)))
         refine zyS (s:=88) rfl h (fun h => ?_) (fun h => ?_)
         ·
          refine zyR 1 rfl (zaW rfl zbP (zyR 2 rfl (zyN ?_)))
          refine zyB rfl h (fun h => ?_) (fun h => ?_)
          ·
           refine za9 (zcH dc (zap (zaz ?_)))
           subst hag1
           exact za4 (n1,m10++[(⟨(p21.i:Int),p17,p18,p19,p20⟩:Gapi_Place)],m11,(p21.i:Int),p17+1,p22,p19,p20+1,line7,line8,m12+1,hd10,hd9) h (Nat.lt_succ_self _) rfl (zba rfl) (zad [0,1,2,3,4,5] kr rfl)
          refine zau (zah ?_)
          exact zaq 1 h rfl (zba rfl) (zad [0,1,2,3,4,5] kr rfl)
         refine zyR 4 rfl (zyN (zaT rfl (zau (zah ?_))))
         exact zaq 1 h rfl (zba rfl) (zad [0,1,2,3,4,5] kr rfl)
        refine zyR 7 rfl (zyN (zaT rfl (zyG (zyR 1 rfl (zaW rfl zbP ?_)))))
        refine zyR 1 rfl ?_
        refine zyS (s:=88) rfl h (fun h => ?_) (fun h => ?_)
        ·
         refine zyR 1 rfl (zaW rfl zbP (zyR 2 rfl (zyN ?_)))
         refine zyB rfl h (fun h => ?_) (fun h => ?_)
         ·
          refine za9 (zcH dc (zap (zaz ?_)))
          subst hag1
          exact za4 (n1,m10++[(⟨(p21.i:Int),p17,p18,p19,p20⟩:Gapi_Place)],m11,(p21.i:Int),p17+1,p22,p19,p20+1,line7,line8,m12+1,hd10,hd9) h (Nat.lt_succ_self _) rfl (zba rfl) (zad [0,1,2,3,4,5] kr rfl)
         refine zau (zah ?_)
         exact zaq 1 h rfl (zba rfl) (zad [0,1,2,3,4,5] kr rfl)
        refine zyR 4 rfl (zyN (zaT rfl (zau (zah ?_))))
        exact zaq 1 h rfl (zba rfl) (zad [0,1,2,3,4,5] kr rfl)
       refine zyR 11 rfl (zyN (zaT rfl ?_))
       refine zyG (zyR 1 rfl (zaW rfl zbP (zyR 1 rfl ?_)))
       refine zyS (s:=88) rfl h (fun h => ?_) (fun h => ?_)
       ·
        refine zyR 1 rfl (zaW rfl zbP (zyR 2 rfl (zyN ?_)))
        refine zyB rfl h (fun h => ?_) (fun h => ?_)
        ·
         refine za9 (zcH dc (zap (zaz ?_)))
         subst hag1
         exact za4 (n1,m10++[(⟨(p21.i:Int),p17,p18,p19,p20⟩:Gapi_Place)],m11,(p21.i:Int),p17+1,p22,p19,p20+1,line7,line8,m12+1,hd10,hd9) h (Nat.lt_succ_self _) rfl (zba rfl) (zad [0,1,2,3,4,5] kr rfl)
        refine zau (zah ?_)
        exact zaq 1 h rfl (zba rfl) (zad [0,1,2,3,4,5] kr rfl)
       refine zyR 4 rfl (zyN (zaT rfl (zau (zah ?_))))
       exact zaq 1 h rfl (zba rfl) (zad [0,1,2,3,4,5] kr rfl)
      refine zyR 14 rfl ?_
      refine zyN (zaT rfl (zyG (zyR 1 rfl (zaW rfl za1 (zyR 1 rfl ?_)))))
      refine zyS (s:=74) rfl h (fun h => ?_) (fun h => ?_)
      ·
       refine zyR 1 rfl (zaW rfl zcR (zyR 2 rfl ?_))
       refine zyS (s:=78) rfl h (fun h => ?_) (fun h => ?_)
       ·
        refine zyR 2 rfl ?_
        obtain ⟨hg10,h⟩:=zbw h
        refine zaW rfl (zcd (r:=(p21.i:Int) - 1) (IntWalk.i64_in _ hg10)) ?_
        obtain ⟨c4,hq5,h⟩:=zbx h
        refine zcb rfl dc rfl rfl (za2 Tryz.underlying9 hq5) (zaW rfl za1 (zyR 2 rfl (zyN ?_)))
        refine zyB rfl h (fun h => ?_) (fun h => ?_)
        ·
         refine zaB (zyR 1 rfl (zaX (zah ?_)))
         exact zaq 2 h rfl (zba rfl) (zad [0,1,2,3,4,5] kr rfl)
        refine zyG (zyR 1 rfl (zaW rfl zbP (zyR 1 rfl ?_)))
        refine zyS (s:=88) rfl h (fun h => ?_) (fun h => ?_)
        ·
         refine zyR 1 rfl (zaW rfl zbP (zyR 2 rfl (zyN ?_)))
         refine zyB rfl h (fun h => ?_) (fun h => ?_)
         ·
          refine za9 (zcH dc (zap (zaz ?_)))
          subst hag1
          exact za4 (n1,m10++[(⟨(p21.i:Int),p17,p18,p19,p20⟩:Gapi_Place)],m11,(p21.i:Int),p17+1,p22,p19,p20+1,line7,line8,m12+1,hd10,hd9) h (Nat.lt_succ_self _) rfl (zba rfl) (zad [0,1,2,3,4,5] kr rfl)
         refine zau (zah ?_)
         exact zaq 1 h rfl (zba rfl) (zad [0,1,2,3,4,5] kr rfl)
        refine zyR 4 rfl (zyN (zaT rfl (zau (zah ?_))))
        exact zaq 1 h rfl (zba rfl) (zad [0,1,2,3,4,5] kr rfl)
       refine zyR 7 rfl (zyN (zaT rfl (zyG (zyR 1 rfl (zaW rfl zbP ?_)))))
       refine zyR 1 rfl ?_
       refine zyS (s:=88) rfl h (fun h => ?_) (fun h => ?_)
       ·
        refine zyR 1 rfl (zaW rfl zbP (zyR 2 rfl (zyN ?_)))
        refine zyB rfl h (fun h => ?_) (fun h => ?_)
        ·
         refine za9 (zcH dc (zap (zaz ?_)))
         subst hag1
         exact za4 (n1,m10++[(⟨(p21.i:Int),p17,p18,p19,p20⟩:Gapi_Place)],m11,(p21.i:Int),p17+1,p22,p19,p20+1,line7,line8,m12+1,hd10,hd9) h (Nat.lt_succ_self _) rfl (zba rfl) (zad [0,1,2,3,4,5] kr rfl)
        refine zau (zah ?_)
        exact zaq 1 h rfl (zba rfl) (zad [0,1,2,3,4,5] kr rfl)
       refine zyR 4 rfl (zyN (zaT rfl (zau (zah ?_))))
       exact zaq 1 h rfl (zba rfl) (zad [0,1,2,3,4,5] kr rfl)
      refine zyR 11 rfl (zyN (zaT rfl ?_))
      refine zyG (zyR 1 rfl (zaW rfl zbP (zyR 1 rfl ?_)))
      refine zyS (s:=88) rfl h (fun h => ?_) (fun h => ?_)
      ·
       refine zyR 1 rfl (zaW rfl zbP (zyR 2 rfl (zyN ?_)))
       refine zyB rfl h (fun h => ?_) (fun h => ?_)
       ·
        refine za9 (zcH dc (zap (zaz ?_)))
        subst hag1
        exact za4 (n1,m10++[(⟨(p21.i:Int),p17,p18,p19,p20⟩:Gapi_Place)],m11,(p21.i:Int),p17+1,p22,p19,p20+1,line7,line8,m12+1,hd10,hd9) h (Nat.lt_succ_self _) rfl (zba rfl) (zad [0,1,2,3,4,5] kr rfl)
       refine zau (zah ?_)
       exact zaq 1 h rfl (zba rfl) (zad [0,1,2,3,4,5] kr rfl)
      refine zyR 4 rfl (zyN (zaT rfl (zau (zah ?_))))
      exact zaq 1 h rfl (zba rfl) (zad [0,1,2,3,4,5] kr rfl)
     rintro width1 h
     rw [hj3] at h
     refine zyG (zyR 1 rfl ?_)
     obtain ⟨hg11,h⟩:=zbw h
     refine zaW rfl (zaV (r:=(p21.i:Int)+1) (IntWalk.i64_in _ hg11)) (zyR 1 rfl ?_)
     obtain ⟨hg12,h⟩:=zbw h
     refine zaW rfl (zcd (r:=((p21.i:Int)+1) - width1) (IntWalk.i64_in _ hg12)) (zac zjG rfl dc rfl (show _=0 from rfl) (zac zeu rfl dc rfl (show _=1 from rfl) ?_))
     refine zbe (k:=4) (l':=[zI line7,zI (((p21.i:Int)+1) - width1),zI 0,zI line8]) zf9 rfl rfl rfl rfl rfl (fun _ _=>rfl) rfl ?_
     refine zyH (zyR 1 rfl (zac zmk rfl dc rfl (show _=2 from rfl) ?_))
     refine zbe (k:=4) (l':=[zI line7,zI (((p21.i:Int)+1) - width1),zI width1,zI line8]) zf9 rfl rfl rfl rfl rfl (fun _ _=>rfl) rfl ?_
     refine zyN (zaH ?_)
     obtain ⟨hg13,h⟩:=zbw h
     refine zfz 1 ?_
     refine let vals2:(Nat×Hd)→List (Nat×Nat×Value):=fun b=>[(0,100,zP b4),(1,101,zP b4),(2,102,zP b4),(3,103,.pointer (some ⟨b4,2,none⟩)),(4,104,hd9.v),(5,105,.agg #[zI line7,zI (((p21.i:Int)+1) - width1),zI width1,zI line8]),(6,106,.slice (some ⟨b.1,0,none⟩) 1 1),(7,107,b.2.v)]; let LL2:(Nat→Prop)→(Nat×Hd)→List Asn:=fun D b=>[cells b4 [.string s1,hd10.v,hd9.v] 153,zv5 hd10.v (m10++[(⟨(p21.i:Int),p17,p18,p19,p20⟩:Gapi_Place)]),eD D (zv4 hd9.v m11) [(7,zv4 b.2.v (m11++[(⟨line7,((p21.i:Int)+1) - width1,width1,line8⟩:Gplace_ended)]))],cells b5 [zI (p21.i:Int),zI (p17+1),zI p22,zI p19,zI (p20+1)] 155,cells b6 [zI line7,zI (((p21.i:Int)+1) - width1),zI width1,zI line8] 157,obj b7 (.stringIter s1 (zfr s1 (m12+1))),eD D emp [(6,cells b.1 [zI line7,zI (((p21.i:Int)+1) - width1),zI width1,zI line8] 157)]]; ?_
     refine zdB (β:=Nat×Hd) 8 ((0:Nat),Hd.nil) vals2 LL2 mixed kr kr dc (fun _=>rfl) (zek (zab zbN (zcK (zab zbN rfl)))) (zat ?_ (zat ?_ (zat ?_ (zat ?_ (zat ?_ (zat ?_ (zat ?_ (zat ?_ DrawG.nil)))))))) ?_
     ·
      intro D b hn hd hcl
      obtain ⟨b9,hd12⟩:=b
      refine zaK (zhd rfl) (zfV rfl dc (za8 (by rfl) rfl) ?_)
      exact zaQ (b:=(b9,hd12)) (b9,hd12) 0 (by rfl) (by rfl) rfl (zhe rfl) (zek (zab (zam (by rfl)) (zcK (zab (zam (by rfl)) rfl))))
     ·
      intro D b hn hd hcl
      obtain ⟨b9,hd12⟩:=b
      refine zaK (zek (zab (zag (fun hD=>hn (hcl 2 _ rfl (hcl 3 _ rfl (hcl 4 _ rfl (hcl 7 _ rfl hD 4 dc) 3 dc) 2 dc) 1 dc)) zaj) (zeH rfl))) ?_
      refine zfV rfl dc (za8 (by rfl) rfl) ?_
      exact zaQ (b:=(b9,hd12)) (b9,hd12) 1 (by rfl) (by rfl) rfl (zhe rfl) (zek (zab ((zam (by rfl)).trans (zag (fun hD=>hn (hcl 2 _ rfl (hcl 3 _ rfl (hcl 4 _ rfl (hcl 7 _ rfl hD 4 dc) 3 dc) 2 dc) 1 dc)) zaj)) (zcK (zab (zam (by rfl)) rfl))))
     ·
      intro D b hn hd hcl
      obtain ⟨b9,hd12⟩:=b
      refine zaK (zek (zab (zag (fun hD=>hn (hcl 3 _ rfl (hcl 4 _ rfl (hcl 7 _ rfl hD 4 dc) 3 dc) 2 dc)) zaj) (zeH rfl))) ?_
      refine zar rfl dc (zaa (m:=1) rfl rfl (hd 1 dc)) ?_
      exact zaQ (b:=(b9,hd12)) (b9,hd12) 2 (by rfl) (by rfl) rfl (zhe rfl) (zek (zab ((zam (by rfl)).trans (zag (fun hD=>hn (hcl 3 _ rfl (hcl 4 _ rfl (hcl 7 _ rfl hD 4 dc) 3 dc) 2 dc)) zaj)) (zcK (zab (zam (by rfl)) rfl))))
     ·
      intro D b hn hd hcl
      obtain ⟨b9,hd12⟩:=b
      refine zaK (zek (zab (zag (fun hD=>hn (hcl 4 _ rfl (hcl 7 _ rfl hD 4 dc) 3 dc)) zaj) (zeH rfl))) ?_
      refine zac zfl rfl dc (zaa (m:=2) rfl rfl (hd 2 dc)) (show _=2 from rfl) ?_
      exact zaQ (b:=(b9,hd12)) (b9,hd12) 3 (by rfl) (by rfl) rfl (zhe rfl) (zek (zab ((zam (by rfl)).trans (zag (fun hD=>hn (hcl 4 _ rfl (hcl 7 _ rfl hD 4 dc) 3 dc)) zaj)) (zcK (zab (zam (by rfl)) rfl))))
     ·
      intro D b hn hd hcl
      obtain ⟨b9,hd12⟩:=b
      refine zaK (zek (zab (zag (fun hD=>hn (hcl 7 _ rfl hD 4 dc)) zaj) (zeH rfl))) ?_
      refine zan (k:=0) zjd rfl dc (zaa (m:=3) rfl rfl (hd 3 dc)) rfl rfl ?_
      exact zaQ (b:=(b9,hd12)) (b9,hd12) 4 (by rfl) (by rfl) rfl (zhe rfl) (zek (zab ((zam (by rfl)).trans (zag (fun hD=>hn (hcl 7 _ rfl hD 4 dc)) zaj)) (zcK (zab (zam (by rfl)) rfl))))
     ·
      intro D b hn hd hcl
      obtain ⟨b9,hd12⟩:=b
      refine zaK (zek (zab (zag (fun hD=>hn (hcl 6 _ rfl (hcl 7 _ rfl hD 6 dc) 5 dc)) zaj) (zcK (zab (zag (fun hD=>hn (hcl 6 _ rfl hD 5 dc)) zaj) rfl)))) ?_
      refine za5 (k:=4) (cs:=[zI line7,zI (((p21.i:Int)+1) - width1),zI width1,zI line8]) zsM rfl dc (za8 (by rfl) rfl) rfl rfl rfl ?_
      exact zaQ (b:=(b9,hd12)) (b9,hd12) 5 (by rfl) (by rfl) rfl (zhe rfl) (zek (zab ((zam (by rfl)).trans (zag (fun hD=>hn (hcl 6 _ rfl (hcl 7 _ rfl hD 6 dc) 5 dc)) zaj)) (zcK (zab ((zam (by rfl)).trans (zag (fun hD=>hn (hcl 6 _ rfl hD 5 dc)) zaj)) rfl))))
     ·
      intro D b hn hd hcl
      obtain ⟨zb0,hd12⟩:=b
      refine zaK (zek (zab (zag (fun hD=>hn (hcl 7 _ rfl hD 6 dc)) zaj) (zcK (zab (zag hn zaj) rfl)))) ?_
      refine zaR (cs:=[zI line7,zI (((p21.i:Int)+1) - width1),zI width1,zI line8]) (te:=157) (ps:=[(0,.tmp 105)]) rfl dc (evP.cons (zaa (m:=5) rfl rfl (hd 5 dc)) evP.nil) (fun _=>by kernel_rfl) (fun b9 => ?_)
      refine zcS 6 rfl rfl ?_
      exact zaQ (b:=(zb0,hd12)) (b9,hd12) 6 (by rfl) (by rfl) rfl (zta (zao (fun hD=>absurd hD hn) (zao (fun _=>rfl) rfl))) (zek (zab ((zam (by rfl)).trans (zag (fun hD=>hn (hcl 7 _ rfl hD 6 dc)) zaj)) (zcK (zab (zaE (Or.inr rfl) rfl) rfl))))
     ·
      intro D b hn hd hcl
      obtain ⟨b9,zb1⟩:=b
      refine zaK (zek (zab (zag hn zaj) (zcK (zab (zaE (hd 6 dc) rfl) rfl)))) ?_
      refine zaZ (k:=2) (k2:=6) (ys:=[(⟨line7,((p21.i:Int)+1) - width1,width1,line8⟩:Gplace_ended)]) Tryz.underlying151 zs0 zcP zfy rfl dc (zaa (m:=4) rfl rfl (hd 4 dc)) (zaa (m:=6) rfl rfl (hd 6 dc)) rfl rfl rfl rfl hg13 (fun v2 => ?_)
      refine zbo (k:=2) rfl (fun hd12 he2 => ?_)
      subst he2
      exact zaQ (b:=(b9,zb1)) (b9,hd12) 7 (by rfl) (by rfl) rfl (zjo (zao (fun hD=>absurd hD hn) rfl)) (zek (zab (zaE (Or.inr rfl) rfl) (zcK (zab ((zam (by rfl)).trans (zaE (hd 6 dc) rfl)) rfl))))
     intro D b hall
     obtain ⟨b9,hd12⟩:=b
     refine zaK (zek (zab (zaE (hall 7 dc) rfl) (zcK (zab (zaE (hall 6 dc) rfl) rfl)))) (zar rfl dc rfl (zac zfl rfl dc rfl (show _=2 from rfl) ?_))
     refine zbe (k:=0) (l':=[.string s1,hd10.v,hd12.v]) zsH rfl rfl rfl rfl rfl (fun _ _=>rfl) rfl ?_
     refine zyH (zyR 1 rfl ?_)
     obtain ⟨hg14,h⟩:=zbw h
     refine zaW rfl (zaV (r:=(p21.i:Int)+1) (IntWalk.i64_in _ hg14)) ?_
     refine zbb (v:=.agg #[zI ((p21.i:Int)+1),zI 0]) (ps:=[(0,.tmp 111)]) rfl dc rfl (fun _=>by kernel_rfl) ?_
     refine zyR 1 rfl (zar rfl dc rfl (zac zih rfl dc rfl (show _=1 from rfl) (zan (k:=0) zqg rfl dc rfl rfl rfl (zcm (k:=1) rfl dc rfl rfl Tryz.underlying150 ?_))))
     refine zbb (v:=.agg #[zI ((p21.i:Int)+1),zI 0,zI 0,zI ((m10++[(⟨(p21.i:Int),p17,p18,p19,p20⟩:Gapi_Place)]).length:Int)]) (ps:=[(0,.tmp 112),(2,.tmp 117)]) rfl dc rfl (fun _=>by kernel_rfl) ?_
     refine zaU (k:=4) (vs:=[zI ((p21.i:Int)+1),zI 0,zI 0,zI ((m10++[(⟨(p21.i:Int),p17,p18,p19,p20⟩:Gapi_Place)]).length:Int)]) (l':=[zI ((p21.i:Int)+1),zI 0,zI 0,zI ((m10++[(⟨(p21.i:Int),p17,p18,p19,p20⟩:Gapi_Place)]).length:Int)]) zll rfl rfl rfl rfl rfl (show _≤_ by simp) rfl rfl ?_
     refine zyH (zac zoQ rfl dc rfl (show _=3 from rfl) (zan (k:=3) zbS rfl dc rfl rfl rfl ?_))
     obtain ⟨hg15,h⟩:=zbw h
     refine zaW rfl (zaV (r:=p19+1) (IntWalk.i64_in _ hg15)) (zac zoQ rfl dc rfl (show _=3 from rfl) ?_)
     refine zbe (k:=3) (l':=[zI (p21.i:Int),zI (p17+1),zI p22,zI (p19+1),zI (p20+1)]) zf9 rfl rfl rfl rfl rfl (fun _ _=>rfl) rfl ?_
     refine zyN (zaB (zac zml rfl dc rfl (show _=4 from rfl) ?_))
     refine zbe (k:=3) (l':=[zI (p21.i:Int),zI (p17+1),zI p22,zI (p19+1),zI 0]) zf9 rfl rfl rfl rfl rfl (fun _ _=>rfl) rfl ?_
     refine zaX (zah ?_)
     subst hag1
     exact za4 (n1,m10++[(⟨(p21.i:Int),p17,p18,p19,p20⟩:Gapi_Place)],m11++[(⟨line7,((p21.i:Int)+1) - width1,width1,line8⟩:Gplace_ended)],(p21.i:Int),p17+1,p22,p19+1,0,(p21.i:Int)+1,((m10++[(⟨(p21.i:Int),p17,p18,p19,p20⟩:Gapi_Place)]).length:Int),m12+1,hd10,hd12) h (Nat.lt_succ_self _) rfl (zba rfl) (zad [0,1,2,3,4,5] kr rfl)
    have h:=zha hb2 h
    refine zeW (k:=5) (m:=m12) rfl dc rfl rfl (Nat.le_of_not_lt (of_decide_eq_false hb2)) (zaJ rfl dc rfl rfl (zyN (zaH (zaT rfl (za9 (zap (zap (zaz ?_))))))))
    exact zaq (m10,m11,p16,p17,p18,p19,p20,line7,line8,b4,hd8,hd9,b5,b6) h rfl (zba rfl) (zad [0,1,2,3,4] kr rfl)
  rintro ⟨m1,m2,p1,p2,p3,p4,p5,line1,line2,b1,hd1,hd2,b2,b3⟩ h
  rw [hj1] at h
  refine zyG (zyR 1 rfl (zbl rfl dc rfl Tryz.underlying9 (zac zoS rfl dc rfl (show _=0 from rfl) ?_)))
  refine zbe (k:=3) (l':=[zI (s1.size:Int),zI p2,zI p3,zI p4,zI p5]) zf9 rfl rfl rfl rfl rfl (fun _ _=>rfl) rfl ?_
  refine zyN (zaH ?_)
  obtain ⟨hg16,h⟩:=zbw h
  refine zfz 1 ?_
  refine let vals3:(Nat×Hd)→List (Nat×Nat×Value):=fun b=>[(0,127,zP b1),(1,128,zP b1),(2,129,zP b1),(3,130,.pointer (some ⟨b1,1,none⟩)),(4,131,hd1.v),(5,132,.agg #[zI (s1.size:Int),zI p2,zI p3,zI p4,zI p5]),(6,133,.slice (some ⟨b.1,0,none⟩) 1 1),(7,134,b.2.v)]; let LL3:(Nat→Prop)→(Nat×Hd)→List Asn:=fun D b=>[cells b1 [.string s1,hd1.v,hd2.v] 153,eD D (zv5 hd1.v m1) [(7,zv5 b.2.v (m1++[(⟨(s1.size:Int),p2,p3,p4,p5⟩:Gapi_Place)]))],zv4 hd2.v m2,cells b2 [zI (s1.size:Int),zI p2,zI p3,zI p4,zI p5] 155,cells b3 [zI line1,zI 0,zI 0,zI line2] 157,eD D emp [(6,cells b.1 [zI (s1.size:Int),zI p2,zI p3,zI p4,zI p5] 155)]]; ?_
  refine zdB (β:=Nat×Hd) 8 ((0:Nat),Hd.nil) vals3 LL3 mixed kr kr dc (fun _=>rfl) (zab rfl (zab zbN (zcK (zab zbN rfl)))) (zat ?_ (zat ?_ (zat ?_ (zat ?_ (zat ?_ (zat ?_ (zat ?_ (zat ?_ DrawG.nil)))))))) ?_
  ·
   intro D b hn hd hcl
   obtain ⟨b10,hd13⟩:=b
   refine zaK (zs8 rfl) (zfV rfl dc (za8 (by rfl) rfl) ?_)
   exact zaQ (b:=(b10,hd13)) (b10,hd13) 0 (by rfl) (by rfl) rfl (zhe rfl) (zab rfl (zab (zam (by rfl)) (zcK (zab (zam (by rfl)) rfl))))
  ·
   intro D b hn hd hcl
   obtain ⟨b10,hd13⟩:=b
   refine zaK (zab rfl (zab (zag (fun hD=>hn (hcl 2 _ rfl (hcl 3 _ rfl (hcl 4 _ rfl (hcl 7 _ rfl hD 4 dc) 3 dc) 2 dc) 1 dc)) zaj) (zeH rfl))) ?_
   refine zfV rfl dc (za8 (by rfl) rfl) ?_
   exact zaQ (b:=(b10,hd13)) (b10,hd13) 1 (by rfl) (by rfl) rfl (zhe rfl) (zab rfl (zab ((zam (by rfl)).trans (zag (fun hD=>hn (hcl 2 _ rfl (hcl 3 _ rfl (hcl 4 _ rfl (hcl 7 _ rfl hD 4 dc) 3 dc) 2 dc) 1 dc)) zaj)) (zcK (zab (zam (by rfl)) rfl))))
  ·
   intro D b hn hd hcl
   obtain ⟨b10,hd13⟩:=b
   refine zaK (zab rfl (zab (zag (fun hD=>hn (hcl 3 _ rfl (hcl 4 _ rfl (hcl 7 _ rfl hD 4 dc) 3 dc) 2 dc)) zaj) (zeH rfl))) ?_
   refine zar rfl dc (zaa (m:=1) rfl rfl (hd 1 dc)) ?_
   exact zaQ (b:=(b10,hd13)) (b10,hd13) 2 (by rfl) (by rfl) rfl (zhe rfl) (zab rfl (zab ((zam (by rfl)).trans (zag (fun hD=>hn (hcl 3 _ rfl (hcl 4 _ rfl (hcl 7 _ rfl hD 4 dc) 3 dc) 2 dc)) zaj)) (zcK (zab (zam (by rfl)) rfl))))
  ·
   intro D b hn hd hcl
   obtain ⟨b10,hd13⟩:=b
   refine zaK (zab rfl (zab (zag (fun hD=>hn (hcl 4 _ rfl (hcl 7 _ rfl hD 4 dc) 3 dc)) zaj) (zeH rfl))) ?_
   refine zac zih rfl dc (zaa (m:=2) rfl rfl (hd 2 dc)) (show _=1 from rfl) ?_
   exact zaQ (b:=(b10,hd13)) (b10,hd13) 3 (by rfl) (by rfl) rfl (zhe rfl) (zab rfl (zab ((zam (by rfl)).trans (zag (fun hD=>hn (hcl 4 _ rfl (hcl 7 _ rfl hD 4 dc) 3 dc)) zaj)) (zcK (zab (zam (by rfl)) rfl))))
  ·
   intro D b hn hd hcl
   obtain ⟨b10,hd13⟩:=b
   refine zaK (zab rfl (zab (zag (fun hD=>hn (hcl 7 _ rfl hD 4 dc)) zaj) (zeH rfl))) ?_
   refine zan (k:=0) zqg rfl dc (zaa (m:=3) rfl rfl (hd 3 dc)) rfl rfl ?_
   exact zaQ (b:=(b10,hd13)) (b10,hd13) 4 (by rfl) (by rfl) rfl (zhe rfl) (zab rfl (zab ((zam (by rfl)).trans (zag (fun hD=>hn (hcl 7 _ rfl hD 4 dc)) zaj)) (zcK (zab (zam (by rfl)) rfl))))
  ·
   intro D b hn hd hcl
   obtain ⟨b10,hd13⟩:=b
   refine zaK (zab rfl (zab (zag (fun hD=>hn (hcl 6 _ rfl (hcl 7 _ rfl hD 6 dc) 5 dc)) zaj) (zcK (zab (zag (fun hD=>hn (hcl 6 _ rfl hD 5 dc)) zaj) rfl)))) ?_
   refine za5 (k:=3) (cs:=[zI (s1.size:Int),zI p2,zI p3,zI p4,zI p5]) zsN rfl dc (za8 (by rfl) rfl) rfl rfl rfl ?_
   exact zaQ (b:=(b10,hd13)) (b10,hd13) 5 (by rfl) (by rfl) rfl (zhe rfl) (zab rfl (zab ((zam (by rfl)).trans (zag (fun hD=>hn (hcl 6 _ rfl (hcl 7 _ rfl hD 6 dc) 5 dc)) zaj)) (zcK (zab ((zam (by rfl)).trans (zag (fun hD=>hn (hcl 6 _ rfl hD 5 dc)) zaj)) rfl))))
  ·
   intro D b hn hd hcl
   obtain ⟨zb0,hd13⟩:=b
   refine zaK (zab rfl (zab (zag (fun hD=>hn (hcl 7 _ rfl hD 6 dc)) zaj) (zcK (zab (zag hn zaj) rfl)))) ?_
   refine zaR (cs:=[zI (s1.size:Int),zI p2,zI p3,zI p4,zI p5]) (te:=155) (ps:=[(0,.tmp 132)]) rfl dc (evP.cons (zaa (m:=5) rfl rfl (hd 5 dc)) evP.nil) (fun _=>by kernel_rfl) (fun b10 => ?_)
   refine zcS 5 rfl rfl ?_
   exact zaQ (b:=(zb0,hd13)) (b10,hd13) 6 (by rfl) (by rfl) rfl (zta (zao (fun hD=>absurd hD hn) (zao (fun _=>rfl) rfl))) (zab rfl (zab ((zam (by rfl)).trans (zag (fun hD=>hn (hcl 7 _ rfl hD 6 dc)) zaj)) (zcK (zab (zaE (Or.inr rfl) rfl) rfl))))
  ·
   intro D b hn hd hcl
   obtain ⟨b10,zb1⟩:=b
   refine zaK (zab rfl (zab (zag hn zaj) (zcK (zab (zaE (hd 6 dc) rfl) rfl)))) ?_
   refine zaZ (k:=1) (k2:=5) (ys:=[(⟨(s1.size:Int),p2,p3,p4,p5⟩:Gapi_Place)]) Tryz.underlying150 zs3 zf1 zf0 rfl dc (zaa (m:=4) rfl rfl (hd 4 dc)) (zaa (m:=6) rfl rfl (hd 6 dc)) rfl rfl rfl rfl hg16 (fun v3 => ?_)
   refine zbo (k:=1) rfl (fun hd13 he3 => ?_)
   subst he3
   exact zaQ (b:=(b10,zb1)) (b10,hd13) 7 (by rfl) (by rfl) rfl (zjo (zao (fun hD=>absurd hD hn) rfl)) (zab rfl (zab (zaE (Or.inr rfl) rfl) (zcK (zab ((zam (by rfl)).trans (zaE (hd 6 dc) rfl)) rfl))))
  intro D b hall
  obtain ⟨b10,hd13⟩:=b
  refine zaK (zab rfl (zab (zaE (hall 7 dc) rfl) (zcK (zab (zaE (hall 6 dc) rfl) rfl)))) (zar rfl dc rfl (zac zih rfl dc rfl (show _=1 from rfl) ?_))
  refine zbe (k:=0) (l':=[.string s1,hd13.v,hd2.v]) zsI rfl rfl rfl rfl rfl (fun _ _=>rfl) rfl ?_
  refine zyH (zyR 1 rfl (zbl rfl dc rfl Tryz.underlying9 (zac zjG rfl dc rfl (show _=0 from rfl) (zac zeu rfl dc rfl (show _=1 from rfl) ?_))))
  refine zbe (k:=4) (l':=[zI line1,zI (s1.size:Int),zI 0,zI line2]) zf9 rfl rfl rfl rfl rfl (fun _ _=>rfl) rfl ?_
  refine zyN (zaH ?_)
  obtain ⟨hg17,h⟩:=zbw h
  refine zfz 1 ?_
  refine let vals4:(Nat×Hd)→List (Nat×Nat×Value):=fun b=>[(0,141,zP b1),(1,142,zP b1),(2,143,zP b1),(3,144,.pointer (some ⟨b1,2,none⟩)),(4,145,hd2.v),(5,146,.agg #[zI line1,zI (s1.size:Int),zI 0,zI line2]),(6,147,.slice (some ⟨b.1,0,none⟩) 1 1),(7,148,b.2.v)]; let LL4:(Nat→Prop)→(Nat×Hd)→List Asn:=fun D b=>[cells b1 [.string s1,hd13.v,hd2.v] 153,zv5 hd13.v (m1++[(⟨(s1.size:Int),p2,p3,p4,p5⟩:Gapi_Place)]),eD D (zv4 hd2.v m2) [(7,zv4 b.2.v (m2++[(⟨line1,(s1.size:Int),0,line2⟩:Gplace_ended)]))],cells b2 [zI (s1.size:Int),zI p2,zI p3,zI p4,zI p5] 155,cells b3 [zI line1,zI (s1.size:Int),zI 0,zI line2] 157,cells b10 [zI (s1.size:Int),zI p2,zI p3,zI p4,zI p5] 155,eD D emp [(6,cells b.1 [zI line1,zI (s1.size:Int),zI 0,zI line2] 157)]]; ?_
  refine zdB (β:=Nat×Hd) 8 ((0:Nat),Hd.nil) vals4 LL4 mixed kr kr dc (fun _=>rfl) (zek (zab zbN (zcK (zab zbN rfl)))) (zat ?_ (zat ?_ (zat ?_ (zat ?_ (zat ?_ (zat ?_ (zat ?_ (zat ?_ DrawG.nil)))))))) ?_
  ·
   intro D b hn hd hcl
   obtain ⟨b11,hd14⟩:=b
   refine zaK (zhd rfl) (zfV rfl dc (za8 (by rfl) rfl) ?_)
   exact zaQ (b:=(b11,hd14)) (b11,hd14) 0 (by rfl) (by rfl) rfl (zhe rfl) (zek (zab (zam (by rfl)) (zcK (zab (zam (by rfl)) rfl))))
  ·
   intro D b hn hd hcl
   obtain ⟨b11,hd14⟩:=b
   refine zaK (zek (zab (zag (fun hD=>hn (hcl 2 _ rfl (hcl 3 _ rfl (hcl 4 _ rfl (hcl 7 _ rfl hD 4 dc) 3 dc) 2 dc) 1 dc)) zaj) (zeH rfl))) ?_
   refine zfV rfl dc (za8 (by rfl) rfl) ?_
   exact zaQ (b:=(b11,hd14)) (b11,hd14) 1 (by rfl) (by rfl) rfl (zhe rfl) (zek (zab ((zam (by rfl)).trans (zag (fun hD=>hn (hcl 2 _ rfl (hcl 3 _ rfl (hcl 4 _ rfl (hcl 7 _ rfl hD 4 dc) 3 dc) 2 dc) 1 dc)) zaj)) (zcK (zab (zam (by rfl)) rfl))))
  ·
   intro D b hn hd hcl
   obtain ⟨b11,hd14⟩:=b
   refine zaK (zek (zab (zag (fun hD=>hn (hcl 3 _ rfl (hcl 4 _ rfl (hcl 7 _ rfl hD 4 dc) 3 dc) 2 dc)) zaj) (zeH rfl))) ?_
   refine zar rfl dc (zaa (m:=1) rfl rfl (hd 1 dc)) ?_
   exact zaQ (b:=(b11,hd14)) (b11,hd14) 2 (by rfl) (by rfl) rfl (zhe rfl) (zek (zab ((zam (by rfl)).trans (zag (fun hD=>hn (hcl 3 _ rfl (hcl 4 _ rfl (hcl 7 _ rfl hD 4 dc) 3 dc) 2 dc)) zaj)) (zcK (zab (zam (by rfl)) rfl))))
  ·
   intro D b hn hd hcl
   obtain ⟨b11,hd14⟩:=b
   refine zaK (zek (zab (zag (fun hD=>hn (hcl 4 _ rfl (hcl 7 _ rfl hD 4 dc) 3 dc)) zaj) (zeH rfl))) ?_
   refine zac zfl rfl dc (zaa (m:=2) rfl rfl (hd 2 dc)) (show _=2 from rfl) ?_
   exact zaQ (b:=(b11,hd14)) (b11,hd14) 3 (by rfl) (by rfl) rfl (zhe rfl) (zek (zab ((zam (by rfl)).trans (zag (fun hD=>hn (hcl 4 _ rfl (hcl 7 _ rfl hD 4 dc) 3 dc)) zaj)) (zcK (zab (zam (by rfl)) rfl))))
  ·
   intro D b hn hd hcl
   obtain ⟨b11,hd14⟩:=b
   refine zaK (zek (zab (zag (fun hD=>hn (hcl 7 _ rfl hD 4 dc)) zaj) (zeH rfl))) ?_
   refine zan (k:=0) zjd rfl dc (zaa (m:=3) rfl rfl (hd 3 dc)) rfl rfl ?_
   exact zaQ (b:=(b11,hd14)) (b11,hd14) 4 (by rfl) (by rfl) rfl (zhe rfl) (zek (zab ((zam (by rfl)).trans (zag (fun hD=>hn (hcl 7 _ rfl hD 4 dc)) zaj)) (zcK (zab (zam (by rfl)) rfl))))
  ·
   intro D b hn hd hcl
   obtain ⟨b11,hd14⟩:=b
   refine zaK (zek (zab (zag (fun hD=>hn (hcl 6 _ rfl (hcl 7 _ rfl hD 6 dc) 5 dc)) zaj) (zcK (zab (zag (fun hD=>hn (hcl 6 _ rfl hD 5 dc)) zaj) rfl)))) ?_
   refine za5 (k:=4) (cs:=[zI line1,zI (s1.size:Int),zI 0,zI line2]) zsM rfl dc (za8 (by rfl) rfl) rfl rfl rfl ?_
   exact zaQ (b:=(b11,hd14)) (b11,hd14) 5 (by rfl) (by rfl) rfl (zhe rfl) (zek (zab ((zam (by rfl)).trans (zag (fun hD=>hn (hcl 6 _ rfl (hcl 7 _ rfl hD 6 dc) 5 dc)) zaj)) (zcK (zab ((zam (by rfl)).trans (zag (fun hD=>hn (hcl 6 _ rfl hD 5 dc)) zaj)) rfl))))
  ·
   intro D b hn hd hcl
   obtain ⟨zb0,hd14⟩:=b
   refine zaK (zek (zab (zag (fun hD=>hn (hcl 7 _ rfl hD 6 dc)) zaj) (zcK (zab (zag hn zaj) rfl)))) ?_
   refine zaR (cs:=[zI line1,zI (s1.size:Int),zI 0,zI line2]) (te:=157) (ps:=[(0,.tmp 146)]) rfl dc (evP.cons (zaa (m:=5) rfl rfl (hd 5 dc)) evP.nil) (fun _=>by kernel_rfl) (fun b11 => ?_)
   refine zcS 6 rfl rfl ?_
   exact zaQ (b:=(zb0,hd14)) (b11,hd14) 6 (by rfl) (by rfl) rfl (zta (zao (fun hD=>absurd hD hn) (zao (fun _=>rfl) rfl))) (zek (zab ((zam (by rfl)).trans (zag (fun hD=>hn (hcl 7 _ rfl hD 6 dc)) zaj)) (zcK (zab (zaE (Or.inr rfl) rfl) rfl))))
  ·
   intro D b hn hd hcl
   obtain ⟨b11,zb1⟩:=b
   refine zaK (zek (zab (zag hn zaj) (zcK (zab (zaE (hd 6 dc) rfl) rfl)))) ?_
   refine zaZ (k:=2) (k2:=6) (ys:=[(⟨line1,(s1.size:Int),0,line2⟩:Gplace_ended)]) Tryz.underlying151 zs0 zcP zfy rfl dc (zaa (m:=4) rfl rfl (hd 4 dc)) (zaa (m:=6) rfl rfl (hd 6 dc)) rfl rfl rfl rfl hg17 (fun v4 => ?_)
   refine zbo (k:=2) rfl (fun hd14 he4 => ?_)
   subst he4
   exact zaQ (b:=(b11,zb1)) (b11,hd14) 7 (by rfl) (by rfl) rfl (zjo (zao (fun hD=>absurd hD hn) rfl)) (zek (zab (zaE (Or.inr rfl) rfl) (zcK (zab ((zam (by rfl)).trans (zaE (hd 6 dc) rfl)) rfl))))
  intro D b hall
  obtain ⟨b11,hd14⟩:=b
  refine zaK (zek (zab (zaE (hall 7 dc) rfl) (zcK (zab (zaE (hall 6 dc) rfl) rfl)))) (zar rfl dc rfl (zac zfl rfl dc rfl (show _=2 from rfl) ?_))
  refine zbe (k:=0) (l':=[.string s1,hd13.v,hd14.v]) zsH rfl rfl rfl rfl rfl (fun _ _=>rfl) rfl ?_
  refine zyH (zyR 3 rfl (zyN (zaA (zcl (by simp) ?_))))
  refine zoi (As:=[cells b1 [.string s1,hd13.v,hd14.v] 153,zv5 hd13.v (m1++[(⟨(s1.size:Int),p2,p3,p4,p5⟩:Gapi_Place)]),zv4 hd14.v (m2++[(⟨line1,(s1.size:Int),0,line2⟩:Gplace_ended)])]) (zad [0,1,2] kr rfl) (zi9 (enc:=zef) (nest:=zea) (t:=153) (x:=(⟨s1,m1++[(⟨(s1.size:Int),p2,p3,p4,p5⟩:Gapi_Place)],m2++[(⟨line1,(s1.size:Int),0,line2⟩:Gplace_ended)]⟩:Gplace_Map)) (b:=b1) (hd:=(hd13,hd14))) (fun _ _ => ?_)
  cases h
  exact zaF (rs:=[.tmp 2,.tmp 3]) (zP b1) (.inl rfl) Tryz.results45 (.cons (.tmp rfl) (.cons (.tmp rfl) .nil)) rfl (zad [7] kr rfl)
 exact fun b hb=>hb.elim
def zfh (m1:Gplace_Map):Option Int :=
some (m1.lines.length:Int)
theorem zh6 {bm1:Nat} {m1:Gplace_Map} {m1_h0 m1_h1:Hd} {r:Int} (h:zfh m1=some r):FnR Tryz.prog 46 [zP bm1] [cells bm1 [.string m1.text,m1_h0.v,m1_h1.v] 153,zv5 m1_h0.v m1.places,zv4 m1_h1.v m1.lines] [] (fun _:Unit=>(zI r)) (fun _=>[]):=by
 unfold zfh at h
 refine FnR.intro Tryz.func46 rfl Tryz.ntmps46 (by simp) ?_
 intro w0 K hrd
 refine zyG (zyR 1 rfl (zyN (zaH (zyG (zyR 1 rfl (zaW rfl (zcn Tryz.underlying99) (zyN (zaT rfl (zau ?_)))))))))
 refine zaI (zyG (zyR 1 rfl (zar rfl dc rfl (zac zfl rfl dc rfl (show _=2 from rfl) (za3 (i:=0) hrd rfl zjd rfl dc rfl rfl (zdA (hrd.vw (i:=2) rfl) rfl dc rfl Tryz.underlying151 (zyR 1 rfl (zyN (zaA ?_)))))))))
 cases h
 exact zaF (rs:=[.tmp 2]) () (.inl rfl) Tryz.results46 (.cons (.tmp rfl) .nil) rfl Splits.nil
def zdY (m1:Gplace_Map) (line1:Int):Option (Gapi_Span×Int×Int) :=
zax (decide ((line1:Int)<0)) (
some ((⟨0,0⟩:Gapi_Span),0,5)
) (
zax (decide (((m1.lines.length:Int):Int)≤line1)) (
some ((⟨0,0⟩:Gapi_Span),0,5)
) (
zak (zcN m1.lines line1) fun (q1:Gplace_ended) =>
some ((⟨q1.span_From,q1.span_To⟩:Gapi_Span),q1.end_,0)
)
)
theorem ziL {bm1:Nat} {m1:Gplace_Map} {m1_h0 m1_h1:Hd} {line1:Int} {r:(Gapi_Span×Int×Int)} (h:zdY m1 line1=some r):FnR Tryz.prog 47 [zP bm1,zI line1] [cells bm1 [.string m1.text,m1_h0.v,m1_h1.v] 153,zv5 m1_h0.v m1.places,zv4 m1_h1.v m1.lines] [] (fun _:Unit=>(.tuple #[.agg (zr5 r.1).toArray,zI r.2.1,zI r.2.2])) (fun _=>[]):=by
 unfold zdY at h
 refine FnR.intro Tryz.func47 rfl Tryz.ntmps47 (by simp) ?_
 intro w0 K hrd
 refine zyG ?_
 refine zbg zpP rfl dc (fun b1 => ?_)
 refine zyR 2 rfl (zyN (zaH (zyG (zyR 1 rfl (zaW rfl (zcn Tryz.underlying99) (zyN (zaT rfl (zau (zaI ?_)))))))))
 refine zaH (zyG (zyR 1 rfl (zaW rfl zbA (zyR 1 rfl ?_))))
 refine zyS (s:=12) rfl h (fun h => ?_) (fun h => ?_)
 ·
  refine zyR 8 rfl (zyN (zbd rfl (zyG ?_)))
  refine zbb (v:=.agg #[zI 0,zI 0]) (ps:=[]) rfl dc rfl (fun _=>by kernel_rfl) ?_
  refine zaU (k:=0) (vs:=[zI 0,zI 0]) (l':=[zI 0,zI 0]) zjS rfl rfl rfl rfl rfl (show _≤_ by simp) rfl rfl ?_
  refine zyR 2 rfl (zyN (zaA (zai ?_)))
  cases h
  exact zaF (rs:=[.cell 4 38,.tmp 5,.tmp 6]) () (.inl rfl) Tryz.results47 (.cons (.cells zmO (k:=0) rfl rfl rfl) (.cons (.tmp rfl) (.cons (.tmp rfl) .nil))) rfl Splits.nil
 refine zyR 2 rfl (zar rfl dc rfl (zac zfl rfl dc rfl (show _=2 from rfl) (za3 (i:=0) hrd rfl zjd rfl dc rfl rfl (zdA (hrd.vw (i:=2) rfl) rfl dc rfl Tryz.underlying151 (zaW rfl zeg (zyR 1 rfl (zyN ?_)))))))
 refine zyB rfl h (fun h => ?_) (fun h => ?_)
 ·
  refine zyG ?_
  refine zbb (v:=.agg #[zI 0,zI 0]) (ps:=[]) rfl dc rfl (fun _=>by kernel_rfl) ?_
  refine zaU (k:=0) (vs:=[zI 0,zI 0]) (l':=[zI 0,zI 0]) zjS rfl rfl rfl rfl rfl (show _≤_ by simp) rfl rfl ?_
  refine zyR 2 rfl (zyN (zaA (zai ?_)))
  cases h
  exact zaF (rs:=[.cell 4 38,.tmp 5,.tmp 6]) () (.inl rfl) Tryz.results47 (.cons (.cells zmO (k:=0) rfl rfl rfl) (.cons (.tmp rfl) (.cons (.tmp rfl) .nil))) rfl Splits.nil
 refine zau (zaI (zaH ?_))
 obtain ⟨q1,hq1,h⟩:=zbx h
 refine zmz (β:=Unit) 17 16 _ [(0,22,zP bm1),(1,23,zP bm1),(2,24,.pointer (some ⟨bm1,2,none⟩)),(3,25,m1_h1.v),(4,26,zI line1),(5,27,.pointer (some ⟨zdK m1_h1.v,(0+(line1:Int).toNat)*4,none⟩)),(6,28,.pointer (some ⟨zdK m1_h1.v,(0+(line1:Int).toNat)*4,none⟩)),(7,29,.agg #[zI q1.span_From,zI q1.span_To]),(8,30,zP bm1),(9,31,zP bm1),(10,32,.pointer (some ⟨bm1,2,none⟩)),(11,33,m1_h1.v),(12,34,zI line1),(13,35,.pointer (some ⟨zdK m1_h1.v,(0+(line1:Int).toNat)*4,none⟩)),(14,36,.pointer (some ⟨zdK m1_h1.v,(0+(line1:Int).toNat)*4+2,none⟩)),(15,37,zI q1.end_)] (fun _b=>[]) (fun _b=>[cells b1 [zI q1.span_From,zI q1.span_To] 38]) mixed kr kr rfl dc dc (by rfl) kr kr (zyE 1 0 rfl (zas ?_ (zas ?_ (zas ?_ (zyE 1 4 rfl (zas ?_ (zas ?_ (zas ?_ (zyE 1 8 rfl (zas ?_ (zas ?_ (zas ?_ (zyE 1 12 rfl (zas ?_ (zas ?_ (zas ?_ (zer DrawPreX.nil))))))))))))))))) (fun _b=>(zyE 1 0 rfl (zas ?_ (zas ?_ (zas ?_ (zyE 1 4 rfl (zas ?_ (zas ?_ (zas ?_ (zyE 1 8 rfl (zas ?_ (zas ?_ (zas ?_ (zyE 1 12 rfl (zas ?_ (zas ?_ (zas ?_ (zer DrawPreX.nil)))))))))))))))))) ?_ ?_
 · exact fun D n d c u i=>zar rfl dc (zaa (m:=0) u rfl (d 0 dc)) (zaf 1 u i rfl)
 · exact fun D n d c u i=>zac zfl rfl dc (zaa (m:=1) u rfl (d 1 dc)) (show _=2 from rfl) (zaf 2 u i rfl)
 · exact fun D n d c u i=>za3 (i:=0) hrd rfl zjd rfl dc (zaa (m:=2) u rfl (d 2 dc)) rfl (zaf 3 u i rfl)
 · exact fun D n d c u i=>zbj (hrd.vw (i:=2) rfl) hq1 Tryz.underlying151 zll rfl dc (zaa (m:=3) u rfl (d 3 dc)) (zaa (m:=4) u rfl (d 4 dc)) rfl (zaf 5 u i rfl)
 · exact fun D n d c u i=>zac zjG rfl dc (zaa (m:=5) u rfl (d 5 dc)) (show _=(0+(line1:Int).toNat)*4 from rfl) (zaf 6 u i rfl)
 · exact fun D n d c u i=>zdz (m:=0+(line1:Int).toNat) (j:=0) (i:=2) (q:=q1) (cs:=[zI q1.span_From,zI q1.span_To]) hrd rfl zmO zcP rfl dc (zaa (m:=6) u rfl (d 6 dc)) (Vw.get (hrd.vw (i:=2) rfl) hq1) rfl rfl rfl (zaf 7 u i rfl)
 · exact fun D n d c u i=>zar rfl dc (zaa (m:=8) u rfl (d 8 dc)) (zaf 9 u i rfl)
 · exact fun D n d c u i=>zac zfl rfl dc (zaa (m:=9) u rfl (d 9 dc)) (show _=2 from rfl) (zaf 10 u i rfl)
 · exact fun D n d c u i=>za3 (i:=0) hrd rfl zjd rfl dc (zaa (m:=10) u rfl (d 10 dc)) rfl (zaf 11 u i rfl)
 · exact fun D n d c u i=>zbj (hrd.vw (i:=2) rfl) hq1 Tryz.underlying151 zll rfl dc (zaa (m:=11) u rfl (d 11 dc)) (zaa (m:=12) u rfl (d 12 dc)) rfl (zaf 13 u i rfl)
 · exact fun D n d c u i=>zac zmk rfl dc (zaa (m:=13) u rfl (d 13 dc)) (show _=(0+(line1:Int).toNat)*4+2 from rfl) (zaf 14 u i rfl)
 · exact fun D n d c u i=>zcI (n:=0+(line1:Int).toNat) (j:=2) (i:=2) (q:=q1) hrd rfl zbS zcP rfl dc (zaa (m:=14) u rfl (d 14 dc)) (Vw.get (hrd.vw (i:=2) rfl) hq1) rfl dc rfl (zaf 15 u i rfl)
 · exact fun D n d c u i=>zar rfl dc (zaa (m:=0) u rfl (d 0 dc)) (zaf 1 u i rfl)
 · exact fun D n d c u i=>zac zfl rfl dc (zaa (m:=1) u rfl (d 1 dc)) (show _=2 from rfl) (zaf 2 u i rfl)
 · exact fun D n d c u i=>za3 (i:=0) hrd rfl zjd rfl dc (zaa (m:=2) u rfl (d 2 dc)) rfl (zaf 3 u i rfl)
 · exact fun D n d c u i=>zbj (hrd.vw (i:=2) rfl) hq1 Tryz.underlying151 zll rfl dc (zaa (m:=3) u rfl (d 3 dc)) (zaa (m:=4) u rfl (d 4 dc)) rfl (zaf 5 u i rfl)
 · exact fun D n d c u i=>zac zjG rfl dc (zaa (m:=5) u rfl (d 5 dc)) (show _=(0+(line1:Int).toNat)*4 from rfl) (zaf 6 u i rfl)
 · exact fun D n d c u i=>zdz (m:=0+(line1:Int).toNat) (j:=0) (i:=2) (q:=q1) (cs:=[zI q1.span_From,zI q1.span_To]) hrd rfl zmO zcP rfl dc (zaa (m:=6) u rfl (d 6 dc)) (Vw.get (hrd.vw (i:=2) rfl) hq1) rfl rfl rfl (zaf 7 u i rfl)
 · exact fun D n d c u i=>zar rfl dc (zaa (m:=8) u rfl (d 8 dc)) (zaf 9 u i rfl)
 · exact fun D n d c u i=>zac zfl rfl dc (zaa (m:=9) u rfl (d 9 dc)) (show _=2 from rfl) (zaf 10 u i rfl)
 · exact fun D n d c u i=>za3 (i:=0) hrd rfl zjd rfl dc (zaa (m:=10) u rfl (d 10 dc)) rfl (zaf 11 u i rfl)
 · exact fun D n d c u i=>zbj (hrd.vw (i:=2) rfl) hq1 Tryz.underlying151 zll rfl dc (zaa (m:=11) u rfl (d 11 dc)) (zaa (m:=12) u rfl (d 12 dc)) rfl (zaf 13 u i rfl)
 · exact fun D n d c u i=>zac zmk rfl dc (zaa (m:=13) u rfl (d 13 dc)) (show _=(0+(line1:Int).toNat)*4+2 from rfl) (zaf 14 u i rfl)
 · exact fun D n d c u i=>zcI (n:=0+(line1:Int).toNat) (j:=2) (i:=2) (q:=q1) hrd rfl zbS zcP rfl dc (zaa (m:=14) u rfl (d 14 dc)) (Vw.get (hrd.vw (i:=2) rfl) hq1) rfl dc rfl (zaf 15 u i rfl)
 ·
  intro D hn hd hcl
  refine zaU (k:=0) (vs:=[zI q1.span_From,zI q1.span_To]) (l':=[zI q1.span_From,zI q1.span_To]) zjS rfl (za8 (by rfl) rfl) (zaa (m:=7) kr rfl (hd 7 dc)) rfl rfl (show _≤_ by simp) rfl rfl ?_
  exact fun a w ha hw=>⟨(),ha,hw⟩
 intro _b
 refine zyR 2 rfl (zyN (zaA ?_))
 cases h
 exact zaF (rs:=[.cell 4 38,.tmp 5,.tmp 6]) () (.inl rfl) Tryz.results47 (.cons (.cells zmO (k:=0) rfl rfl rfl) (.cons (.tmp rfl) (.cons (.tmp rfl) .nil))) rfl Splits.nil
end Go.Proofs.YtbempdelckaccaaGreatDoor

namespace Go.Proofs.YtbempdelckaccaaGreatDoor
open Go.RowKit Go.Lib
set_option linter.unusedVariables false
set_option linter.unusedSimpArgs false
def zdC (s1:ByteArray) (j1:Option Bool) (ag1:Int→Option Bool) (i3:Int):Option Bool :=
zax (decide ((i3:Int)<(s1.size:Int))) (
zbr (fun (j2:Option Bool) =>
zak (zg2 s1 i3) fun (c1:Int) =>
zax ((c1:Int) != 32) (
zax ((c1:Int) != 9) (
some false
) (
j2
)
) (
j2
)
) (
grd (I64 (i3+1)) <|
ag1 (i3+1)
)
) (
j1
)
def zem (s1:ByteArray):Option Bool :=
zbr (fun (j1:Option Bool) =>
zaM (fun _=>none) (zdC s1 j1) zb4 0
) (
some true
)
theorem zk4 {s1:ByteArray} {r:Bool} (h:zem s1=some r):FnP Tryz.prog 99 [.string s1] (.bool r):=by
 unfold zem at h
 refine FnP.intro Tryz.func99 rfl Tryz.ntmps99 (by simp) ?_
 intro w0 K
 obtain ⟨j1,hj1,h⟩:=zbO h
 refine zaY (β:=Unit) 1 rfl (fun b=>j1=some r) (fun b=>[]) (fun b=>[]) (fun b=>[]) (fun cut => ?_) ?_
 ·
  refine zyG (zyR 1 rfl (zyN (cut (zyG (zyR 1 rfl (zyN (zaG ?_)))))))
  refine zbt (β:=Nat×Int) (fun b=>zaM (fun _=>none) (zdC s1 j1) b.1 b.2=some r) (fun b=>[]) (fun b=>[(0,.string s1),(3,zI b.2)]) (fun b=>[]) (fun b=>b.1) (zb4,0) h rfl (zba rfl) Splits.nil ?_
  rintro ⟨n1,i3⟩ h
  cases n1 with
  | zero=>exact zdG h
  | succ n1 =>
   obtain ⟨ag1,hag1⟩:∃ ag,ag=zaM (fun _=>none) (zdC s1 j1) n1:=⟨_,rfl⟩
   have h:zdC s1 j1 ag1 i3=some r:=by rw [hag1]; exact h
   unfold zdC at h
   refine zaH (zyG (zyR 2 rfl (zbl rfl dc rfl Tryz.underlying9 (zaW rfl zbA (zyN ?_)))))
   refine zyB rfl h (fun h => ?_) (fun h => ?_)
   ·
    refine zau (zaI ?_)
    obtain ⟨j2,hj2,h⟩:=zbO h
    refine zaY (β:=Unit) 0 rfl (fun b=>j2=some r) (fun b=>[]) (fun b=>[(0,.string s1),(3,zI i3)]) (fun b=>[]) (fun cut => ?_) ?_
    ·
     refine cut (zaG (zyG (zyR 2 rfl ?_)))
     obtain ⟨c1,hq1,h⟩:=zbx h
     refine zcb rfl dc rfl rfl (za2 Tryz.underlying9 hq1) (zaW rfl zbP (zyR 1 rfl ?_))
     refine zyS (s:=14) rfl h (fun h => ?_) (fun h => ?_)
     ·
      refine zyR 2 rfl (zcb rfl dc rfl rfl (za2 Tryz.underlying9 hq1) (zaW rfl zbP (zyR 1 rfl (zyN ?_))))
      refine zyB rfl h (fun h => ?_) (fun h => ?_)
      ·
       refine zyG (zyR 1 rfl (zyN (zaA (zal (zai (zai (zal (zai ?_))))))))
       cases h
       exact zaF (rs:=[.tmp 2]) () (.inl rfl) Tryz.results99 (.cons (.tmp rfl) .nil) rfl Splits.nil
      refine zau (zah ?_)
      exact zaq () h rfl (zba rfl) Splits.nil
     refine zyR 5 rfl (zyN (zaT rfl (zau (zah ?_))))
     exact zaq () h rfl (zba rfl) Splits.nil
    rintro _ h
    rw [hj2] at h
    refine zaB (zyR 1 rfl ?_)
    obtain ⟨hg1,h⟩:=zbw h
    refine zaW rfl (zaV (r:=i3+1) (IntWalk.i64_in _ hg1)) (zyR 1 rfl (zaX ?_))
    subst hag1
    exact za4 (n1,i3+1) h (Nat.lt_succ_self _) rfl (zba rfl) Splits.nil
   refine za9 (zap (zap (zaz ?_)))
   exact zaq () h rfl (zgA) Splits.nil
 rintro _ h
 rw [hj1] at h
 refine zyG (zyR 1 rfl (zyN (zaA ?_)))
 cases h
 exact zaF (rs:=[.tmp 2]) () (.inl rfl) Tryz.results99 (.cons (.tmp rfl) .nil) rfl Splits.nil
def zey (s1:ByteArray):Option Bool :=
zax (decide (s1=(⟨#[35]⟩:ByteArray))) (
some true
) (
zax (decide ((1:Int)<(s1.size:Int))) (
zak (zg2 s1 0) fun (c1:Int) =>
zax ((c1:Int)==35) (
zak (zg2 s1 1) fun (c2:Int) =>
some ((c2:Int)==32)
) (
some false
)
) (
some false
)
)
theorem zj8 {s1:ByteArray} {r:Bool} (h:zey s1=some r):FnP Tryz.prog 100 [.string s1] (.bool r):=by
 unfold zey at h
 refine FnP.intro Tryz.func100 rfl Tryz.ntmps100 (by simp) ?_
 intro w0 K
 refine zyG (zyR 1 rfl (zyH (zyR 1 rfl (zaW rfl zgu (zyR 1 rfl ?_)))))
 refine zyS (s:=5) rfl h (fun h => ?_) (fun h => ?_)
 ·
  refine zyR 14 rfl ?_
  refine zyR 1 rfl (zyN (zaA ?_))
  cases h
  exact zaF (rs:=[.tmp 2]) () (.inl rfl) Tryz.results100 (.cons (.tmp rfl) .nil) rfl Splits.nil
 refine zyR 1 rfl (zbl rfl dc rfl Tryz.underlying9 (zaW rfl zcR (zyR 1 rfl ?_)))
 refine zyS (s:=9) rfl h (fun h => ?_) (fun h => ?_)
 ·
  refine zyR 1 rfl ?_
  obtain ⟨c1,hq1,h⟩:=zbx h
  refine zcb rfl dc rfl rfl (za2 Tryz.underlying9 hq1) (zaW rfl za1 (zyR 2 rfl ?_))
  refine zyS (s:=14) rfl h (fun h => ?_) (fun h => ?_)
  ·
   refine zyR 1 rfl ?_
   obtain ⟨c2,hq2,h⟩:=zbx h
   refine zcb rfl dc rfl rfl (za2 Tryz.underlying9 hq2) (zaW rfl za1 (zyR 3 rfl (zyN (zaA ?_))))
   cases h
   exact zaF (rs:=[.tmp 2]) () (.inl rfl) Tryz.results100 (.cons (.tmp rfl) .nil) rfl Splits.nil
  refine zyR 6 rfl (zyN (zaA ?_))
  cases h
  exact zaF (rs:=[.tmp 2]) () (.inl rfl) Tryz.results100 (.cons (.tmp rfl) .nil) rfl Splits.nil
 refine zyR 11 rfl (zyN (zaA ?_))
 cases h
 exact zaF (rs:=[.tmp 2]) () (.inl rfl) Tryz.results100 (.cons (.tmp rfl) .nil) rfl Splits.nil
def zcZ (s1:ByteArray) (j1:Int→Option Int) (ag1:Int→Option Int) (n4:Int):Option Int :=
zax (decide ((n4:Int)<(s1.size:Int))) (
zak (zg2 s1 n4) fun (c1:Int) =>
zax ((c1:Int)==32) (
grd (I64 (n4+1)) <|
ag1 (n4+1)
) (
j1 n4
)
) (
j1 n4
)
def zb6 (s1:ByteArray):Option Int :=
zbr (fun (j1:Int→Option Int) =>
zaM (fun _=>none) (zcZ s1 j1) zb4 0
) (fun (n1:Int) =>
some n1
)
theorem zdM {s1:ByteArray} {r:Int} (h:zb6 s1=some r):FnP Tryz.prog 101 [.string s1] (zI r):=by
 unfold zb6 at h
 refine FnP.intro Tryz.func101 rfl Tryz.ntmps101 (by simp) ?_
 intro w0 K
 obtain ⟨j1,hj1,h⟩:=zbO h
 refine zaY (β:=Int) 2 rfl (fun b=>j1 b=some r) (fun b=>[]) (fun b=>[(3,zI b)]) (fun b=>[]) (fun cut => ?_) ?_
 ·
  refine zyG (zyR 1 rfl (zyH (zyR 1 rfl (zyN (cut (zaG ?_))))))
  refine zbt (β:=Nat×Int) (fun b=>zaM (fun _=>none) (zcZ s1 j1) b.1 b.2=some r) (fun b=>[]) (fun b=>[(0,.string s1),(3,zI b.2)]) (fun b=>[]) (fun b=>b.1) (zb4,0) h rfl (zba rfl) Splits.nil ?_
  rintro ⟨n5,n4⟩ h
  cases n5 with
  | zero=>exact zdG h
  | succ n5 =>
   obtain ⟨ag1,hag1⟩:∃ ag,ag=zaM (fun _=>none) (zcZ s1 j1) n5:=⟨_,rfl⟩
   have h:zcZ s1 j1 ag1 n4=some r:=by rw [hag1]; exact h
   unfold zcZ at h
   refine zaH (zyG (zyR 2 rfl (zbl rfl dc rfl Tryz.underlying9 (zaW rfl zbA (zyR 1 rfl ?_)))))
   refine zyS (s:=8) rfl h (fun h => ?_) (fun h => ?_)
   ·
    refine zyR 2 rfl ?_
    obtain ⟨c1,hq1,h⟩:=zbx h
    refine zcb rfl dc rfl rfl (za2 Tryz.underlying9 hq1) (zaW rfl za1 (zyR 1 rfl (zyN ?_)))
    refine zyB rfl h (fun h => ?_) (fun h => ?_)
    ·
     refine zau (zaI (zaG (zaB (zyR 1 rfl ?_))))
     obtain ⟨hg1,h⟩:=zbw h
     refine zaW rfl (zaV (r:=n4+1) (IntWalk.i64_in _ hg1)) (zyR 1 rfl (zaX (zah ?_)))
     subst hag1
     exact za4 (n5,n4+1) h (Nat.lt_succ_self _) rfl (zba rfl) Splits.nil
    refine za9 (zap (zap (zaz ?_)))
    exact zaq n4 h rfl (zba rfl) Splits.nil
   refine zyR 5 rfl (zyN (zaT rfl (za9 (zap (zap (zaz ?_))))))
   exact zaq n4 h rfl (zba rfl) Splits.nil
 rintro n1 h
 rw [hj1] at h
 refine zyG (zyR 2 rfl (zyN (zaA ?_)))
 cases h
 exact zaF (rs:=[.tmp 2]) () (.inl rfl) Tryz.results101 (.cons (.tmp rfl) .nil) rfl Splits.nil
def zdp (s1:ByteArray) (j1:(List Gapi_Span)→Option (List Gapi_Span)) (ag1:(List Gapi_Span)→Int→Option (List Gapi_Span)) (l4:List Gapi_Span) (i3:Int):Option (List Gapi_Span) :=
zax (decide ((i3:Int)<(s1.size:Int))) (
zbr (fun (j2:(List Gapi_Span)→Int→Option (List Gapi_Span)) =>
zak (zg2 s1 i3) fun (c1:Int) =>
zax ((c1:Int)==13) (
grd (I64 (i3+1)) <|
zax (decide (((i3+1):Int)<(s1.size:Int))) (
grd (I64 (i3+1)) <|
zak (zg2 s1 (i3+1)) fun (c2:Int) =>
zax ((c2:Int)==10) (
grd (I64 (i3+2)) <|
grd (l4.length+1≤2147483648) <|
grd (I64 (i3+1)) <|
j2 (l4++[(⟨i3,i3+2⟩:Gapi_Span)]) (i3+1)
) (
zak (zg2 s1 i3) fun (c3:Int) =>
zax ((c3:Int)==13) (
grd (I64 (i3+1)) <|
grd (l4.length+1≤2147483648) <|
j2 (l4++[(⟨i3,i3+1⟩:Gapi_Span)]) i3
) (
zax ((c3:Int)==10) (
grd (I64 (i3+1)) <|
grd (l4.length+1≤2147483648) <|
j2 (l4++[(⟨i3,i3+1⟩:Gapi_Span)]) i3
) (
j2 l4 i3
)
)
)
) (
zak (zg2 s1 i3) fun (c4:Int) =>
zax ((c4:Int)==13) (
grd (I64 (i3+1)) <|
grd (l4.length+1≤2147483648) <|
j2 (l4++[(⟨i3,i3+1⟩:Gapi_Span)]) i3
) (
zax ((c4:Int)==10) (
grd (I64 (i3+1)) <|
grd (l4.length+1≤2147483648) <|
j2 (l4++[(⟨i3,i3+1⟩:Gapi_Span)]) i3
) (
j2 l4 i3
)
)
)
) (
zak (zg2 s1 i3) fun (c5:Int) =>
zax ((c5:Int)==13) (
grd (I64 (i3+1)) <|
grd (l4.length+1≤2147483648) <|
j2 (l4++[(⟨i3,i3+1⟩:Gapi_Span)]) i3
) (
zax ((c5:Int)==10) (
grd (I64 (i3+1)) <|
grd (l4.length+1≤2147483648) <|
j2 (l4++[(⟨i3,i3+1⟩:Gapi_Span)]) i3
) (
j2 l4 i3
)
)
)
) (fun (l5:List Gapi_Span) (i4:Int) =>
grd (I64 (i4+1)) <|
ag1 l5 (i4+1)
)
) (
j1 l4
)
def zeS (s1:ByteArray):Option (List Gapi_Span) :=
zbr (fun (j1:(List Gapi_Span)→Option (List Gapi_Span)) =>
zaM (fun _ _=>none) (zdp s1 j1) zb4 ([]:List Gapi_Span) 0
) (fun (l1:List Gapi_Span) =>
some l1
)
theorem zh3 {s1:ByteArray} {r:(List Gapi_Span)} (h:zeS s1=some r):Fn Tryz.prog 126 [.string s1] [] (fun v0:Value=>v0) (fun v0=>[zv3 v0 r]):=by
 unfold zeS at h
 refine Fn.intro Tryz.func126 rfl Tryz.ntmps126 (by simp) ?_
 intro w0 K
 obtain ⟨j1,hj1,h⟩:=zbO h
 refine zaY (β:=(List Gapi_Span)×Value) 2 rfl (fun b=>j1 b.1=some r) (fun b=>[]) (fun b=>[(3,b.2)]) (fun b=>[zv3 b.2 b.1]) (fun cut => ?_) ?_
 ·
  refine zyG (zyR 1 rfl (zyH (zyR 1 rfl (zyN (cut (zyG (zyR 1 rfl ?_)))))))
  refine zyN (zaG (zdR (enc:=zdw) (e:=38) (size:=2) ?_))
  refine zbt (β:=Nat×(List Gapi_Span)×Int×Value) (fun b=>zaM (fun _ _=>none) (zdp s1 j1) b.1 b.2.1 b.2.2.1=some r) (fun b=>[]) (fun b=>[(0,.string s1),(3,b.2.2.2),(4,zI b.2.2.1)]) (fun b=>[zv3 b.2.2.2 b.2.1]) (fun b=>b.1) (zb4,([]:List Gapi_Span),0,(.slice none 0 0)) h rfl (zba rfl) (zad [0] kr rfl) ?_
  rintro ⟨n1,l4,i3,v4⟩ h
  cases n1 with
  | zero=>exact zdG h
  | succ n1 =>
   obtain ⟨ag1,hag1⟩:∃ ag,ag=zaM (fun _ _=>none) (zdp s1 j1) n1:=⟨_,rfl⟩
   have h:zdp s1 j1 ag1 l4 i3=some r:=by rw [hag1]; exact h
   unfold zdp at h
   refine zaH (zyG (zyR 2 rfl (zbl rfl dc rfl Tryz.underlying9 (zaW rfl zbA (zyN ?_)))))
   refine zyB rfl h (fun h => ?_) (fun h => ?_)
   ·
    refine zau (zaI ?_)
    obtain ⟨j2,hj2,h⟩:=zbO h
    refine zaY (β:=(List Gapi_Span)×Int×Value) 0 rfl (fun b=>j2 b.1 b.2.1=some r) (fun b=>[]) (fun b=>[(0,.string s1),(3,b.2.2),(4,zI b.2.1)]) (fun b=>[zv3 b.2.2 b.1]) (fun cut => ?_) ?_
    ·
     refine cut (zaG (zaG (zyG (zyR 2 rfl ?_))))
     obtain ⟨c1,hq1,h⟩:=zbx h
     refine zcb rfl dc rfl rfl (za2 Tryz.underlying9 hq1) (zaW rfl za1 (zyR 1 rfl ?_))
     refine zyS (s:=16) rfl h (fun h => ?_) (fun h => ?_)
     ·
      refine zyR 1 rfl ?_
      obtain ⟨hg1,h⟩:=zbw h
      refine zaW rfl (zaV (r:=i3+1) (IntWalk.i64_in _ hg1)) (zyR 1 rfl (zbl rfl dc rfl Tryz.underlying9 (zaW rfl zbA (zyR 2 rfl ?_))))
      refine zyS (s:=23) rfl h (fun h => ?_) (fun h => ?_)
      ·
       refine zyR 2 rfl ?_
       obtain ⟨hg2,h⟩:=zbw h
       refine zaW rfl (zaV (r:=i3+1) (IntWalk.i64_in _ hg2)) ?_
       obtain ⟨c2,hq2,h⟩:=zbx h
       refine zcb rfl dc rfl rfl (za2 Tryz.underlying9 hq2) (zaW rfl za1 (zyR 2 rfl (zyN ?_)))
       refine zyB rfl h (fun h => ?_) (fun h => ?_)
       ·
        refine zyG (zyR 3 rfl ?_)
        obtain ⟨hg3,h⟩:=zbw h
        refine zaW rfl (zaV (r:=i3+2) (IntWalk.i64_in _ hg3)) ?_
        refine zbb (v:=.agg #[zI i3,zI (i3+2)]) (ps:=[(0,.tmp 31),(1,.tmp 33)]) rfl dc rfl (fun _=>by kernel_rfl) ?_
        refine zaR (cs:=[zI i3,zI (i3+2)]) (te:=38) (ps:=[(0,.tmp 34)]) rfl dc rfl (fun _=>by kernel_rfl) (fun b1 => ?_)
        obtain ⟨hg4,h⟩:=zbw h
        refine zaZ (k:=0) (k2:=1) (ys:=[(⟨i3,i3+2⟩:Gapi_Span)]) Tryz.underlying102 zmn zbn zco rfl dc rfl rfl rfl rfl rfl rfl hg4 (fun v6 => ?_)
        refine zyR 1 rfl (zyN (zaB (zyR 1 rfl ?_)))
        obtain ⟨hg5,h⟩:=zbw h
        refine zaW rfl (zaV (r:=i3+1) (IntWalk.i64_in _ hg5)) (zyR 1 rfl (zaX (zah (zah ?_))))
        exact zaq (l4++[(⟨i3,i3+2⟩:Gapi_Span)],i3+1,v6) h rfl (zba rfl) (zad [0] kr rfl)
       refine zyG (zyR 2 rfl ?_)
       obtain ⟨c3,hq3,h⟩:=zbx h
       refine zcb rfl dc rfl rfl (za2 Tryz.underlying9 hq3) (zaW rfl za1 (zyR 1 rfl ?_))
       refine zyS (s:=44) rfl h (fun h => ?_) (fun h => ?_)
       ·
        refine zyR 6 rfl (zyN (zbd rfl (zaB (zyR 3 rfl ?_))))
        obtain ⟨hg6,h⟩:=zbw h
        refine zaW rfl (zaV (r:=i3+1) (IntWalk.i64_in _ hg6)) ?_
        refine zbb (v:=.agg #[zI i3,zI (i3+1)]) (ps:=[(0,.tmp 51),(1,.tmp 53)]) rfl dc rfl (fun _=>by kernel_rfl) ?_
        refine zaR (cs:=[zI i3,zI (i3+1)]) (te:=38) (ps:=[(0,.tmp 54)]) rfl dc rfl (fun _=>by kernel_rfl) (fun b2 => ?_)
        obtain ⟨hg7,h⟩:=zbw h
        refine zaZ (k:=0) (k2:=1) (ys:=[(⟨i3,i3+1⟩:Gapi_Span)]) Tryz.underlying102 zmn zbn zco rfl dc rfl rfl rfl rfl rfl rfl hg7 (fun v7 => ?_)
        refine zyR 1 rfl (zaX (zah (zah ?_)))
        exact zaq (l4++[(⟨i3,i3+1⟩:Gapi_Span)],i3,v7) h rfl (zba rfl) (zad [0] kr rfl)
       refine zyR 2 rfl (zcb rfl dc rfl rfl (za2 Tryz.underlying9 hq3) (zaW rfl za1 (zyR 2 rfl (zyN ?_))))
       refine zyB rfl h (fun h => ?_) (fun h => ?_)
       ·
        refine zaB (zyR 3 rfl ?_)
        obtain ⟨hg8,h⟩:=zbw h
        refine zaW rfl (zaV (r:=i3+1) (IntWalk.i64_in _ hg8)) ?_
        refine zbb (v:=.agg #[zI i3,zI (i3+1)]) (ps:=[(0,.tmp 51),(1,.tmp 53)]) rfl dc rfl (fun _=>by kernel_rfl) ?_
        refine zaR (cs:=[zI i3,zI (i3+1)]) (te:=38) (ps:=[(0,.tmp 54)]) rfl dc rfl (fun _=>by kernel_rfl) (fun b3 => ?_)
        obtain ⟨hg9,h⟩:=zbw h
        refine zaZ (k:=0) (k2:=1) (ys:=[(⟨i3,i3+1⟩:Gapi_Span)]) Tryz.underlying102 zmn zbn zco rfl dc rfl rfl rfl rfl rfl rfl hg9 (fun v8 => ?_)
        refine zyR 1 rfl (zaX (zah (zah ?_)))
        exact zaq (l4++[(⟨i3,i3+1⟩:Gapi_Span)],i3,v8) h rfl (zba rfl) (zad [0] kr rfl)
       refine zau (zah (zah ?_))
       exact zaq (l4,i3,v4) h rfl (zba rfl) (zad [0] kr rfl)
      refine zyR 7 rfl (zyN (zaT rfl (zyG (zyR 2 rfl ?_))))
      obtain ⟨c4,hq4,h⟩:=zbx h
      refine zcb rfl dc rfl rfl (za2 Tryz.underlying9 hq4) (zaW rfl za1 (zyR 1 rfl ?_))
      refine zyS (s:=44) rfl h (fun h => ?_) (fun h => ?_)
      ·
       refine zyR 6 rfl (zyN (zbd rfl (zaB (zyR 3 rfl ?_))))
       obtain ⟨hg10,h⟩:=zbw h
       refine zaW rfl (zaV (r:=i3+1) (IntWalk.i64_in _ hg10)) ?_
       refine zbb (v:=.agg #[zI i3,zI (i3+1)]) (ps:=[(0,.tmp 51),(1,.tmp 53)]) rfl dc rfl (fun _=>by kernel_rfl) ?_
       refine zaR (cs:=[zI i3,zI (i3+1)]) (te:=38) (ps:=[(0,.tmp 54)]) rfl dc rfl (fun _=>by kernel_rfl) (fun b4 => ?_)
       obtain ⟨hg11,h⟩:=zbw h
       refine zaZ (k:=0) (k2:=1) (ys:=[(⟨i3,i3+1⟩:Gapi_Span)]) Tryz.underlying102 zmn zbn zco rfl dc rfl rfl rfl rfl rfl rfl hg11 (fun v9 => ?_)
       refine zyR 1 rfl (zaX (zah (zah ?_)))
       exact zaq (l4++[(⟨i3,i3+1⟩:Gapi_Span)],i3,v9) h rfl (zba rfl) (zad [0] kr rfl)
      refine zyR 2 rfl (zcb rfl dc rfl rfl (za2 Tryz.underlying9 hq4) (zaW rfl za1 (zyR 2 rfl (zyN ?_))))
      refine zyB rfl h (fun h => ?_) (fun h => ?_)
      ·
       refine zaB (zyR 3 rfl ?_)
       obtain ⟨hg12,h⟩:=zbw h
       refine zaW rfl (zaV (r:=i3+1) (IntWalk.i64_in _ hg12)) ?_
       refine zbb (v:=.agg #[zI i3,zI (i3+1)]) (ps:=[(0,.tmp 51),(1,.tmp 53)]) rfl dc rfl (fun _=>by kernel_rfl) ?_
       refine zaR (cs:=[zI i3,zI (i3+1)]) (te:=38) (ps:=[(0,.tmp 54)]) rfl dc rfl (fun _=>by kernel_rfl) (fun b5 => ?_)
       obtain ⟨hg13,h⟩:=zbw h
       refine zaZ (k:=0) (k2:=1) (ys:=[(⟨i3,i3+1⟩:Gapi_Span)]) Tryz.underlying102 zmn zbn zco rfl dc rfl rfl rfl rfl rfl rfl hg13 (fun v10 => ?_)
       refine zyR 1 rfl (zaX (zah (zah ?_)))
       exact zaq (l4++[(⟨i3,i3+1⟩:Gapi_Span)],i3,v10) h rfl (zba rfl) (zad [0] kr rfl)
      refine zau (zah (zah ?_))
      exact zaq (l4,i3,v4) h rfl (zba rfl) (zad [0] kr rfl)
     refine zyR 14 rfl ?_
     refine zyN (zaT rfl (zyG (zyR 2 rfl ?_)))
     obtain ⟨c5,hq5,h⟩:=zbx h
     refine zcb rfl dc rfl rfl (za2 Tryz.underlying9 hq5) (zaW rfl za1 (zyR 1 rfl ?_))
     refine zyS (s:=44) rfl h (fun h => ?_) (fun h => ?_)
     ·
      refine zyR 6 rfl (zyN (zbd rfl (zaB (zyR 3 rfl ?_))))
      obtain ⟨hg14,h⟩:=zbw h
      refine zaW rfl (zaV (r:=i3+1) (IntWalk.i64_in _ hg14)) ?_
      refine zbb (v:=.agg #[zI i3,zI (i3+1)]) (ps:=[(0,.tmp 51),(1,.tmp 53)]) rfl dc rfl (fun _=>by kernel_rfl) ?_
      refine zaR (cs:=[zI i3,zI (i3+1)]) (te:=38) (ps:=[(0,.tmp 54)]) rfl dc rfl (fun _=>by kernel_rfl) (fun b6 => ?_)
      obtain ⟨hg15,h⟩:=zbw h
      refine zaZ (k:=0) (k2:=1) (ys:=[(⟨i3,i3+1⟩:Gapi_Span)]) Tryz.underlying102 zmn zbn zco rfl dc rfl rfl rfl rfl rfl rfl hg15 (fun v11 => ?_)
      refine zyR 1 rfl (zaX (zah (zah ?_)))
      exact zaq (l4++[(⟨i3,i3+1⟩:Gapi_Span)],i3,v11) h rfl (zba rfl) (zad [0] kr rfl)
     refine zyR 2 rfl (zcb rfl dc rfl rfl (za2 Tryz.underlying9 hq5) (zaW rfl za1 (zyR 2 rfl (zyN ?_))))
     refine zyB rfl h (fun h => ?_) (fun h => ?_)
     ·
      refine zaB (zyR 3 rfl ?_)
      obtain ⟨hg16,h⟩:=zbw h
      refine zaW rfl (zaV (r:=i3+1) (IntWalk.i64_in _ hg16)) ?_
      refine zbb (v:=.agg #[zI i3,zI (i3+1)]) (ps:=[(0,.tmp 51),(1,.tmp 53)]) rfl dc rfl (fun _=>by kernel_rfl) ?_
      refine zaR (cs:=[zI i3,zI (i3+1)]) (te:=38) (ps:=[(0,.tmp 54)]) rfl dc rfl (fun _=>by kernel_rfl) (fun b7 => ?_)
      obtain ⟨hg17,h⟩:=zbw h
      refine zaZ (k:=0) (k2:=1) (ys:=[(⟨i3,i3+1⟩:Gapi_Span)]) Tryz.underlying102 zmn zbn zco rfl dc rfl rfl rfl rfl rfl rfl hg17 (fun v12 => ?_)
      refine zyR 1 rfl (zaX (zah (zah ?_)))
      exact zaq (l4++[(⟨i3,i3+1⟩:Gapi_Span)],i3,v12) h rfl (zba rfl) (zad [0] kr rfl)
     refine zau (zah (zah ?_))
     exact zaq (l4,i3,v4) h rfl (zba rfl) (zad [0] kr rfl)
    rintro ⟨l5,i4,v5⟩ h
    rw [hj2] at h
    refine zaB (zyR 1 rfl ?_)
    obtain ⟨hg18,h⟩:=zbw h
    refine zaW rfl (zaV (r:=i4+1) (IntWalk.i64_in _ hg18)) (zyR 1 rfl (zaX ?_))
    subst hag1
    exact za4 (n1,l5,i4+1,v5) h (Nat.lt_succ_self _) rfl (zba rfl) (zad [0] kr rfl)
   refine za9 (zap (zap (zaz ?_)))
   exact zaq (l4,v4) h rfl (zba rfl) (zad [0] kr rfl)
 rintro ⟨l1,v1⟩ h
 rw [hj1] at h
 refine zyG (zyR 2 rfl (zyN (zaA ?_)))
 cases h
 exact zaF (rs:=[.tmp 2]) v1 (.inl rfl) Tryz.results126 (.cons (.tmp rfl) .nil) rfl (zad [0] kr rfl)
def zcY (s1:ByteArray) (j1:(List Gapi_Span)→Option (List Gapi_Span)) (r1:(List Gapi_Span)) (r2:(List Gapi_Span)) (ag1:(List Gapi_Span)→Int→Int→Option (List Gapi_Span)) (l4:List Gapi_Span) (from3:Int) (i3:Int):Option (List Gapi_Span) :=
zax (decide ((i3:Int)<((r1.length:Int)+1))) (
zbr (fun (j2:Int→Int→Option (List Gapi_Span)) =>
zax (decide ((i3:Int)<(r2.length:Int))) (
zak (zcN r2 i3) fun (q1:Gapi_Span) =>
zak (zcN r2 i3) fun (q2:Gapi_Span) =>
j2 q2.To q1.From
) (
j2 from3 (s1.size:Int)
)
) (fun (from4:Int) (x1:Int) =>
grd (l4.length+1≤2147483648) <|
grd (I64 (i3+1)) <|
ag1 (l4++[(⟨from3,x1⟩:Gapi_Span)]) from4 (i3+1)
)
) (
j1 l4
)
def ze1 (s1:ByteArray):Option (List Gapi_Span) :=
zbr (fun (j1:(List Gapi_Span)→Option (List Gapi_Span)) =>
zak (zeS s1) fun (r1:(List Gapi_Span)) =>
grd (I64 ((r1.length:Int)+1)) <|
zak (zeS s1) fun (r2:(List Gapi_Span)) =>
zaM (fun _ _ _=>none) (zcY s1 j1 r1 r2) zb4 ([]:List Gapi_Span) 0 0
) (fun (l1:List Gapi_Span) =>
some l1
)
theorem zk3 {s1:ByteArray} {r:(List Gapi_Span)} (h:ze1 s1=some r):Fn Tryz.prog 98 [.string s1] [] (fun v0:Value=>v0) (fun v0=>[zv3 v0 r]):=by
 unfold ze1 at h
 refine Fn.intro Tryz.func98 rfl Tryz.ntmps98 (by simp) ?_
 intro w0 K
 obtain ⟨j1,hj1,h⟩:=zbO h
 refine zaY (β:=(List Gapi_Span)×Value) 5 rfl (fun b=>j1 b.1=some r) (fun b=>[]) (fun b=>[(4,b.2)]) (fun b=>[zv3 b.2 b.1]) (fun cut => ?_) ?_
 ·
  refine zyG (zyR 1 rfl (zyH (zyR 1 rfl ?_)))
  obtain ⟨r1,hq1,h⟩:=zbx h
  refine zdI (vs:=[.string s1]) rfl dc rfl rfl rfl zsX (zh3 hq1) Splits.nil ?_
  rintro v2
  refine zcm (k:=0) rfl dc rfl rfl Tryz.underlying102 ?_
  obtain ⟨hg1,h⟩:=zbw h
  refine zaW rfl (zaV (r:=(r1.length:Int)+1) (IntWalk.i64_in _ hg1)) (zyR 1 rfl (zyH (zyR 1 rfl (zyH (zyR 1 rfl ?_)))))
  obtain ⟨r2,hq2,h⟩:=zbx h
  refine zdI (vs:=[.string s1]) rfl dc rfl rfl rfl zsX (zh3 hq2) Splits.nil ?_
  rintro v3
  refine zyR 1 rfl (zyH (zyR 1 rfl (zyN (cut (zyG (zyR 1 rfl (zyN ?_)))))))
  refine zaG (zdR (enc:=zdw) (e:=38) (size:=2) ?_)
  refine zbt (β:=Nat×(List Gapi_Span)×Int×Int×Value) (fun b=>zaM (fun _ _ _=>none) (zcY s1 j1 r1 r2) b.1 b.2.1 b.2.2.1 b.2.2.2.1=some r) (fun b=>[]) (fun b=>[(0,.string s1),(3,zI ((r1.length:Int)+1)),(4,b.2.2.2.2),(5,v3),(6,zI b.2.2.1),(7,zI b.2.2.2.1)]) (fun b=>[zv3 b.2.2.2.2 b.2.1,zv3 v3 r2]) (fun b=>b.1) (zb4,([]:List Gapi_Span),0,0,(.slice none 0 0)) h rfl (zba rfl) (zad [2,1] kr rfl) ?_
  rintro ⟨n1,l4,from3,i3,v6⟩ h
  cases n1 with
  | zero=>exact zdG h
  | succ n1 =>
   obtain ⟨ag1,hag1⟩:∃ ag,ag=zaM (fun _ _ _=>none) (zcY s1 j1 r1 r2) n1:=⟨_,rfl⟩
   have h:zcY s1 j1 r1 r2 ag1 l4 from3 i3=some r:=by rw [hag1]; exact h
   unfold zcY at h
   refine zaH (zyG (zyR 2 rfl (zaW rfl zbA (zyN ?_))))
   refine zyB rfl h (fun h => ?_) (fun h => ?_)
   ·
    refine zau (zaI (zaH (zaG ?_)))
    obtain ⟨j2,hj2,h⟩:=zbO h
    refine zaY (β:=Int×Int×Nat) 1 rfl (fun b=>j2 b.1 b.2.1=some r) (fun b=>[]) (fun b=>[(0,.string s1),(3,zI ((r1.length:Int)+1)),(4,v6),(5,v3),(6,zI b.1),(7,zI i3),(8,zP b.2.2)]) (fun b=>[zv3 v6 l4,zv3 v3 r2,cells b.2.2 [zI from3,zI b.2.1] 38]) (fun cut => ?_) ?_
    ·
     refine zyG (zyR 2 rfl (zbl rfl dc rfl Tryz.underlying9 ?_))
     refine zbb (v:=.agg #[zI from3,zI (s1.size:Int)]) (ps:=[(0,.tmp 20),(1,.tmp 22)]) rfl dc rfl (fun _=>by kernel_rfl) ?_
     refine zbg zpP rfl dc (fun b2 => ?_)
     refine zaU (k:=2) (vs:=[zI from3,zI (s1.size:Int)]) (l':=[zI from3,zI (s1.size:Int)]) zjS rfl rfl rfl rfl rfl (show _≤_ by simp) rfl rfl ?_
     refine zyN (cut (zyG (zyR 2 rfl (zcm (k:=1) rfl dc rfl rfl Tryz.underlying102 (zaW rfl zbA (zyN ?_))))))
     refine zyB rfl h (fun h => ?_) (fun h => ?_)
     ·
      refine zyG (zyR 2 rfl ?_)
      obtain ⟨q1,hq3,h⟩:=zbx h
      refine zaL (k:=1) hq3 Tryz.underlying102 zjS rfl dc rfl rfl rfl rfl (zac zev rfl dc rfl (show _=((i3:Int).toNat)*2 from rfl) (zbk (i:=(i3:Int).toNat) (j:=0) (k:=1) (q:=q1) zbS zbn rfl dc rfl rfl (za0 hq3) rfl dc rfl (zac zeu rfl dc rfl (show _=1 from rfl) ?_)))
      refine zbe (k:=2) (l':=[zI from3,zI q1.From]) zf9 rfl rfl rfl rfl rfl (fun _ _=>rfl) rfl ?_
      refine zyN (zaB (zyR 2 rfl ?_))
      obtain ⟨q2,hq4,h⟩:=zbx h
      refine zaL (k:=1) hq4 Tryz.underlying102 zjS rfl dc rfl rfl rfl rfl (zac zeu rfl dc rfl (show _=((i3:Int).toNat)*2+1 from rfl) (zbk (i:=(i3:Int).toNat) (j:=1) (k:=1) (q:=q2) zbS zbn rfl dc rfl rfl (za0 hq4) rfl dc rfl (zyR 1 rfl (zaX ?_))))
      exact zaq (q2.To,q1.From,b2) h rfl (zba rfl) (zad [0,1,2] kr rfl)
     refine zau ?_
     exact zaq (from3,(s1.size:Int),b2) h rfl (zba rfl) (zad [0,1,2] kr rfl)
    rintro ⟨from4,x1,b1⟩ h
    rw [hj2] at h
    refine zaB (zyR 1 rfl (za5 (k:=2) (cs:=[zI from3,zI x1]) zmO rfl dc rfl rfl rfl rfl ?_))
    refine zaR (cs:=[zI from3,zI x1]) (te:=38) (ps:=[(0,.tmp 40)]) rfl dc rfl (fun _=>by kernel_rfl) (fun b3 => ?_)
    obtain ⟨hg2,h⟩:=zbw h
    refine zaZ (k:=0) (k2:=3) (ys:=[(⟨from3,x1⟩:Gapi_Span)]) Tryz.underlying102 zmn zbn zco rfl dc rfl rfl rfl rfl rfl rfl hg2 (fun v7 => ?_)
    refine zyR 1 rfl (zaX (zah (zaI (zaB (zyR 1 rfl ?_)))))
    obtain ⟨hg3,h⟩:=zbw h
    refine zaW rfl (zaV (r:=i3+1) (IntWalk.i64_in _ hg3)) (zyR 1 rfl (zaX ?_))
    subst hag1
    exact za4 (n1,l4++[(⟨from3,x1⟩:Gapi_Span)],from4,i3+1,v7) h (Nat.lt_succ_self _) rfl (zba rfl) (zad [0,1] kr rfl)
   refine za9 (zap (zap (zaz ?_)))
   exact zaq (l4,v6) h rfl (zba rfl) (zad [0] kr rfl)
 rintro ⟨l1,v1⟩ h
 rw [hj1] at h
 refine zyG (zyR 2 rfl (zyN (zaA ?_)))
 cases h
 exact zaF (rs:=[.tmp 2]) v1 (.inl rfl) Tryz.results98 (.cons (.tmp rfl) .nil) rfl (zad [0] kr rfl)
end Go.Proofs.YtbempdelckaccaaGreatDoor

namespace Go.Proofs.YtbempdelckaccaaGreatDoor
open Go.RowKit Go.Lib
set_option linter.unusedVariables false
set_option linter.unusedSimpArgs false
theorem zlF (s:ByteArray):s.data.toList.length=s.size:=by rw [Array.length_toList]; rfl
theorem zfR {s:ByteArray} {i:Nat} {b:UInt8} {t:List UInt8} (h:s.data.toList.drop i=b::t):zg2 s (i:Int)=some (b.toNat:Int)∧i<s.size:=by
 have hl:i<s.data.toList.length:=by
  rcases Nat.lt_or_ge i s.data.toList.length with h1 | h1
  ·exact h1
  ·rw [List.drop_eq_nil_of_le h1] at h; cases h
 have hs:i<s.size:=by rw [← zlF]; exact hl
 refine ⟨?_,hs⟩
 rw [zn4 rfl hs]
 rw [List.drop_eq_getElem_cons hl] at h
 have h2:=(List.cons.inj h).1
 rw [Array.getElem_toList] at h2
 rw [← h2]; rfl
theorem ze6 {s:ByteArray} {i:Nat} (h:s.data.toList.drop i=[]) (hi:i≤s.size):i=s.size:=by
 rw [List.drop_eq_nil_iff,zlF] at h; omega
theorem zfn {l:List UInt8} {i:Nat} {b:UInt8} {t:List UInt8} (h:l.drop i=b::t):l.drop (i+1)=t:=by
 rw [← List.drop_drop,h]; rfl
theorem n13 (b:UInt8):((b.toNat:Int)==13)=decide (b=13):=by
 by_cases h:b=13
 ·subst h; rfl
 ·rw [decide_eq_false h]; exact beq_eq_false_iff_ne.2 (fun e=>h (UInt8.toNat.inj (by show b.toNat=13; omega)))
theorem n10 (b:UInt8):((b.toNat:Int)==10)=decide (b=10):=by
 by_cases h:b=10
 ·subst h; rfl
 ·rw [decide_eq_false h]; exact beq_eq_false_iff_ne.2 (fun e=>h (UInt8.toNat.inj (by show b.toNat=10; omega)))
theorem n32 (b:UInt8):((b.toNat:Int)==32)=decide (b=32):=by
 by_cases h:b=32
 ·subst h; rfl
 ·rw [decide_eq_false h]; exact beq_eq_false_iff_ne.2 (fun e=>h (UInt8.toNat.inj (by show b.toNat=32; omega)))
theorem n9 (b:UInt8):((b.toNat:Int)==9)=decide (b=9):=by
 by_cases h:b=9
 ·subst h; rfl
 ·rw [decide_eq_false h]; exact beq_eq_false_iff_ne.2 (fun e=>h (UInt8.toNat.inj (by show b.toNat=9; omega)))
theorem n35 (b:UInt8):((b.toNat:Int)==35)=decide (b=35):=by
 by_cases h:b=35
 ·subst h; rfl
 ·rw [decide_eq_false h]; exact beq_eq_false_iff_ne.2 (fun e=>h (UInt8.toNat.inj (by show b.toNat=35; omega)))
def spP:Bool→Nat→Nat→List UInt8→List (Nat×Nat)
 | _,f,a,[]=>[(f,a)]
 | p,f,a,b::t =>
  if b=13 then (if t.head?=some 10 then spP true f (a+1) t else (f,a)::spP true (a+1) (a+1) t)
  else if b=10 then (f,if p then a - 1 else a)::spP false (a+1) (a+1) t
  else spP false f (a+1) t
def zcQ (l:List UInt8):List (Nat×Nat):=spP false 0 0 l
def mkS (x:Nat×Nat):Gapi_Span:=⟨x.1,x.2⟩
def enP:Bool→Nat→List UInt8→List (Nat×Nat)
 | _,_,[]=>[]
 | p,a,b::t =>
  if b=13 then (if t.head?=some 10 then enP true (a+1) t else (a,a+1)::enP true (a+1) t)
  else if b=10 then ((if p then a - 1 else a),a+1)::enP false (a+1) t
  else enP false (a+1) t
def liE (n:Nat):Nat→List (Nat×Nat)→List (Nat×Nat)
 | f,[]=>[(f,n)]
 | f,(x,y)::es=>(f,x)::liE n y es
theorem zkg:∀ (l:List UInt8) (p:Bool) (f a:Nat),liE (a+l.length) f (enP p a l)=spP p f a l
 | [],p,f,a=>rfl
 | b::t,p,f,a=>by
  have e:a+(b::t).length=a+1+t.length:=by rw [List.length_cons]; omega
  rw [e]
  unfold enP spP
  split
  ·split
   ·exact zkg t _ _ _
   ·show (f,a)::liE _ _ _=_
    rw [zkg t]
  ·split
   ·show (f,_)::liE _ _ _=_
    rw [zkg t]
   ·exact zkg t _ _ _
theorem ztO {t:List UInt8} (h:t.head?≠some 10) (a:Nat):enP true a t=enP false a t:=by
 cases t with
 | nil=>rfl
 | cons b t =>
  have hb:b≠10:=fun e=>h (by rw [e]; rfl)
  unfold enP
  rw [if_neg hb,if_neg hb]
theorem zkC:∀ (l:List UInt8) (p:Bool) (a:Nat),(enP p a l).length≤l.length
 | [],p,a=>Nat.le_refl _
 | b::t,p,a=>by
  unfold enP
  rw [List.length_cons]
  split
  ·split
   ·have:=zkC t true (a+1); omega
   ·rw [List.length_cons]; have:=zkC t true (a+1); omega
  ·split
   ·rw [List.length_cons]; have:=zkC t false (a+1); omega
   ·have:=zkC t false (a+1); omega
theorem zq0 (s:ByteArray) (J:List Gapi_Span→Option (List Gapi_Span)) (hs:s.size≤1073741824):∀ (n i:Nat) (acc:List Gapi_Span),i≤s.size→s.size - i<n→acc.length≤i →
  zaM (fun _ _=>none) (zdp s J) n acc (i:Int)=J (acc++(enP false i (s.data.toList.drop i)).map mkS):=by
 intro n
 induction n with
 | zero=>intro i acc h1 h2; omega
 | succ n ih =>
  intro i acc hi hn ha
  rw [zcf]
  obtain ⟨ag,hag⟩:∃ ag,ag=zaM (fun _ _=>none) (zdp s J) n:=⟨_,rfl⟩
  have ihn:∀ (i:Nat) (acc:List Gapi_Span),i≤s.size→s.size - i<n→acc.length≤i→ag acc (i:Int)=J (acc++(enP false i (s.data.toList.drop i)).map mkS):=by rw [hag]; exact ih
  rw [← hag]
  clear ih hag
  unfold zdp
  cases hd:s.data.toList.drop i with
  | nil =>
   have:=ze6 hd hi
   refine zaw (decide_eq_false (by omega)) ?_
   show J acc=J (acc++[])
   rw [List.append_nil]
  | cons b t =>
   obtain ⟨hb,hlt⟩:=zfR hd
   have hd1:=zfn hd
   refine zay (decide_eq_true (by omega)) (zbF (zaN hb ?_))
   have hcast:(i:Int)+1=((i+1:Nat):Int):=by omega
   have goOn:∀ (acc2:List Gapi_Span),acc2.length≤i+1→(grd (I64 ((i:Int)+1))<|ag acc2 ((i:Int)+1))=J (acc2++(enP false (i+1) t).map mkS):=fun acc2 h2=>by
    refine zbM ⟨by omega,by omega⟩ ?_
    rw [hcast,ihn (i+1) acc2 (by omega) (by omega) h2,hd1]
   by_cases h13:b=13
   ·refine zay (by rw [n13]; exact decide_eq_true h13) (zbM ⟨by omega,by omega⟩ ?_)
    have one:(grd (I64 ((i:Int)+1))<|grd (acc.length+1≤2147483648)<|(grd (I64 ((i:Int)+1))<|ag (acc++[(⟨i,(i:Int)+1⟩:Gapi_Span)]) ((i:Int)+1)))=J (acc++((i,i+1)::enP false (i+1) t).map mkS):=by
     refine zbM ⟨by omega,by omega⟩ (zbM (by omega) ?_)
     rw [goOn _ (by simp; omega),List.map_cons,List.append_assoc]
     rfl
    cases t with
    | nil =>
     have hsz:i+1=s.size:=ze6 hd1 (by omega)
     refine zaw (decide_eq_false (by omega)) (zaN hb (zay (by rw [n13]; exact decide_eq_true h13) ?_))
     refine one.trans ?_
     unfold enP; rw [if_pos h13,if_neg (by simp)]; rfl
    | cons c u =>
     obtain ⟨hc,hlt2⟩:=zfR hd1
     refine zay (decide_eq_true (by omega)) (zbM ⟨by omega,by omega⟩ (zaN (by rw [hcast]; exact hc) ?_))
     by_cases h10:c=10
     ·refine zay (by rw [n10]; exact decide_eq_true h10) (zbM ⟨by omega,by omega⟩ (zbM (by omega) (zbM ⟨by omega,by omega⟩ ?_)))
      refine zbM ⟨by omega,by omega⟩ ?_
      have hd2:=zfn hd1
      show ag _ ((i:Int)+1+1)=_
      rw [show (i:Int)+1+1=((i+2:Nat):Int) by omega,ihn (i+2) _ (by omega) (by omega) (by simp; omega),hd2,List.append_assoc]
      have e2:enP false i (b::c::u)=(i,i+2)::enP false (i+2) u:=by
       rw [enP,if_pos h13,if_pos (by rw [h10]; rfl),enP,if_neg (by rw [h10]; decide),if_pos h10,if_pos rfl]
       rfl
      rw [e2]
      rfl
     ·refine zaw (by rw [n10]; exact decide_eq_false h10) (zaN hb (zay (by rw [n13]; exact decide_eq_true h13) ?_))
      refine one.trans ?_
      rw [show enP false i (b::c::u)=(i,i+1)::enP true (i+1) (c::u) by rw [enP,if_pos h13,if_neg (by simp [h10])],ztO (by simp [h10])]
   ·refine zaw (by rw [n13]; exact decide_eq_false h13) (zaN hb (zaw (by rw [n13]; exact decide_eq_false h13) ?_))
    by_cases h10:b=10
    ·refine zay (by rw [n10]; exact decide_eq_true h10) (zbM ⟨by omega,by omega⟩ (zbM (by omega) ?_))
     refine (goOn _ (by simp; omega)).trans ?_
     rw [List.append_assoc]
     rw [enP,if_neg h13,if_pos h10]; rfl
    ·refine zaw (by rw [n10]; exact decide_eq_false h10) ?_
     refine (goOn _ (by omega)).trans ?_
     rw [enP,if_neg h13,if_neg h10]
theorem zsV (s:ByteArray) (hs:s.size≤1073741824):zeS s=some ((enP false 0 s.data.toList).map mkS):=by
 unfold zeS
 refine zbF ?_
 have:=zq0 s (fun l=>some l) hs zb4 0 [] (Nat.zero_le _) (by unfold zb4; omega) (Nat.le_refl _)
 rw [List.drop_zero,List.nil_append] at this
 exact this
theorem zpr (s:ByteArray) (J:List Gapi_Span→Option (List Gapi_Span)) (E:List (Nat×Nat)) (hE:E.length≤1073741824):∀ (n i f:Nat) (acc:List Gapi_Span),i≤E.length→E.length+1 - i<n→acc.length=i →
  zaM (fun _ _ _=>none) (zcY s J (E.map mkS) (E.map mkS)) n acc (f:Int) (i:Int)=J (acc++(liE s.size f (E.drop i)).map mkS):=by
 intro n
 induction n with
 | zero=>intro i f acc h1 h2; omega
 | succ n ih =>
  intro i f acc hi hn ha
  rw [zcf]
  obtain ⟨ag,hag⟩:∃ ag,ag=zaM (fun _ _ _=>none) (zcY s J (E.map mkS) (E.map mkS)) n:=⟨_,rfl⟩
  rw [← hag]
  unfold zcY
  refine zay (decide_eq_true (by rw [List.length_map]; omega)) (zbF ?_)
  cases hd:E.drop i with
  | nil =>
   have hl:E.length≤i:=List.drop_eq_nil_iff.1 hd
   obtain rfl:i=E.length:=by omega
   refine zaw (decide_eq_false (by rw [List.length_map]; omega)) (zbM (by omega) (zbM ⟨by omega,by omega⟩ ?_))
   obtain ⟨n,rfl⟩:∃ m,n=m+1:=⟨n - 1,by omega⟩
   rw [hag,zcf]
   unfold zcY
   refine zaw (decide_eq_false (by rw [List.length_map]; omega)) rfl
  | cons x es =>
   have hl:i<E.length:=by
    rcases Nat.lt_or_ge i E.length with h | h
    ·exact h
    ·rw [List.drop_eq_nil_of_le h] at hd; cases hd
   have hx:E[i]?=some x:=by
    rw [List.drop_eq_getElem_cons hl] at hd
    rw [List.getElem?_eq_getElem hl,(List.cons.inj hd).1]
   have hg:zcN (E.map mkS) (i:Int)=some (mkS x):=zcJ (by rw [List.getElem?_map,hx]; rfl)
   refine zay (decide_eq_true (by rw [List.length_map]; omega)) (zaN hg (zaN hg (zbM (by omega) (zbM ⟨by omega,by omega⟩ ?_))))
   have hd1:E.drop (i+1)=es:=by rw [← List.drop_drop,hd]; rfl
   have:=ih (i+1) x.2 (acc++[(⟨f,x.1⟩:Gapi_Span)]) (by omega) (by omega) (by simp; omega)
   rw [hd1,List.append_assoc,← hag] at this
   exact this
theorem zpj (s:ByteArray) (hs:s.size≤65536):ze1 s=some ((zcQ s.data.toList).map mkS):=by
 unfold ze1
 have hl:=zkC s.data.toList false 0
 rw [zlF] at hl
 refine zbF (zaN (zsV s (by omega)) (zbM ⟨by omega,by rw [List.length_map]; omega⟩ (zaN (zsV s (by omega)) ?_)))
 have:=zpr s (fun l=>some l) (enP false 0 s.data.toList) (by omega) zb4 0 0 [] (Nat.zero_le _) (by unfold zb4; omega) rfl
 rw [List.drop_zero,List.nil_append] at this
 refine this.trans ?_
 unfold zcQ
 rw [← zkg,zlF,Nat.zero_add]
end Go.Proofs.YtbempdelckaccaaGreatDoor

namespace Go.Proofs.YtbempdelckaccaaGreatDoor
open Go.RowKit Go.Lib
set_option linter.unusedVariables false
set_option linter.unusedSimpArgs false
theorem znu {b:UInt8} {t:List UInt8} (hb:128≤b.toNat):128≤(decodeL (b::t)).1∧∀ x∈(b::t).take (decodeL (b::t)).2,128≤x.toNat:=by
 have hd:=zrb (b::t) (by simp)
 generalize (decodeL (b::t)).1=r at hd ⊢
 generalize (decodeL (b::t)).2=w at hd ⊢
 obtain ⟨w,rfl⟩:∃ v,w=v+1:=⟨w - 1,by have:=hd.pos; omega⟩
 by_cases hbr:r=65533∧w+1=1
 ·obtain ⟨rfl,hw⟩:=hbr
  obtain rfl:w=0:=by omega
  refine ⟨by omega,fun x hx => ?_⟩
  simp at hx; subst hx; omega
 ·have he:=hd.bytes hbr
  have hr:128≤r:=by
   rcases Nat.lt_or_ge r 128 with h1 | h1
   ·rw [zq1 r h1,List.take_succ_cons] at he
    have h2:r.toUInt8=b:=(List.cons.inj he).1
    have h3:b.toNat=r:=by rw [← h2]; simp; omega
    omega
   ·exact h1
  refine ⟨hr,?_⟩
  rw [← he]
  exact (zmm r hd.valid hr).2.2
def spE (e:Gplace_ended):Gapi_Span:=⟨e.span_From,e.span_To⟩
def pv (l:List UInt8) (i:Nat):Bool:=decide (0<i)&&l.getD (i - 1) 0==13
theorem zqP {l:List UInt8} {i:Nat} {b:UInt8} {t:List UInt8} (h:l.drop i=b::t):l.getD i 0=b:=by
 have h2:(l.drop i)[0]?=some b:=by rw [h]; rfl
 rw [List.getElem?_drop] at h2
 rw [List.getD_eq_getElem?_getD,show i=i+0 from rfl,h2]; rfl
theorem zqo {l:List UInt8} {i:Nat} {b:UInt8} {t:List UInt8} (h:l.drop i=b::t):pv l (i+1)=(b==13):=by
 unfold pv
 rw [Nat.add_sub_cancel,zqP h,decide_eq_true (by omega),Bool.true_and]
theorem zts {l:List UInt8} {i w:Nat} (hw:1≤w) (hle:w≤(l.drop i).length) (h:∀ x∈(l.drop i).take w,128≤x.toNat):pv l (i+w)=false:=by
 unfold pv
 obtain ⟨w,rfl⟩:∃ v,w=v+1:=⟨w - 1,by omega⟩
 have hlt:w<(l.drop i).length:=by omega
 have h1:(l.drop i)[w]?=some ((l.drop i)[w]):=List.getElem?_eq_getElem hlt
 have h2:(l.drop i)[w]∈(l.drop i).take (w+1):=by
  refine List.mem_of_getElem? (i:=w) ?_
  rw [List.getElem?_take,if_pos (by omega)]; exact h1
 have h3:=h _ h2
 rw [List.getElem?_drop] at h1
 rw [show i+(w+1) - 1=i+w by omega,List.getD_eq_getElem?_getD,h1,Option.getD_some]
 have:((l.drop i)[w]==13)=false:=beq_eq_false_iff_ne.2 (fun e=>by rw [e] at h3; exact absurd h3 (by decide))
 rw [this,Bool.and_false]
theorem zp6:∀ (x t:List UInt8) (p:Bool) (f i:Nat),(∀ b∈x,128≤b.toNat)→x≠[]→spP p f i (x++t)=spP false f (i+x.length) t
 | [],t,p,f,i,h,hx=>absurd rfl hx
 | b::x,t,p,f,i,h,hx=>by
  have hb:=h b (by simp)
  have h13:b≠13:=fun e=>by rw [e] at hb; exact absurd hb (by decide)
  have h10:b≠10:=fun e=>by rw [e] at hb; exact absurd hb (by decide)
  rw [List.cons_append,spP,if_neg h13,if_neg h10]
  by_cases hx2:x=[]
  ·subst hx2; rfl
  ·rw [zp6 x t false f (i+1) (fun y hy=>h y (by simp [hy])) hx2,List.length_cons]
   rw [show i+1+x.length=i+(x.length+1) by omega]
section
variable {s:ByteArray} {j1:(List Gapi_Place)→(List Gplace_ended)→Int→Int→Int→Int→Int→Int→Int→Option ((Option Gplace_Map)×Int)} {ag:(List Gapi_Place)→(List Gplace_ended)→Int→Int→Int→Int→Int→Int→Int→Nat→Option ((Option Gplace_Map)×Int)}
 {M:List Gapi_Place} {E:List Gplace_ended} {p16 p17 p18 p19 p20 f7 f8:Int} {m:Nat} {p:Pc}
def u22 (p:Pc) (p18:Int):Int:=if 65536≤p.r then p18+1+1 else p18+1
theorem zwh {X:Option ((Option Gplace_Map)×Int)} {A B C D:Prop} [Decidable A] [Decidable B] [Decidable C] [Decidable D] (hA:A) (hB:B) (hC:C) (hD:D) (h18:I64 (p18+1+1)) {K:Int→Option ((Option Gplace_Map)×Int)} (h:K (u22 p p18)=X) :
  zbr (fun (j2:Int→Option ((Option Gplace_Map)×Int))=>grd A<|grd B<|grd C<|grd D<|zax (decide ((65536:Int)≤(p.r:Int))) (grd (I64 ((p18+1)+1))<|j2 ((p18+1)+1)) (j2 (p18+1))) K=X:=by
 refine zbF (zbM hA (zbM hB (zbM hC (zbM hD ?_))))
 unfold u22 at h
 by_cases h1:65536≤p.r
 ·rw [if_pos h1] at h; exact zay (decide_eq_true (by omega)) (zbM h18 h)
 ·rw [if_neg h1] at h; exact zaw (decide_eq_false (by omega)) h
theorem zrW {X:Option ((Option Gplace_Map)×Int)} (hp:(pcs s.data.toList)[m]?=some p) (hm:M.length+1≤2147483648) (h17:I64 (p17+1)) (h18:I64 (p18+1+1)) (h18':I64 (p18+1)) (h20:I64 (p20+1))
  (hi:p.i<s.size) (hs:s.size≤65536) (hE:E.length+1≤2147483648) (h19:I64 (p19+1))
  (hX:(p.r≠13∧p.r≠10∨p.r=13∧∃ c u,s.data.toList.drop (p.i+1)=c::u∧c=10)∧ag (M++[(⟨p.i,p17,p18,p19,p20⟩:Gapi_Place)]) E p.i (p17+1) (u22 p p18) p19 (p20+1) f7 f8 (m+1)=X ∨
   ∃ w:Nat,w≤p.i+1∧(p.r=13∧s.data.toList[p.i+1]?≠some 10∧w=1∨p.r=10∧w=(if pv s.data.toList p.i then 2 else 1)) ∧
    ag (M++[(⟨p.i,p17,p18,p19,p20⟩:Gapi_Place)]) (E++[(⟨f7,((p.i+1 - w:Nat):Int),w,f8⟩:Gplace_ended)]) p.i (p17+1) (u22 p p18) (p19+1) 0 ((p.i+1:Nat):Int) ((M.length+1:Nat):Int) (m+1)=X) :
  zdd s j1 ag M E p16 p17 p18 p19 p20 f7 f8 m=X:=by
 have hl:=(List.getElem?_eq_some_iff.1 hp).1
 unfold zdd
 refine zay (decide_eq_true hl) (zaN hp (zwh hm h17 h18' h20 h18 ?_))
 refine zbF ?_
 have e13:((p.r:Int)==13)=decide (p.r=13):=by
  by_cases h:p.r=13
  ·rw [h]; rfl
  ·rw [decide_eq_false h]; exact beq_eq_false_iff_ne.2 (by omega)
 have e10:((p.r:Int)==10)=decide (p.r=10):=by
  by_cases h:p.r=10
  ·rw [h]; rfl
  ·rw [decide_eq_false h]; exact beq_eq_false_iff_ne.2 (by omega)
 have n13':((p.r:Int) != 13)=!decide (p.r=13):=by unfold bne; rw [e13]
 have n10':((p.r:Int) != 10)=!decide (p.r=10):=by unfold bne; rw [e10]
 have hsucc:(p.i:Int)+1=((p.i+1:Nat):Int):=by omega
 have fin:∀ w:Nat,w≤p.i+1→ag (M++[(⟨p.i,p17,p18,p19,p20⟩:Gapi_Place)]) (E++[(⟨f7,((p.i+1 - w:Nat):Int),w,f8⟩:Gplace_ended)]) p.i (p17+1) (u22 p p18) (p19+1) 0 ((p.i+1:Nat):Int) ((M.length+1:Nat):Int) (m+1)=X →
   (grd (I64 ((p.i:Int)+1))<|grd (I64 (((p.i:Int)+1) - (w:Int)))<|grd (E.length+1≤2147483648)<|grd (I64 ((p.i:Int)+1))<|grd (I64 (p19+1)) <|
    ag (M++[(⟨(p.i:Int),p17,p18,p19,p20⟩:Gapi_Place)]) (E++[(⟨f7,((p.i:Int)+1) - (w:Int),(w:Int),f8⟩:Gplace_ended)]) (p.i:Int) (p17+1) (u22 p p18) (p19+1) 0 ((p.i:Int)+1) ((M++[(⟨(p.i:Int),p17,p18,p19,p20⟩:Gapi_Place)]).length:Int) (m+1))=X:=fun w hw h=>by
  refine zbM ⟨by omega,by omega⟩ (zbM ⟨by omega,by omega⟩ (zbM hE (zbM ⟨by omega,by omega⟩ (zbM h19 ?_))))
  rw [← h]
  rw [show ((p.i:Int)+1) - (w:Int)=((p.i+1 - w:Nat):Int) by omega,show (p.i:Int)+1=((p.i+1:Nat):Int) by omega,List.length_append]
  rfl
 by_cases h13:p.r=13
 ·refine zay (by rw [e13]; exact decide_eq_true h13) (zbM ⟨by omega,by omega⟩ ?_)
  have no10:p.r≠10:=by omega
  rcases hX with ⟨hc,hX⟩ | ⟨w,hw,hc,hX⟩
  ·rcases hc with ⟨h,_⟩ | ⟨_,c,u,hd,hc⟩
   ·exact absurd h13 h
   ·obtain ⟨hg,hlt⟩:=zfR hd
    refine zay (decide_eq_true (by omega)) (zbM ⟨by omega,by omega⟩ (zaN (by rw [hsucc]; exact hg) (zay (by rw [n10]; exact decide_eq_true hc) hX)))
  ·have hw1:w=1∧s.data.toList[p.i+1]?≠some 10:=by
    rcases hc with ⟨_,h,rfl⟩ | ⟨h,_⟩
    ·exact ⟨rfl,h⟩
    ·exact absurd h no10
   obtain ⟨rfl,hne⟩:=hw1
   have tail:(zax (((p.r:Int):Int) != 13) (zax (((p.r:Int):Int) != 10) (ag (M++[(⟨(p.i:Int),p17,p18,p19,p20⟩:Gapi_Place)]) E (p.i:Int) (p17+1) (u22 p p18) p19 (p20+1) f7 f8 (m+1)) ((grd (I64 ((p.i:Int)+1))<|grd (I64 (((p.i:Int)+1) - (1:Int)))<|grd (E.length+1≤2147483648)<|grd (I64 ((p.i:Int)+1))<|grd (I64 (p19+1)) <|
    ag (M++[(⟨(p.i:Int),p17,p18,p19,p20⟩:Gapi_Place)]) (E++[(⟨f7,((p.i:Int)+1) - (1:Int),(1:Int),f8⟩:Gplace_ended)]) (p.i:Int) (p17+1) (u22 p p18) (p19+1) 0 ((p.i:Int)+1) ((M++[(⟨(p.i:Int),p17,p18,p19,p20⟩:Gapi_Place)]).length:Int) (m+1)))) ((grd (I64 ((p.i:Int)+1))<|grd (I64 (((p.i:Int)+1) - (1:Int)))<|grd (E.length+1≤2147483648)<|grd (I64 ((p.i:Int)+1))<|grd (I64 (p19+1)) <|
    ag (M++[(⟨(p.i:Int),p17,p18,p19,p20⟩:Gapi_Place)]) (E++[(⟨f7,((p.i:Int)+1) - (1:Int),(1:Int),f8⟩:Gplace_ended)]) (p.i:Int) (p17+1) (u22 p p18) (p19+1) 0 ((p.i:Int)+1) ((M++[(⟨(p.i:Int),p17,p18,p19,p20⟩:Gapi_Place)]).length:Int) (m+1))))=X :=
    zaw (by rw [n13',decide_eq_true h13]; rfl) (fin 1 hw hX)
   cases hd:s.data.toList.drop (p.i+1) with
   | nil =>
    have hsz:=ze6 hd (by omega)
    refine zaw (decide_eq_false (by omega)) (zaw (by rw [e10]; exact decide_eq_false no10) tail)
   | cons c u =>
    obtain ⟨hg,hlt⟩:=zfR hd
    have hc10:c≠10:=fun e=>hne (by
     have:(s.data.toList.drop (p.i+1))[0]?=some c:=by rw [hd]; rfl
     rw [List.getElem?_drop] at this; rw [← e]; exact this)
    refine zay (decide_eq_true (by omega)) (zbM ⟨by omega,by omega⟩ (zaN (by rw [hsucc]; exact hg) (zaw (by rw [n10]; exact decide_eq_false hc10) (zaw (by rw [e10]; exact decide_eq_false no10) tail))))
 ·refine zaw (by rw [e13]; exact decide_eq_false h13) ?_
  by_cases h10:p.r=10
  ·refine zay (by rw [e10]; exact decide_eq_true h10) ?_
   rcases hX with ⟨hc,hX⟩ | ⟨w,hw,hc,hX⟩
   ·rcases hc with ⟨_,h⟩ | ⟨h,_⟩
    ·exact absurd h10 h
    ·exact absurd h h13
   ·have hw1:w=(if pv s.data.toList p.i then 2 else 1):=by
     rcases hc with ⟨h,_⟩ | ⟨_,h⟩
     ·exact absurd h h13
     ·exact h
    have t13:((p.r:Int) != 13)=true:=by rw [n13',decide_eq_false h13]; rfl
    have t10:((p.r:Int) != 10)=false:=by rw [n10',decide_eq_true h10]; rfl
    by_cases h0:0<p.i
    ·refine zay (decide_eq_true (by omega)) (zbM ⟨by omega,by omega⟩ ?_)
     obtain ⟨c,u,hd⟩:∃ c u,s.data.toList.drop (p.i - 1)=c::u:=by
      cases hd:s.data.toList.drop (p.i - 1) with
      | nil=>have:=ze6 hd (by omega); omega
      | cons c u=>exact ⟨c,u,rfl⟩
     obtain ⟨hg,_⟩:=zfR hd
     have hpv:pv s.data.toList p.i=(c==13):=by
      have:=zqo hd
      rwa [show p.i - 1+1=p.i by omega] at this
     refine zaN (by rw [show (p.i:Int) - 1=((p.i - 1:Nat):Int) by omega]; exact hg) ?_
     by_cases hc13:c=13
     ·have:w=2:=by rw [hw1,hpv,hc13]; rfl
      subst this
      exact zay (by rw [n13]; exact decide_eq_true hc13) (fin 2 hw hX)
     ·have:w=1:=by rw [hw1,hpv,beq_eq_false_iff_ne.2 hc13]; rfl
      subst this
      exact zaw (by rw [n13]; exact decide_eq_false hc13) (zay t13 (zaw t10 (fin 1 hw hX)))
    ·have:w=1:=by rw [hw1]; unfold pv; rw [decide_eq_false h0]; rfl
     subst this
     exact zaw (decide_eq_false (by omega)) (zay t13 (zaw t10 (fin 1 hw hX)))
  ·refine zaw (by rw [e10]; exact decide_eq_false h10) ?_
   rcases hX with ⟨hc,hX⟩ | ⟨w,hw,hc,hX⟩
   ·exact zay (by rw [n13',decide_eq_false h13]; rfl) (zay (by rw [n10',decide_eq_false h10]; rfl) hX)
   ·rcases hc with ⟨h,_⟩ | ⟨h,_⟩
    ·exact absurd h h13
    ·exact absurd h h10
end
theorem zrX (s:ByteArray) (J:(List Gapi_Place)→(List Gplace_ended)→Int→Int→Int→Int→Int→Int→Int→Option ((Option Gplace_Map)×Int)) (hs:s.size≤65536) :
  ∀ (n m i:Nat) (M:List Gapi_Place) (E:List Gplace_ended) (p16 p17 p18 p19 p20 f8:Int) (f:Nat),(pcs s.data.toList).drop m=zc7 i (s.data.toList.drop i)→i≤s.size→s.size - i<n→M.length≤i→E.length≤i →
   0≤p17→p17≤i→0≤p18→p18≤2*i→0≤p19→p19≤i→0≤p20→p20≤i →
   ∃ M' E' q1 q2 q3 q4 q5 g8,∃ g:Nat,zaM (fun _ _ _ _ _ _ _ _ _ _=>none) (zdd s J) n M E p16 p17 p18 p19 p20 (f:Int) f8 m=J M' E' q1 q2 q3 q4 q5 (g:Int) g8∧M'.length≤s.size∧E'.length≤s.size ∧
    E'.map spE++[mkS (g,s.size)]=E.map spE++(spP (pv s.data.toList i) f i (s.data.toList.drop i)).map mkS:=by
 intro n
 induction n with
 | zero=>intro m i M E p16 p17 p18 p19 p20 f8 f h1 h2 h3; omega
 | succ n ih =>
  intro m i M E p16 p17 p18 p19 p20 f8 f hd hi hn hM hE a1 a2 a3 a4 a5 a6 a7 a8
  rw [zcf]
  obtain ⟨ag,hag⟩:∃ ag,ag=zaM (fun _ _ _ _ _ _ _ _ _ _=>none) (zdd s J) n:=⟨_,rfl⟩
  rw [← hag] at ih ⊢
  cases hl:s.data.toList.drop i with
  | nil =>
   have hsz:=ze6 hl hi
   rw [hl,zcq] at hd
   have hge:=List.drop_eq_nil_iff.1 hd
   refine ⟨M,E,p16,p17,p18,p19,p20,f8,f,?_,by omega,by omega,?_⟩
   ·unfold zdd
    exact zaw (decide_eq_false (by omega)) rfl
   ·subst hsz; rfl
  | cons b t =>
   have hlt:=(zfR hl).2
   rw [hl,zcE i (b::t) (by simp)] at hd
   have hlm:m<(pcs s.data.toList).length:=by
    rcases Nat.lt_or_ge m (pcs s.data.toList).length with h | h
    ·exact h
    ·rw [List.drop_eq_nil_of_le h] at hd; cases hd
   have hq:(pcs s.data.toList)[m]?=some ⟨i,(decodeL (b::t)).2,(decodeL (b::t)).1⟩:=by
    rw [List.drop_eq_getElem_cons hlm] at hd
    rw [List.getElem?_eq_getElem hlm,(List.cons.inj hd).1]
   have hw1:=zfv (b::t)
   have hwl:=ziu (b::t) (by simp)
   have hd2:(pcs s.data.toList).drop (m+1)=zc7 (i+(decodeL (b::t)).2) (s.data.toList.drop (i+(decodeL (b::t)).2)):=by
    rw [← List.drop_drop,hd,← List.drop_drop,hl]; rfl
   have hisz:i+(decodeL (b::t)).2≤s.size:=by
    have:(s.data.toList.drop i).length=(b::t).length:=by rw [hl]
    rw [List.length_drop,zlF] at this; omega
   have hup:∀ (q:Pc),0≤u22 q p18∧u22 q p18≤p18+2:=fun q=>by unfold u22; split <;> omega
   obtain ⟨hu1,hu2⟩:=hup ⟨i,(decodeL (b::t)).2,(decodeL (b::t)).1⟩
   have hst:=@zrW s J ag M E p16 p17 p18 p19 p20 (f:Int) f8 m ⟨i,(decodeL (b::t)).2,(decodeL (b::t)).1⟩
   by_cases hb:128≤b.toNat
   ·obtain ⟨hr,hall⟩:=znu (t:=t) hb
    obtain ⟨M',E',q1,q2,q3,q4,q5,g8,g,h1,h2,h3,h4⟩:=ih (m+1) (i+(decodeL (b::t)).2) (M++[(⟨i,p17,p18,p19,p20⟩:Gapi_Place)]) E i (p17+1) (u22 ⟨i,(decodeL (b::t)).2,(decodeL (b::t)).1⟩ p18) p19 (p20+1) f8 f hd2 hisz (by omega) (by simp; omega) (by omega) (by omega) (by omega) hu1 (by omega) a5 (by omega) (by omega) (by omega)
    refine ⟨M',E',q1,q2,q3,q4,q5,g8,g,hst hq (by omega) ⟨by omega,by omega⟩ ⟨by omega,by omega⟩ ⟨by omega,by omega⟩ ⟨by omega,by omega⟩ hlt hs (by omega) ⟨by omega,by omega⟩ (.inl ⟨.inl ⟨by show (decodeL (b::t)).1≠13; omega,by show (decodeL (b::t)).1≠10; omega⟩,h1⟩),h2,h3,?_⟩
    rw [h4,zts hw1 (by rw [hl]; exact hwl) (by rw [hl]; exact hall)]
    congr 2
    have hsplit:b::t=(b::t).take (decodeL (b::t)).2++(b::t).drop (decodeL (b::t)).2:=(List.take_append_drop _ _).symm
    have hlen:((b::t).take (decodeL (b::t)).2).length=(decodeL (b::t)).2:=by rw [List.length_take]; omega
    conv=>rhs; rw [hsplit]
    rw [zp6 _ _ _ _ _ hall (by intro e; rw [e] at hlen; simp at hlen; omega),hlen,← List.drop_drop,hl]
   ·have hdec:=decodeL_ascii b t (by omega)
    rw [hdec] at hst hq hd2 hisz
    dsimp only at hst hq hd2 hisz
    obtain ⟨hu3,hu4⟩:=hup ⟨i,1,b.toNat⟩
    clear hu1 hu2
    have hd1:=zfn hl
    have hpn:=zqo hl
    by_cases h13:b=13
    ·by_cases ht:t.head?=some 10
     ·obtain ⟨c,u,rfl⟩:∃ c u,t=c::u:=by cases t with | nil=>cases ht | cons c u=>exact ⟨c,u,rfl⟩
      have hc:c=10:=Option.some.inj ht
      obtain ⟨M',E',q1,q2,q3,q4,q5,g8,g,h1,h2,h3,h4⟩:=ih (m+1) (i+1) (M++[(⟨i,p17,p18,p19,p20⟩:Gapi_Place)]) E i (p17+1) (u22 ⟨i,1,b.toNat⟩ p18) p19 (p20+1) f8 f hd2 hisz (by omega) (by simp; omega) (by omega) (by omega) (by omega) hu3 (by omega) a5 (by omega) (by omega) (by omega)
      refine ⟨M',E',q1,q2,q3,q4,q5,g8,g,hst hq (by omega) ⟨by omega,by omega⟩ ⟨by omega,by omega⟩ ⟨by omega,by omega⟩ ⟨by omega,by omega⟩ hlt hs (by omega) ⟨by omega,by omega⟩ (.inl ⟨.inr ⟨by rw [h13]; rfl,c,u,hd1,hc⟩,h1⟩),h2,h3,?_⟩
      rw [h4,hpn,hd1]
      congr 2
      conv=>rhs; rw [spP,if_pos h13,if_pos ht]
      rw [h13]; rfl
     ·obtain ⟨M',E',q1,q2,q3,q4,q5,g8,g,h1,h2,h3,h4⟩:=ih (m+1) (i+1) (M++[(⟨i,p17,p18,p19,p20⟩:Gapi_Place)]) (E++[(⟨f,((i+1 - 1:Nat):Int),(1:Nat),f8⟩:Gplace_ended)]) i (p17+1) (u22 ⟨i,1,b.toNat⟩ p18) (p19+1) 0 ((M.length+1:Nat):Int) (i+1) hd2 hisz (by omega) (by simp; omega) (by simp; omega) (by omega) (by omega) hu3 (by omega) (by omega) (by omega) (by omega) (by omega)
      refine ⟨M',E',q1,q2,q3,q4,q5,g8,g,hst hq (by omega) ⟨by omega,by omega⟩ ⟨by omega,by omega⟩ ⟨by omega,by omega⟩ ⟨by omega,by omega⟩ hlt hs (by omega) ⟨by omega,by omega⟩ (.inr ⟨1,by show 1≤i+1; omega,.inl ⟨by rw [h13]; rfl,?_,rfl⟩,h1⟩),h2,h3,?_⟩
      ·show s.data.toList[i+1]?≠some 10
       rw [← hd1,List.head?_eq_getElem?,List.getElem?_drop] at ht
       exact ht
      ·rw [h4,hpn,hd1,List.map_append,List.append_assoc]
       congr 1
       conv=>rhs; rw [spP,if_pos h13,if_neg ht]
       rw [h13]
       show spE _::List.map mkS (spP true (i+1) (i+1) t)=mkS (f,i)::_
       rfl
    ·by_cases h10:b=10
     ·have hw2:(if pv s.data.toList i then 2 else 1)≤i+1:=by
       split
       ·rename_i h; unfold pv at h; rw [Bool.and_eq_true,decide_eq_true_iff] at h; omega
       ·omega
      obtain ⟨M',E',q1,q2,q3,q4,q5,g8,g,h1,h2,h3,h4⟩:=ih (m+1) (i+1) (M++[(⟨i,p17,p18,p19,p20⟩:Gapi_Place)]) (E++[(⟨f,((i+1 - (if pv s.data.toList i then 2 else 1):Nat):Int),((if pv s.data.toList i then 2 else 1:Nat):Int),f8⟩:Gplace_ended)]) i (p17+1) (u22 ⟨i,1,b.toNat⟩ p18) (p19+1) 0 ((M.length+1:Nat):Int) (i+1) hd2 hisz (by omega) (by simp; omega) (by simp; omega) (by omega) (by omega) hu3 (by omega) (by omega) (by omega) (by omega) (by omega)
      refine ⟨M',E',q1,q2,q3,q4,q5,g8,g,hst hq (by omega) ⟨by omega,by omega⟩ ⟨by omega,by omega⟩ ⟨by omega,by omega⟩ ⟨by omega,by omega⟩ hlt hs (by omega) ⟨by omega,by omega⟩ (.inr ⟨_,hw2,.inr ⟨by rw [h10]; rfl,rfl⟩,h1⟩),h2,h3,?_⟩
      rw [h4,hpn,hd1,List.map_append,List.append_assoc]
      congr 1
      conv=>rhs; rw [spP,if_neg h13,if_pos h10]
      show spE _::List.map mkS (spP (b==13) (i+1) (i+1) t)=mkS (f,_)::_
      rw [beq_eq_false_iff_ne.2 h13]
      congr 1
      unfold spE mkS
      congr 1
      cases pv s.data.toList i <;> rfl
     ·obtain ⟨M',E',q1,q2,q3,q4,q5,g8,g,h1,h2,h3,h4⟩:=ih (m+1) (i+1) (M++[(⟨i,p17,p18,p19,p20⟩:Gapi_Place)]) E i (p17+1) (u22 ⟨i,1,b.toNat⟩ p18) p19 (p20+1) f8 f hd2 hisz (by omega) (by simp; omega) (by omega) (by omega) (by omega) hu3 (by omega) a5 (by omega) (by omega) (by omega)
      refine ⟨M',E',q1,q2,q3,q4,q5,g8,g,hst hq (by omega) ⟨by omega,by omega⟩ ⟨by omega,by omega⟩ ⟨by omega,by omega⟩ ⟨by omega,by omega⟩ hlt hs (by omega) ⟨by omega,by omega⟩ (.inl ⟨.inl ⟨fun e=>h13 (UInt8.toNat.inj e),fun e=>h10 (UInt8.toNat.inj e)⟩,h1⟩),h2,h3,?_⟩
      rw [h4,hpn,hd1,beq_eq_false_iff_ne.2 h13]
      congr 2
      conv=>rhs; rw [spP,if_neg h13,if_neg h10]
theorem zwg (s:ByteArray) (hs:s.size≤65536):∃ m:Gplace_Map,zeJ s=some (some m,0)∧m.text=s∧m.lines.map spE=(zcQ s.data.toList).map mkS:=by
 obtain ⟨M',E',q1,q2,q3,q4,q5,g8,g,h1,h2,h3,h4⟩:=zrX s (fun (m1:List Gapi_Place) (m2:List Gplace_ended) (p1:Int) (p2:Int) (p3:Int) (p4:Int) (p5:Int) (line1:Int) (line2:Int) =>
  grd (m1.length+1≤2147483648)<|grd (m2.length+1≤2147483648)<|some ((some (⟨s,m1++[(⟨(s.size:Int),p2,p3,p4,p5⟩:Gapi_Place)],m2++[(⟨line1,(s.size:Int),0,line2⟩:Gplace_ended)]⟩:Gplace_Map)),0)) hs zb4 0 0 [] [] 0 0 0 0 0 0 0
  (by rw [List.drop_zero,List.drop_zero]; rfl) (Nat.zero_le _) (by unfold zb4; omega) (Nat.le_refl _) (Nat.le_refl _) (by omega) (by omega) (by omega) (by omega) (by omega) (by omega) (by omega) (by omega)
 refine ⟨⟨s,M'++[(⟨(s.size:Int),q2,q3,q4,q5⟩:Gapi_Place)],E'++[(⟨(g:Int),(s.size:Int),0,g8⟩:Gplace_ended)]⟩,?_,rfl,?_⟩
 ·unfold zeJ
  refine zaw (decide_eq_false (by omega)) (zbF (h1.trans ?_))
  exact zbM (by omega) (zbM (by omega) rfl)
 ·show List.map spE (E'++[_])=_
  rw [List.map_append]
  exact h4
theorem zrY (s:ByteArray) (hs:65536<s.size):zeJ s=some (none,3):=by
 unfold zeJ
 exact zay (decide_eq_true (by omega)) rfl
end Go.Proofs.YtbempdelckaccaaGreatDoor

namespace Go.Proofs.YtbempdelckaccaaGreatDoor
open Go.RowKit Go.Lib
set_option linter.unusedVariables false
set_option linter.unusedSimpArgs false
def zbs (s1:ByteArray) (prefix1:ByteArray):Option Bool :=
zax (decide (((prefix1.size:Int):Int)≤(s1.size:Int))) (
grd (0≤(0:Int)∧(0:Int)≤(prefix1.size:Int)∧((prefix1.size:Int):Int)≤(s1.size:Int)) <|
some (decide (zbE s1 0 (prefix1.size:Int)=prefix1))
) (
some false
)
theorem zdv {s1:ByteArray} {prefix1:ByteArray} {r:Bool} (h:zbs s1 prefix1=some r):FnP Tryz.prog 80 [.string s1,.string prefix1] (.bool r):=by
 unfold zbs at h
 refine FnP.intro Tryz.func80 rfl Tryz.ntmps80 (by simp) ?_
 intro w0 K
 refine zyG (zyR 1 rfl (zyH (zyR 1 rfl (zbl rfl dc rfl Tryz.underlying9 (zyR 1 rfl (zbl rfl dc rfl Tryz.underlying9 (zaW rfl zeg (zyR 1 rfl ?_))))))))
 refine zyS (s:=10) rfl h (fun h => ?_) (fun h => ?_)
 ·
  refine zyR 2 rfl (zbl rfl dc rfl Tryz.underlying9 ?_)
  obtain ⟨hg1,h⟩:=zbw h
  refine zd8 rfl dc rfl rfl rfl (zb9 (i:=0) (j:=(prefix1.size:Int)) Tryz.underlying9 (.inl ⟨rfl,rfl⟩) (.inr rfl) hg1) (zyR 1 rfl (zaW rfl zgu (zyR 2 rfl (zyN (zaA ?_)))))
  cases h
  exact zaF (rs:=[.tmp 4]) () (.inl rfl) Tryz.results80 (.cons (.tmp rfl) .nil) rfl Splits.nil
 refine zyR 8 rfl (zyN (zaA ?_))
 cases h
 exact zaF (rs:=[.tmp 4]) () (.inl rfl) Tryz.results80 (.cons (.tmp rfl) .nil) rfl Splits.nil
def zbU (s1:ByteArray) (prefix1:ByteArray):Option Bool :=
zak (zbs s1 prefix1) fun (r1:Bool) =>
some r1
theorem zfw {s1:ByteArray} {prefix1:ByteArray} {r:Bool} (h:zbU s1 prefix1=some r):FnP Tryz.prog 53 [.string s1,.string prefix1] (.bool r):=by
 unfold zbU at h
 refine FnP.intro Tryz.func53 rfl Tryz.ntmps53 (by simp) ?_
 intro w0 K
 refine zyG (zyR 1 rfl (zyH (zyR 2 rfl ?_)))
 obtain ⟨r1,hq1,h⟩:=zbx h
 refine zbc (v:=.bool r1) (vs:=[.string s1,.string prefix1]) rfl dc rfl rfl rfl zu5 (zdv hq1) (zyR 1 rfl (zyN (zaA ?_)))
 cases h
 exact zaF (rs:=[.tmp 4]) () (.inl rfl) Tryz.results53 (.cons (.tmp rfl) .nil) rfl Splits.nil
def zca (s1:ByteArray) (prefix1:ByteArray):Option ByteArray :=
zak (zbs s1 prefix1) fun (r1:Bool) =>
zax (r1) (
grd (0≤((prefix1.size:Int):Int)∧((prefix1.size:Int):Int)≤(s1.size:Int)∧((s1.size:Int):Int)≤(s1.size:Int)) <|
some (zbE s1 (prefix1.size:Int) (s1.size:Int))
) (
some s1
)
theorem zeX {s1:ByteArray} {prefix1:ByteArray} {r:ByteArray} (h:zca s1 prefix1=some r):FnP Tryz.prog 79 [.string s1,.string prefix1] (.string r):=by
 unfold zca at h
 refine FnP.intro Tryz.func79 rfl Tryz.ntmps79 (by simp) ?_
 intro w0 K
 refine zyG (zyR 1 rfl (zyN (zaH (zyG (zyR 2 rfl ?_)))))
 obtain ⟨r1,hq1,h⟩:=zbx h
 refine zbc (v:=.bool r1) (vs:=[.string s1,.string prefix1]) rfl dc rfl rfl rfl zu5 (zdv hq1) (zyN ?_)
 refine zyB rfl h (fun h => ?_) (fun h => ?_)
 ·
  refine zyG (zyR 2 rfl (zbl rfl dc rfl Tryz.underlying9 ?_))
  obtain ⟨hg1,h⟩:=zbw h
  refine zd8 rfl dc rfl rfl rfl (zb9 (i:=(prefix1.size:Int)) (j:=(s1.size:Int)) Tryz.underlying9 (.inr rfl) (.inl ⟨rfl,rfl⟩) hg1) (zyR 1 rfl (zyN (zaA (zai ?_))))
  cases h
  exact zaF (rs:=[.tmp 4]) () (.inl rfl) Tryz.results79 (.cons (.tmp rfl) .nil) rfl Splits.nil
 refine zau (zaI (zyG (zyR 2 rfl (zyN (zaA ?_)))))
 cases h
 exact zaF (rs:=[.tmp 4]) () (.inl rfl) Tryz.results79 (.cons (.tmp rfl) .nil) rfl Splits.nil
def zc9 (s1:ByteArray) (prefix1:ByteArray):Option ByteArray :=
zak (zca s1 prefix1) fun (r1:ByteArray) =>
some r1
theorem zgQ {s1:ByteArray} {prefix1:ByteArray} {r:ByteArray} (h:zc9 s1 prefix1=some r):FnP Tryz.prog 50 [.string s1,.string prefix1] (.string r):=by
 unfold zc9 at h
 refine FnP.intro Tryz.func50 rfl Tryz.ntmps50 (by simp) ?_
 intro w0 K
 refine zyG (zyR 1 rfl (zyH (zyR 2 rfl ?_)))
 obtain ⟨r1,hq1,h⟩:=zbx h
 refine zbc (v:=.string r1) (vs:=[.string s1,.string prefix1]) rfl dc rfl rfl rfl zws (zeX hq1) (zyR 1 rfl (zyN (zaA ?_)))
 cases h
 exact zaF (rs:=[.tmp 4]) () (.inl rfl) Tryz.results50 (.cons (.tmp rfl) .nil) rfl Splits.nil
end Go.Proofs.YtbempdelckaccaaGreatDoor

namespace Go.Proofs.YtbempdelckaccaaGreatDoor
open Go.RowKit Go.Lib
set_option linter.unusedVariables false
set_option linter.unusedSimpArgs false
def zd9 (s1:ByteArray):Option Bool :=
grd (s1.size≤9223372036854775807) <|
some (decide (zor s1=(⟨#[]⟩:ByteArray)))
theorem zh4 {s1:ByteArray} {r:Bool} (h:zd9 s1=some r):FnP Tryz.prog 48 [.string s1] (.bool r):=by
 unfold zd9 at h
 refine FnP.intro Tryz.func48 rfl Tryz.ntmps48 (by simp) ?_
 intro w0 K
 refine zyG (zyR 1 rfl (zyH (zyR 1 rfl ?_)))
 obtain ⟨hg1,h⟩:=zbw h
 refine zbc (v:=.string (zor s1)) (vs:=[.string s1,.string (⟨#[32,9]⟩:ByteArray)]) rfl dc rfl rfl rfl zwt (zuy s1 hg1) (zaW rfl zgu (zyR 1 rfl (zyN (zaA ?_))))
 cases h
 exact zaF (rs:=[.tmp 2]) () (.inl rfl) Tryz.results48 (.cons (.tmp rfl) .nil) rfl Splits.nil
def zen (s1:ByteArray):Option Bool :=
zax (decide (s1=(⟨#[35]⟩:ByteArray))) (
some true
) (
zak (zbU s1 (⟨#[35,32]⟩:ByteArray)) fun (r1:Bool) =>
some r1
)
theorem zhv {s1:ByteArray} {r:Bool} (h:zen s1=some r):FnP Tryz.prog 49 [.string s1] (.bool r):=by
 unfold zen at h
 refine FnP.intro Tryz.func49 rfl Tryz.ntmps49 (by simp) ?_
 intro w0 K
 refine zyG (zyR 1 rfl (zyH (zyR 1 rfl (zaW rfl zgu (zyR 1 rfl ?_)))))
 refine zyS (s:=5) rfl h (fun h => ?_) (fun h => ?_)
 ·
  refine zyR 4 rfl (zyN (zaA ?_))
  cases h
  exact zaF (rs:=[.tmp 2]) () (.inl rfl) Tryz.results49 (.cons (.tmp rfl) .nil) rfl Splits.nil
 refine zyR 1 rfl ?_
 obtain ⟨r1,hq1,h⟩:=zbx h
 refine zbc (v:=.bool r1) (vs:=[.string s1,.string (⟨#[35,32]⟩:ByteArray)]) rfl dc rfl rfl rfl zva (zfw hq1) (zyR 2 rfl (zyN (zaA ?_)))
 cases h
 exact zaF (rs:=[.tmp 2]) () (.inl rfl) Tryz.results49 (.cons (.tmp rfl) .nil) rfl Splits.nil
def zdb (s1:ByteArray) (j1:Int→Option Int) (ag1:Int→Nat→Option Int) (n4:Int) (m3:Nat):Option Int :=
zax (decide (m3<(pcs s1.data.toList).length)) (
zak ((pcs s1.data.toList)[m3]?) fun (p1:Pc) =>
zax (((p1.r:Int):Int) != 32) (
j1 n4
) (
grd (I64 (n4+1)) <|
ag1 (n4+1) (m3+1)
)
) (
j1 n4
)
def zdV (s1:ByteArray):Option Int :=
zbr (fun (j1:Int→Option Int) =>
zaM (fun _ _=>none) (zdb s1 j1) zb4 0 0
) (fun (n1:Int) =>
some n1
)
theorem zk5 {s1:ByteArray} {r:Int} (h:zdV s1=some r):FnP Tryz.prog 51 [.string s1] (zI r):=by
 unfold zdV at h
 refine FnP.intro Tryz.func51 rfl Tryz.ntmps51 (by simp) ?_
 intro w0 K
 obtain ⟨j1,hj1,h⟩:=zbO h
 refine zaY (β:=Int) 2 rfl (fun b=>j1 b=some r) (fun b=>[]) (fun b=>[(3,zI b)]) (fun b=>[]) (fun cut => ?_) ?_
 ·
  refine zyG (zyR 1 rfl (zyH (zyR 1 rfl (zyN (cut (zyG (zyR 1 rfl ?_)))))))
  refine zej Tryz.underlying9 rfl dc rfl (fun b1 => ?_)
  refine zyN (zaG ?_)
  refine zbt (β:=Nat×Int×Nat) (fun b=>zaM (fun _ _=>none) (zdb s1 j1) b.1 b.2.1 b.2.2=some r) (fun b=>[]) (fun b=>[(3,zI b.2.1),(7,zP b1)]) (fun b=>[obj b1 (.stringIter s1 (zfr s1 b.2.2))]) (fun b=>b.1) (zb4,0,0) (by exact h) rfl (zba rfl) (zad [0] kr rfl) ?_
  rintro ⟨n5,n4,m3⟩ h
  cases n5 with
  | zero=>exact zdG h
  | succ n5 =>
   obtain ⟨ag1,hag1⟩:∃ ag,ag=zaM (fun _ _=>none) (zdb s1 j1) n5:=⟨_,rfl⟩
   have h:zdb s1 j1 ag1 n4 m3=some r:=by rw [hag1]; exact h
   unfold zdb at h
   refine zyG ?_
   refine zeq (b:=decide (m3<(pcs s1.data.toList).length)) (fun hb1 => ?_) (fun hb1 => ?_)
   ·
    have h:=zg9 hb1 h
    obtain ⟨p1,hq1,h⟩:=zbx h
    refine zeV (k:=0) (m:=m3) (p:=p1) rfl dc rfl rfl hq1 (zaJ rfl dc rfl rfl (zyN (zaH (zbd rfl (zau (zaI (zaG (zyG (zaJ rfl dc rfl rfl (zyR 1 rfl (zaX ?_)))))))))))
    refine zaI (zaH (zyG (zyR 1 rfl (zaW rfl zbP (zyN ?_)))))
    refine zyB rfl h (fun h => ?_) (fun h => ?_)
    ·
     refine za9 (zap (zcH dc (zap (zaz ?_))))
     exact zaq n4 h rfl (zba rfl) Splits.nil
    refine zau (zaI (zaB (zyR 1 rfl ?_)))
    obtain ⟨hg1,h⟩:=zbw h
    refine zaW rfl (zaV (r:=n4+1) (IntWalk.i64_in _ hg1)) (zyR 1 rfl (zaX (zah ?_)))
    subst hag1
    exact za4 (n5,n4+1,m3+1) h (Nat.lt_succ_self _) rfl (zba rfl) (zad [0] kr rfl)
   have h:=zha hb1 h
   refine zeW (k:=0) (m:=m3) rfl dc rfl rfl (Nat.le_of_not_lt (of_decide_eq_false hb1)) (zaJ rfl dc rfl rfl (zyN (zaH (zaT rfl (za9 (zap (zap (zaz ?_))))))))
   exact zaq n4 h rfl (zba rfl) Splits.nil
 rintro n1 h
 rw [hj1] at h
 refine zyG (zyR 2 rfl (zyN (zaA ?_)))
 cases h
 exact zaF (rs:=[.tmp 2]) () (.inl rfl) Tryz.results51 (.cons (.tmp rfl) .nil) rfl Splits.nil
def zdc (text1:ByteArray) (j1:ByteArray→(List Gapi_Verse)→(List Gapi_Span)→Option ((Option Gpoem_Poem)×Gapi_Spot)) (p4:Gplace_Map) (r2:Int) (ag1:ByteArray→(List Gapi_Verse)→(List Gapi_Span)→Bool→Bool→Int→Option ((Option Gpoem_Poem)×Gapi_Spot)) (p14:ByteArray) (p15:List Gapi_Verse) (p16:List Gapi_Span) (first3:Bool) (row3:Bool) (x3:Int):Option ((Option Gpoem_Poem)×Gapi_Spot) :=
zax (decide ((x3:Int)<r2)) (
zbr (fun (j2:ByteArray→(List Gapi_Verse)→(List Gapi_Span)→Bool→Bool→Option ((Option Gpoem_Poem)×Gapi_Spot)) =>
zbr (fun (j3:Int→Int→ByteArray→Option ((Option Gpoem_Poem)×Gapi_Spot)) =>
zak (zdY p4 x3) fun (r3:(Gapi_Span×Int×Int)) =>
grd (0≤(r3.1.From:Int)∧(r3.1.From:Int)≤r3.1.To∧(r3.1.To:Int)≤(text1.size:Int)) <|
zak (zd9 (zbE text1 r3.1.From r3.1.To)) fun (r4:Bool) =>
zax (r4) (
j2 p14 p15 p16 first3 false
) (
zax (decide ((1024:Int)<((zbE text1 r3.1.From r3.1.To).size:Int))) (
grd (I64 (r3.1.From+1024)) <|
some (none,(⟨3,r3.1.From+1024⟩:Gapi_Spot))
) (
zax (first3) (
zak (zen (zbE text1 r3.1.From r3.1.To)) fun (r5:Bool) =>
zax (r5) (
grd (0≤(1:Int)∧(1:Int)≤((zbE text1 r3.1.From r3.1.To).size:Int)∧(((zbE text1 r3.1.From r3.1.To).size:Int):Int)≤((zbE text1 r3.1.From r3.1.To).size:Int)) <|
zak (zc9 (zbE (zbE text1 r3.1.From r3.1.To) 1 ((zbE text1 r3.1.From r3.1.To).size:Int)) (⟨#[32]⟩:ByteArray)) fun (r6:ByteArray) =>
j2 r6 p15 p16 false row3
) (
zax (((p15.length:Int):Int)==512) (
some (none,(⟨3,r3.1.From⟩:Gapi_Spot))
) (
j3 r3.1.From r3.1.To (zbE text1 r3.1.From r3.1.To)
)
)
) (
zax (((p15.length:Int):Int)==512) (
some (none,(⟨3,r3.1.From⟩:Gapi_Spot))
) (
j3 r3.1.From r3.1.To (zbE text1 r3.1.From r3.1.To)
)
)
)
)
) (fun (span1:Int) (span2:Int) (line1:ByteArray) =>
zbr (fun (j4:(List Gapi_Span)→Option ((Option Gpoem_Poem)×Gapi_Spot)) =>
zax (!row3) (
grd (p16.length+1≤2147483648) <|
j4 (p16++[(⟨(p15.length:Int),(p15.length:Int)⟩:Gapi_Span)])
) (
j4 p16
)
) (fun (p20:List Gapi_Span) =>
grd (I64 ((p20.length:Int) - 1)) <|
zak (zcN p20 ((p20.length:Int) - 1)) fun (q1:Gapi_Span) =>
zak (zdV line1) fun (r7:Int) =>
grd (0≤(r7:Int)∧(r7:Int)≤(line1.size:Int)∧((line1.size:Int):Int)≤(line1.size:Int)) <|
grd (I64 ((p20.length:Int) - 1)) <|
grd (I64 ((p15.length:Int) - q1.From)) <|
grd (I64 (span1+r7)) <|
grd (p15.length+1≤2147483648) <|
grd (I64 ((p15.length:Int)+1)) <|
j2 p14 (p15++[(⟨zbE line1 r7 (line1.size:Int),r7,(p20.length:Int) - 1,(p15.length:Int) - q1.From,span1+r7,span2⟩:Gapi_Verse)]) (p20.set ((p20.length:Int) - 1:Int).toNat (⟨q1.From,(p15.length:Int)+1⟩:Gapi_Span)) false true
)
)
) (fun (p17:ByteArray) (p18:List Gapi_Verse) (p19:List Gapi_Span) (first4:Bool) (row4:Bool) =>
grd (I64 (x3+1)) <|
ag1 p17 p18 p19 first4 row4 (x3+1)
)
) (
j1 p14 p15 p16
)
def zcT (text1:ByteArray):Option ((Option Gpoem_Poem)×Gapi_Spot) :=
zak (zeJ text1) fun (r1:((Option Gplace_Map)×Int)) =>
zax ((r1.2:Int) != 0) (
some (none,(⟨r1.2,65536⟩:Gapi_Spot))
) (
zbr (fun (j1:ByteArray→(List Gapi_Verse)→(List Gapi_Span)→Option ((Option Gpoem_Poem)×Gapi_Spot)) =>
zak (r1.1) fun (p4:Gplace_Map) =>
zak (zfh p4) fun (r2:Int) =>
zaM (fun _ _ _ _ _ _=>none) (zdc text1 j1 p4 r2) zb4 ByteArray.empty ([]:List Gapi_Verse) ([]:List Gapi_Span) true false 0
) (fun (p1:ByteArray) (p2:List Gapi_Verse) (p3:List Gapi_Span) =>
some ((some (⟨p1,p2,p3,text1⟩:Gpoem_Poem)),(⟨0,0⟩:Gapi_Spot))
)
)
theorem zgY {text1:ByteArray} {r:((Option Gpoem_Poem)×Gapi_Spot)} (h:zcT text1=some r):Fn Tryz.prog 22 [.string text1] [] (fun v0:Value=>.tuple #[v0,.agg (zr6 r.2).toArray]) (fun v0=>[zho zaP zaO 106 v0 r.1]):=by
 unfold zcT at h
 refine Fn.intro Tryz.func22 rfl Tryz.ntmps22 (by simp) ?_
 intro w0 K
 refine zyG (zyR 1 rfl ?_)
 refine zbg zpa rfl dc (fun b1 => ?_)
 refine zyN ?_
 refine zf4 (β:=Unit) (l:=0) (fun _=>False) (fun _=>[]) (fun _=>[]) rfl ?_ ?_
 ·
  refine zyG (zyR 1 rfl ?_)
  obtain ⟨r1,hq1,h⟩:=zbx h
  refine zdI (vs:=[.string text1]) rfl dc rfl rfl rfl zwI (zm0 hq1) Splits.nil ?_
  rintro v1
  refine zcu (L':=[cells b1 [zI 0,zI 0] 60,zho zef zea 153 v1 r1.1]) (zad [0,1] kr rfl) (zyR 1 rfl (zaJ rfl dc rfl rfl (zaJ rfl dc rfl rfl (zyR 2 rfl (zyN (zaH (zyG (zyR 1 rfl (zaW rfl zbP (zaX ?_))))))))))
  refine zaI ?_
  refine zyB rfl h (fun h => ?_) (fun h => ?_)
  ·
   refine zyG (zyR 1 rfl ?_)
   refine zbb (v:=.agg #[zI r1.2,zI 65536]) (ps:=[(0,.tmp 24),(1,.const (zI 65536))]) rfl dc rfl (fun _=>by kernel_rfl) ?_
   refine zyR 1 rfl (zaU (k:=0) (vs:=[zI r1.2,zI 65536]) (l':=[zI r1.2,zI 65536]) ziI rfl rfl rfl rfl rfl (show _≤_ by simp) rfl rfl (zyN (zaA (zai (zcl (by simp) (zck zaP zaO 106 ?_))))))
   cases h
   exact zaF (rs:=[.tmp 2,.cell 3 60]) (.pointer none) (.inl rfl) Tryz.results22 (.cons (.tmp rfl) (.cons (.cells zl3 (k:=0) rfl rfl rfl) .nil)) rfl (zad [2] kr rfl)
  refine zau (zaI ?_)
  obtain ⟨j1,hj1,h⟩:=zbO h
  refine zaY (β:=ByteArray×(List Gapi_Verse)×(List Gapi_Span)×Nat×Hd×Hd) 3 rfl (fun b=>j1 b.1 b.2.1 b.2.2.1=some r) (fun b=>[]) (fun b=>[(3,zP b1),(6,zP b.2.2.2.1)]) (fun b=>[cells b1 [zI 0,zI 0] 60,cells b.2.2.2.1 [.string b.1,b.2.2.2.2.1.v,b.2.2.2.2.2.v,.string text1] 106,zv2 b.2.2.2.2.1.v b.2.1,zv3 b.2.2.2.2.2.v b.2.2.1]) (fun cut => ?_) ?_
  ·
   refine zyG (zyR 1 rfl ?_)
   refine zbb (v:=.agg #[.string ByteArray.empty,.slice none 0 0,.slice none 0 0,.string text1]) (ps:=[(1,.tmp 26)]) rfl dc rfl (fun _=>by kernel_rfl) ?_
   refine zdQ rfl dc rfl (fun b3 => ?_)
   refine zyR 1 rfl (zyH (zyR 2 rfl (zyN (zaH (zjM (zaI (cut (zaH ?_))))))))
   refine zaB (zyR 1 rfl ?_)
   obtain ⟨p4,hq2,h⟩:=zbx h
   refine zmx (As:=[zho zef zea 153 v1 r1.1]) (zad [1] kr rfl) (zfo hq2) ?_
   rintro ⟨b4,hd3,hd4⟩ hv1
   subst hv1
   obtain ⟨r2,hq3,h⟩:=zbx h
   refine zbZ (v:=zI r2) (vs:=[zP b4]) (Rd.nil:Rd _ _ []) rfl dc rfl rfl rfl zwH (zh6 (bm1:=b4) (m1:=p4) (m1_h0:=hd3) (m1_h1:=hd4) hq3) (.own (zad [3] (by kernel_rfl) rfl) (fun _ _ h=>sepL.one1.1 h) (.own (zad [4] (by kernel_rfl) rfl) (fun _ _ h=>sepL.one1.1 h) (.own (zad [5] (by kernel_rfl) rfl) (fun _ _ h=>sepL.one1.1 h) .nil))) ?_
   refine zyR 1 rfl (zyN (zaG (zdR (enc:=zbu) (e:=76) (size:=6) ?_)))
   refine zdR (enc:=zdw) (e:=38) (size:=2) ?_
   refine zbt (β:=Nat×ByteArray×(List Gapi_Verse)×(List Gapi_Span)×Bool×Bool×Int×Hd×Hd) (fun b=>zaM (fun _ _ _ _ _ _=>none) (zdc text1 j1 p4 r2) b.1 b.2.1 b.2.2.1 b.2.2.2.1 b.2.2.2.2.1 b.2.2.2.2.2.1 b.2.2.2.2.2.2.1=some r) (fun b=>[]) (fun b=>[(0,.string text1),(3,zP b1),(4,zP b4),(6,zP b3),(7,.bool b.2.2.2.2.1),(8,.bool b.2.2.2.2.2.1),(30,zI r2),(31,zI b.2.2.2.2.2.2.1)]) (fun b=>[cells b1 [zI 0,zI 0] 60,cells b4 [.string p4.text,hd3.v,hd4.v] 153,zv5 hd3.v p4.places,zv4 hd4.v p4.lines,cells b3 [.string b.2.1,b.2.2.2.2.2.2.2.1.v,b.2.2.2.2.2.2.2.2.v,.string text1] 106,zv2 b.2.2.2.2.2.2.2.1.v b.2.2.1,zv3 b.2.2.2.2.2.2.2.2.v b.2.2.2.1]) (fun b=>b.1) (zb4,ByteArray.empty,([]:List Gapi_Verse),([]:List Gapi_Span),true,false,0,Hd.nil,Hd.nil) h rfl (zba rfl) (zad [0,3,4,5,2,6,7] kr rfl) ?_
   rintro ⟨n1,p14,p15,p16,first3,row3,x3,hd10,hd11⟩ h
   cases n1 with
   | zero=>exact zdG h
   | succ n1 =>
    obtain ⟨ag1,hag1⟩:∃ ag,ag=zaM (fun _ _ _ _ _ _=>none) (zdc text1 j1 p4 r2) n1:=⟨_,rfl⟩
    have h:zdc text1 j1 p4 r2 ag1 p14 p15 p16 first3 row3 x3=some r:=by rw [hag1]; exact h
    unfold zdc at h
    refine zyG (zaW rfl zbA (zyN (zaH ?_)))
    refine zyB rfl h (fun h => ?_) (fun h => ?_)
    ·
     refine zau (zaI ?_)
     obtain ⟨j2,hj2,h⟩:=zbO h
     refine zaY (β:=ByteArray×(List Gapi_Verse)×(List Gapi_Span)×Bool×Bool×Hd×Hd) 0 rfl (fun b=>j2 b.1 b.2.1 b.2.2.1 b.2.2.2.1 b.2.2.2.2.1=some r) (fun b=>[]) (fun b=>[(0,.string text1),(3,zP b1),(4,zP b4),(6,zP b3),(7,.bool b.2.2.2.1),(8,.bool b.2.2.2.2.1),(30,zI r2),(31,zI x3)]) (fun b=>[cells b1 [zI 0,zI 0] 60,cells b4 [.string p4.text,hd3.v,hd4.v] 153,zv5 hd3.v p4.places,zv4 hd4.v p4.lines,cells b3 [.string b.1,b.2.2.2.2.2.1.v,b.2.2.2.2.2.2.v,.string text1] 106,zv2 b.2.2.2.2.2.1.v b.2.1,zv3 b.2.2.2.2.2.2.v b.2.2.1]) (fun cut => ?_) ?_
     ·
      refine cut (zaG ?_)
      obtain ⟨j3,hj3,h⟩:=zbO h
      refine zaY (β:=Int×Int×ByteArray×Nat) 3 rfl (fun b=>j3 b.1 b.2.1 b.2.2.1=some r) (fun b=>[]) (fun b=>[(0,.string text1),(3,zP b1),(4,zP b4),(6,zP b3),(8,.bool row3),(10,zP b.2.2.2),(13,.string b.2.2.1),(30,zI r2),(31,zI x3)]) (fun b=>[cells b1 [zI 0,zI 0] 60,cells b4 [.string p4.text,hd3.v,hd4.v] 153,zv5 hd3.v p4.places,zv4 hd4.v p4.lines,cells b3 [.string p14,hd10.v,hd11.v,.string text1] 106,zv2 hd10.v p15,zv3 hd11.v p16,cells b.2.2.2 [zI b.1,zI b.2.1] 38]) (fun cut => ?_) ?_
      ·
       refine zyG (zyR 2 rfl (zyH (zyR 2 rfl ?_)))
       obtain ⟨r3,hq4,h⟩:=zbx h
       refine zbZ (v:=.tuple #[.agg (zr5 r3.1).toArray,zI r3.2.1,zI r3.2.2]) (vs:=[zP b4,zI x3]) (Rd.nil:Rd _ _ []) rfl dc rfl rfl rfl zwG (ziL (bm1:=b4) (m1:=p4) (m1_h0:=hd3) (m1_h1:=hd4) hq4) (.own (zad [1] (by kernel_rfl) rfl) (fun _ _ h=>sepL.one1.1 h) (.own (zad [2] (by kernel_rfl) rfl) (fun _ _ h=>sepL.one1.1 h) (.own (zad [3] (by kernel_rfl) rfl) (fun _ _ h=>sepL.one1.1 h) .nil))) ?_
       refine zyR 1 rfl (zaJ rfl dc rfl rfl (zaJ rfl dc rfl rfl (zaJ rfl dc rfl rfl ?_)))
       refine zbg zpP rfl dc (fun b6 => ?_)
       refine zaU (k:=7) (vs:=(zr5 r3.1)) (l':=(zr5 r3.1)) zjS rfl rfl rfl rfl rfl (show _≤_ by simp) rfl rfl ?_
       refine zyR 2 rfl (zyH (zyR 1 rfl (zac zev rfl dc rfl (show _=0 from rfl) (zan (k:=7) zbS rfl dc rfl rfl rfl (zac zeu rfl dc rfl (show _=1 from rfl) (zan (k:=7) zbS rfl dc rfl rfl rfl ?_))))))
       obtain ⟨hg1,h⟩:=zbw h
       refine zd8 rfl dc rfl rfl rfl (zb9 (i:=r3.1.From) (j:=r3.1.To) Tryz.underlying9 (.inr rfl) (.inr rfl) hg1) (zyR 1 rfl (zyN (cut (zaG (zyG (zyR 1 rfl ?_))))))
       obtain ⟨r4,hq5,h⟩:=zbx h
       refine zbc (v:=.bool r4) (vs:=[.string (zbE text1 r3.1.From r3.1.To)]) rfl dc rfl rfl rfl zvc (zh4 hq5) (zyR 1 rfl (zyN ?_))
       refine zyB rfl h (fun h => ?_) (fun h => ?_)
       ·
        refine zyG (zyR 1 rfl (zyN (za9 (zcH dc (zap (zaz ?_))))))
        exact zaq (p14,p15,p16,first3,false,hd10,hd11) h rfl (zba rfl) (zad [0,1,2,3,4,5,6] kr rfl)
       refine zyG (zyR 1 rfl (zbl rfl dc rfl Tryz.underlying9 (zaW rfl zcR (zyR 1 rfl (zyN ?_)))))
       refine zyB rfl h (fun h => ?_) (fun h => ?_)
       ·
        refine zaH ?_
        obtain ⟨hg2,h⟩:=zbw h
        refine zbz 5 [(0,54,zP b6),(1,55,zI r3.1.From),(2,56,zI (r3.1.From+1024)),(3,57,.agg #[zI 3,zI (r3.1.From+1024)]),(4,2,.pointer none)] mixed kr kr dc (by rfl) kr kr (zae ?_ (zae ?_ (zae ?_ (zae ?_ (zae ?_ DrawPre.nil))))) ?_
        · exact fun D n d c u i=>zac zev rfl dc (za8 (by rfl) rfl) (show _=0 from rfl) (zaf 0 u i rfl)
        · exact fun D n d c u i=>zan (k:=7) zbS rfl dc (zaa (m:=0) u rfl (d 0 dc)) rfl rfl (zaf 1 u i rfl)
        · exact fun D n d c u i=>zcc rfl dc (zaa (m:=1) u rfl (d 1 dc)) rfl (zaV (r:=r3.1.From+1024) (IntWalk.i64_in _ hg2)) (zaf 2 u i rfl)
        · exact fun D n d c u i=>zbb (v:=.agg #[zI 3,zI (r3.1.From+1024)]) (ps:=[(0,.const (zI 3)),(1,.tmp 56)]) rfl dc (evP.cons rfl (evP.cons (zaa (m:=2) u rfl (d 2 dc)) evP.nil)) (fun _=>by kernel_rfl) (zaf 3 u i rfl)
        · exact fun D n d c u i=>zyR 1 rfl (zaf 4 u i rfl)
        refine zaU (k:=0) (vs:=[zI 3,zI (r3.1.From+1024)]) (l':=[zI 3,zI (r3.1.From+1024)]) ziI rfl rfl rfl rfl rfl (show _≤_ by simp) rfl rfl (zyN (zaA (zal (zai (zal (zai (zai (zal (zai (zcl (by simp) (zck zaP zaO 106 ?_)))))))))))
        cases h
        exact zaF (rs:=[.tmp 2,.cell 3 60]) (.pointer none) (.inl rfl) Tryz.results22 (.cons (.tmp rfl) (.cons (.cells zl3 (k:=0) rfl rfl rfl) .nil)) rfl (zad [8] kr rfl)
       refine zyG (zyR 2 rfl ?_)
       refine zyS (s:=60) rfl h (fun h => ?_) (fun h => ?_)
       ·
        refine zyR 1 rfl ?_
        obtain ⟨r5,hq6,h⟩:=zbx h
        refine zbc (v:=.bool r5) (vs:=[.string (zbE text1 r3.1.From r3.1.To)]) rfl dc rfl rfl rfl zvb (zhv hq6) (zyR 2 rfl (zyN ?_))
        refine zyB rfl h (fun h => ?_) (fun h => ?_)
        ·
         refine zyG (zyR 1 rfl (zyH (zyR 2 rfl ?_)))
         obtain ⟨hg3,h⟩:=zbw h
         refine zd8 rfl dc rfl rfl rfl (zb9 (i:=1) (j:=((zbE text1 r3.1.From r3.1.To).size:Int)) Tryz.underlying9 (.inr rfl) (.inl ⟨rfl,rfl⟩) hg3) ?_
         obtain ⟨r6,hq7,h⟩:=zbx h
         refine zbc (v:=.string r6) (vs:=[.string (zbE (zbE text1 r3.1.From r3.1.To) 1 ((zbE text1 r3.1.From r3.1.To).size:Int)),.string (⟨#[32]⟩:ByteArray)]) rfl dc rfl rfl rfl zwF (zgQ hq7) (zar rfl dc rfl (zac zcz rfl dc rfl (show _=0 from rfl) (zac zfY rfl dc rfl (show _=0 from rfl) ?_)))
         refine zbe (k:=4) (l':=[.string r6,hd10.v,hd11.v,.string text1]) zrz rfl rfl rfl rfl rfl (fun _ _=>rfl) rfl ?_
         refine zyN (za9 (zcH dc (zap (zaz ?_))))
         exact zaq (r6,p15,p16,false,row3,hd10,hd11) h rfl (zba rfl) (zad [0,1,2,3,4,5,6] kr rfl)
        refine zyG (zyR 1 rfl (zar rfl dc rfl (zac zcz rfl dc rfl (show _=0 from rfl) (zac zeE rfl dc rfl (show _=1 from rfl) (zan (k:=4) zjZ rfl dc rfl rfl rfl (zcm (k:=5) rfl dc rfl rfl Tryz.underlying26 (zaW rfl za1 (zyR 1 rfl (zyN ?_)))))))))
        refine zyB rfl h (fun h => ?_) (fun h => ?_)
        ·
         refine zaH ?_
         refine zbz 4 [(0,79,zP b6),(1,80,zI r3.1.From),(2,81,.agg #[zI 3,zI r3.1.From]),(3,2,.pointer none)] mixed kr kr dc (by rfl) kr kr (zae ?_ (zae ?_ (zae ?_ (zae ?_ DrawPre.nil)))) ?_
         · exact fun D n d c u i=>zac zev rfl dc (za8 (by rfl) rfl) (show _=0 from rfl) (zaf 0 u i rfl)
         · exact fun D n d c u i=>zan (k:=7) zbS rfl dc (zaa (m:=0) u rfl (d 0 dc)) rfl rfl (zaf 1 u i rfl)
         · exact fun D n d c u i=>zbb (v:=.agg #[zI 3,zI r3.1.From]) (ps:=[(0,.const (zI 3)),(1,.tmp 80)]) rfl dc (evP.cons rfl (evP.cons (zaa (m:=1) u rfl (d 1 dc)) evP.nil)) (fun _=>by kernel_rfl) (zaf 2 u i rfl)
         · exact fun D n d c u i=>zyR 1 rfl (zaf 3 u i rfl)
         refine zaU (k:=0) (vs:=[zI 3,zI r3.1.From]) (l':=[zI 3,zI r3.1.From]) ziI rfl rfl rfl rfl rfl (show _≤_ by simp) rfl rfl (zyN (zaA (zal (zai (zal (zai (zai (zal (zai (zcl (by simp) (zck zaP zaO 106 ?_)))))))))))
         cases h
         exact zaF (rs:=[.tmp 2,.cell 3 60]) (.pointer none) (.inl rfl) Tryz.results22 (.cons (.tmp rfl) (.cons (.cells zl3 (k:=0) rfl rfl rfl) .nil)) rfl (zad [8] kr rfl)
        refine zau (zah ?_)
        exact zaq (r3.1.From,r3.1.To,zbE text1 r3.1.From r3.1.To,b6) h rfl (zba rfl) (zad [0,1,2,3,4,5,6,7] kr rfl)
       refine zyR 4 rfl (zyN (zaT rfl (zyG (zyR 1 rfl (zar rfl dc rfl (zac zcz rfl dc rfl (show _=0 from rfl) (zac zeE rfl dc rfl (show _=1 from rfl) (zan (k:=4) zjZ rfl dc rfl rfl rfl ?_))))))))
       refine zcm (k:=5) rfl dc rfl rfl Tryz.underlying26 (zaW rfl za1 (zyR 1 rfl (zyN ?_)))
       refine zyB rfl h (fun h => ?_) (fun h => ?_)
       ·
        refine zaH ?_
        refine zbz 4 [(0,79,zP b6),(1,80,zI r3.1.From),(2,81,.agg #[zI 3,zI r3.1.From]),(3,2,.pointer none)] mixed kr kr dc (by rfl) kr kr (zae ?_ (zae ?_ (zae ?_ (zae ?_ DrawPre.nil)))) ?_
        · exact fun D n d c u i=>zac zev rfl dc (za8 (by rfl) rfl) (show _=0 from rfl) (zaf 0 u i rfl)
        · exact fun D n d c u i=>zan (k:=7) zbS rfl dc (zaa (m:=0) u rfl (d 0 dc)) rfl rfl (zaf 1 u i rfl)
        · exact fun D n d c u i=>zbb (v:=.agg #[zI 3,zI r3.1.From]) (ps:=[(0,.const (zI 3)),(1,.tmp 80)]) rfl dc (evP.cons rfl (evP.cons (zaa (m:=1) u rfl (d 1 dc)) evP.nil)) (fun _=>by kernel_rfl) (zaf 2 u i rfl)
        · exact fun D n d c u i=>zyR 1 rfl (zaf 3 u i rfl)
        refine zaU (k:=0) (vs:=[zI 3,zI r3.1.From]) (l':=[zI 3,zI r3.1.From]) ziI rfl rfl rfl rfl rfl (show _≤_ by simp) rfl rfl (zyN (zaA (zal (zai (zal (zai (zai (zal (zai (zcl (by simp) (zck zaP zaO 106 ?_)))))))))))
        cases h
        exact zaF (rs:=[.tmp 2,.cell 3 60]) (.pointer none) (.inl rfl) Tryz.results22 (.cons (.tmp rfl) (.cons (.cells zl3 (k:=0) rfl rfl rfl) .nil)) rfl (zad [8] kr rfl)
       refine zau (zah ?_)
       exact zaq (r3.1.From,r3.1.To,zbE text1 r3.1.From r3.1.To,b6) h rfl (zba rfl) (zad [0,1,2,3,4,5,6,7] kr rfl)
      rintro ⟨span1,span2,line1,b5⟩ h
      rw [hj3] at h
      obtain ⟨j4,hj4,h⟩:=zbO h
      refine zaY (β:=(List Gapi_Span)×Hd) 2 rfl (fun b=>j4 b.1=some r) (fun b=>[]) (fun b=>[(0,.string text1),(3,zP b1),(4,zP b4),(6,zP b3),(7,.bool false),(10,zP b5),(13,.string line1),(14,zI (p15.length:Int)),(30,zI r2),(31,zI x3)]) (fun b=>[cells b1 [zI 0,zI 0] 60,cells b4 [.string p4.text,hd3.v,hd4.v] 153,zv5 hd3.v p4.places,zv4 hd4.v p4.lines,cells b3 [.string p14,hd10.v,b.2.v,.string text1] 106,zv2 hd10.v p15,zv3 b.2.v b.1,cells b5 [zI span1,zI span2] 38]) (fun cut => ?_) ?_
      ·
       refine zyG (zyR 1 rfl (zyH (zyR 1 rfl (zar rfl dc rfl (zac zcz rfl dc rfl (show _=0 from rfl) (zac zeE rfl dc rfl (show _=1 from rfl) (zan (k:=4) zjZ rfl dc rfl rfl rfl (zcm (k:=5) rfl dc rfl rfl Tryz.underlying26 (zyR 1 rfl ?_)))))))))
       refine zyN (cut (zyG (zyR 1 rfl (zdJ rfl dc rfl zcA (zyN ?_)))))
       refine zyB rfl h (fun h => ?_) (fun h => ?_)
       ·
        refine zaB (zyR 2 rfl (zar rfl dc rfl (zac zcz rfl dc rfl (show _=0 from rfl) (zac zij rfl dc rfl (show _=2 from rfl) (zan (k:=4) zoA rfl dc rfl rfl rfl (zyR 2 rfl ?_))))))
        refine zbb (v:=.agg #[zI (p15.length:Int),zI (p15.length:Int)]) (ps:=[(0,.tmp 96),(1,.tmp 97)]) rfl dc rfl (fun _=>by kernel_rfl) ?_
        refine zaR (cs:=[zI (p15.length:Int),zI (p15.length:Int)]) (te:=38) (ps:=[(0,.tmp 98)]) rfl dc rfl (fun _=>by kernel_rfl) (fun b7 => ?_)
        obtain ⟨hg4,h⟩:=zbw h
        refine zaZ (k:=6) (k2:=8) (ys:=[(⟨(p15.length:Int),(p15.length:Int)⟩:Gapi_Span)]) Tryz.underlying102 zmn zbn zco rfl dc rfl rfl rfl rfl rfl rfl hg4 (fun v2 => ?_)
        refine zbo (k:=6) rfl (fun hd15 he1 => ?_)
        subst he1
        refine zar rfl dc rfl (zac zcz rfl dc rfl (show _=0 from rfl) (zac zij rfl dc rfl (show _=2 from rfl) ?_))
        refine zbe (k:=4) (l':=[.string p14,hd10.v,hd15.v,.string text1]) zuE rfl rfl rfl rfl rfl (fun _ _=>rfl) rfl ?_
        refine zaX ?_
        exact zaq (p16++[(⟨(p15.length:Int),(p15.length:Int)⟩:Gapi_Span)],hd15) h rfl (zba rfl) (zad [0,1,2,3,4,5,6,7] kr rfl)
       refine zau ?_
       exact zaq (p16,hd11) h rfl (zba rfl) (zad [0,1,2,3,4,5,6,7] kr rfl)
      rintro ⟨p20,hd14⟩ h
      rw [hj4] at h
      refine zyG (zyR 1 rfl (zyN (zaH ?_)))
      obtain ⟨hg5,h⟩:=zbw h
      obtain ⟨q1,hq8,h⟩:=zbx h
      refine zbz 12 [(0,104,zP b3),(1,105,zP b3),(2,106,zP b3),(3,107,.pointer (some ⟨b3,2,none⟩)),(4,108,hd14.v),(5,109,zP b3),(6,110,zP b3),(7,111,zP b3),(8,112,.pointer (some ⟨b3,2,none⟩)),(9,113,hd14.v),(10,114,zI (p20.length:Int)),(11,115,zI ((p20.length:Int) - 1))] mixed kr kr dc (by rfl) kr kr (zyP 1 0 rfl (zae ?_ (zae ?_ (zae ?_ (zae ?_ (zyP 1 5 rfl (zae ?_ (zae ?_ (zae ?_ (zae ?_ (zae ?_ (zae ?_ DrawPre.nil)))))))))))) ?_
      · exact fun D n d c u i=>zar rfl dc (zaa (m:=0) u rfl (d 0 dc)) (zaf 1 u i rfl)
      · exact fun D n d c u i=>zac zcz rfl dc (zaa (m:=1) u rfl (d 1 dc)) (show _=0 from rfl) (zaf 2 u i rfl)
      · exact fun D n d c u i=>zac zij rfl dc (zaa (m:=2) u rfl (d 2 dc)) (show _=2 from rfl) (zaf 3 u i rfl)
      · exact fun D n d c u i=>zan (k:=4) zoA rfl dc (zaa (m:=3) u rfl (d 3 dc)) rfl rfl (zaf 4 u i rfl)
      · exact fun D n d c u i=>zar rfl dc (zaa (m:=5) u rfl (d 5 dc)) (zaf 6 u i rfl)
      · exact fun D n d c u i=>zac zcz rfl dc (zaa (m:=6) u rfl (d 6 dc)) (show _=0 from rfl) (zaf 7 u i rfl)
      · exact fun D n d c u i=>zac zij rfl dc (zaa (m:=7) u rfl (d 7 dc)) (show _=2 from rfl) (zaf 8 u i rfl)
      · exact fun D n d c u i=>zan (k:=4) zoA rfl dc (zaa (m:=8) u rfl (d 8 dc)) rfl rfl (zaf 9 u i rfl)
      · exact fun D n d c u i=>zcm (k:=6) rfl dc (zaa (m:=9) u rfl (d 9 dc)) rfl Tryz.underlying102 (zaf 10 u i rfl)
      · exact fun D n d c u i=>zcc rfl dc (zaa (m:=10) u rfl (d 10 dc)) rfl (zcd (r:=(p20.length:Int) - 1) (IntWalk.i64_in _ hg5)) (zaf 11 u i rfl)
      refine zaL (k:=6) hq8 Tryz.underlying102 zjS rfl dc rfl rfl rfl rfl (zyR 1 rfl (zyH (zyR 1 rfl ?_)))
      obtain ⟨r7,hq9,h⟩:=zbx h
      refine zbc (v:=zI r7) (vs:=[.string line1]) rfl dc rfl rfl rfl zwE (zk5 hq9) (zyR 1 rfl (zyN (zaH ?_)))
      obtain ⟨hg6,h⟩:=zbw h
      obtain ⟨hg7,h⟩:=zbw h
      obtain ⟨hg8,h⟩:=zbw h
      obtain ⟨hg9,h⟩:=zbw h
      obtain ⟨hg10,h⟩:=zbw h
      refine zfz 1 ?_
      refine let vals1:(Nat×Hd)→List (Nat×Nat×Value):=fun b=>[(0,119,zP b3),(1,120,zP b3),(2,121,zP b3),(3,122,zP b3),(4,123,.pointer (some ⟨b3,1,none⟩)),(5,124,hd10.v),(6,125,.string line1),(7,126,zI r7),(8,127,.string (zbE line1 r7 (line1.size:Int))),(9,128,zI r7),(10,129,zP b3),(11,130,zP b3),(12,131,zP b3),(13,132,.pointer (some ⟨b3,2,none⟩)),(14,133,hd14.v),(15,134,zI (p20.length:Int)),(16,135,zI ((p20.length:Int) - 1)),(17,136,zI (p15.length:Int)),(18,137,.pointer (some ⟨zdK hd14.v,((p20.length:Int) - 1:Int).toNat*2,none⟩)),(19,138,.pointer (some ⟨zdK hd14.v,((p20.length:Int) - 1:Int).toNat*2,none⟩)),(20,139,.pointer (some ⟨zdK hd14.v,(((p20.length:Int) - 1:Int).toNat)*2,none⟩)),(21,140,zI q1.From),(22,141,zI ((p15.length:Int) - q1.From)),(23,142,zP b5),(24,143,zI span1),(25,144,zI r7),(26,145,zI (span1+r7)),(27,146,.pointer (some ⟨b5,1,none⟩)),(28,147,zI span2),(29,148,.agg #[zI (span1+r7),zI span2]),(30,149,.agg #[.string (zbE line1 r7 (line1.size:Int)),zI r7,zI ((p20.length:Int) - 1),zI ((p15.length:Int) - q1.From),zI (span1+r7),zI span2]),(31,150,.slice (some ⟨b.1,0,none⟩) 1 1),(32,151,b.2.v)]; let LL1:(Nat→Prop)→(Nat×Hd)→List Asn:=fun D b=>[cells b1 [zI 0,zI 0] 60,cells b4 [.string p4.text,hd3.v,hd4.v] 153,zv5 hd3.v p4.places,zv4 hd4.v p4.lines,cells b3 [.string p14,hd10.v,hd14.v,.string text1] 106,eD D (zv2 hd10.v p15) [(32,zv2 b.2.v (p15++[(⟨zbE line1 r7 (line1.size:Int),r7,(p20.length:Int) - 1,(p15.length:Int) - q1.From,span1+r7,span2⟩:Gapi_Verse)]))],zv3 hd14.v p20,cells b5 [zI span1,zI span2] 38,eD D emp [(31,cells b.1 [.string (zbE line1 r7 (line1.size:Int)),zI r7,zI ((p20.length:Int) - 1),zI ((p15.length:Int) - q1.From),zI (span1+r7),zI span2] 76)]]; ?_
      have zhq:zyQ [31,32] LL1:=fun i h D b=>zab rfl (zab rfl (zab rfl (zab rfl (zab rfl (zab (zja rfl h) (zab rfl (zab rfl (zab (zja rfl h) rfl))))))))
      refine zdB (β:=Nat×Hd) 33 ((0:Nat),Hd.nil) vals1 LL1 mixed kr kr dc (fun _=>rfl) (znG (zab zbN (zek (zab zbN rfl)))) (zlc zhq (fun _=>rfl) (fun _=>rfl) 2 0 (fun _=>rfl) rfl (zyq zhq rfl (fun _=>rfl) (fun _=>rfl) ?_ (zyq zhq rfl (fun _=>rfl) (fun _=>rfl) ?_ (zyq zhq rfl (fun _=>rfl) (fun _=>rfl) ?_ (zgj zhq rfl (fun _=>rfl) (fun _=>rfl) ?_ (zlc zhq (fun _=>rfl) (fun _=>rfl) 2 6 (fun _=>rfl) rfl (zgj zhq rfl (fun _=>rfl) (fun _=>rfl) ?_ (zlc zhq (fun _=>rfl) (fun _=>rfl) 2 9 (fun _=>rfl) rfl (zyq zhq rfl (fun _=>rfl) (fun _=>rfl) ?_ (zyq zhq rfl (fun _=>rfl) (fun _=>rfl) ?_ (zyq zhq rfl (fun _=>rfl) (fun _=>rfl) ?_ (zgj zhq rfl (fun _=>rfl) (fun _=>rfl) ?_ (zgj zhq rfl (fun _=>rfl) (fun _=>rfl) ?_ (zyq zhq rfl (fun _=>rfl) (fun _=>rfl) ?_ (zlc zhq (fun _=>rfl) (fun _=>rfl) 2 17 (fun _=>rfl) rfl (zyq zhq rfl (fun _=>rfl) (fun _=>rfl) ?_ (zyq zhq rfl (fun _=>rfl) (fun _=>rfl) ?_ (zgj zhq rfl (fun _=>rfl) (fun _=>rfl) ?_ (zyq zhq rfl (fun _=>rfl) (fun _=>rfl) ?_ (zyq zhq rfl (fun _=>rfl) (fun _=>rfl) ?_ (zgj zhq rfl (fun _=>rfl) (fun _=>rfl) ?_ (zlc zhq (fun _=>rfl) (fun _=>rfl) 1 25 (fun _=>rfl) rfl (zyq zhq rfl (fun _=>rfl) (fun _=>rfl) ?_ (zyq zhq rfl (fun _=>rfl) (fun _=>rfl) ?_ (zgj zhq rfl (fun _=>rfl) (fun _=>rfl) ?_ (zyq zhq rfl (fun _=>rfl) (fun _=>rfl) ?_ (zyq zhq rfl (fun _=>rfl) (fun _=>rfl) ?_ (zat ?_ (zat ?_ DrawG.nil))))))))))))))))))))))))))))) ?_
      · exact fun D ⟨b8,hd16⟩ n d c u i=>zar rfl dc (zaa (m:=1) u rfl (d 1 dc)) (zaf 2 u i rfl)
      · exact fun D ⟨b8,hd16⟩ n d c u i=>zac zcz rfl dc (zaa (m:=2) u rfl (d 2 dc)) (show _=0 from rfl) (zaf 3 u i rfl)
      · exact fun D ⟨b8,hd16⟩ n d c u i=>zac zeE rfl dc (zaa (m:=3) u rfl (d 3 dc)) (show _=1 from rfl) (zaf 4 u i rfl)
      · exact fun D ⟨b8,hd16⟩ n d c u i=>⟨_,(znG (zab (zag (fun hD=>n (c 32 _ rfl hD 5 dc)) zaj) (zcK rfl))),zan (k:=4) zjZ rfl dc (zaa (m:=4) u rfl (d 4 dc)) rfl rfl (zaf 5 u i rfl)⟩
      · exact fun D ⟨b8,hd16⟩ n d c u i=>⟨_,(znG (zab (zag (fun hD=>n (c 30 _ rfl (c 31 _ rfl (c 32 _ rfl hD 31 dc) 30 dc) 8 dc)) zaj) (zek (zab (zag (fun hD=>n (c 30 _ rfl (c 31 _ rfl hD 30 dc) 8 dc)) zaj) rfl)))),zd8 rfl dc (zaa (m:=6) u rfl (d 6 dc)) (evO.some (zaa (m:=7) u rfl (d 7 dc))) zik (zb9 (i:=r7) (j:=(line1.size:Int)) Tryz.underlying9 (.inr rfl) (.inl ⟨rfl,rfl⟩) hg6) (zaf 8 u i rfl)⟩
      · exact fun D ⟨b8,hd16⟩ n d c u i=>zar rfl dc (zaa (m:=10) u rfl (d 10 dc)) (zaf 11 u i rfl)
      · exact fun D ⟨b8,hd16⟩ n d c u i=>zac zcz rfl dc (zaa (m:=11) u rfl (d 11 dc)) (show _=0 from rfl) (zaf 12 u i rfl)
      · exact fun D ⟨b8,hd16⟩ n d c u i=>zac zij rfl dc (zaa (m:=12) u rfl (d 12 dc)) (show _=2 from rfl) (zaf 13 u i rfl)
      · exact fun D ⟨b8,hd16⟩ n d c u i=>⟨_,(znG (zab (zag (fun hD=>n (c 15 _ rfl (c 16 _ rfl (c 30 _ rfl (c 31 _ rfl (c 32 _ rfl hD 31 dc) 30 dc) 16 dc) 15 dc) 14 dc)) zaj) (zek (zab (zag (fun hD=>n (c 15 _ rfl (c 16 _ rfl (c 30 _ rfl (c 31 _ rfl hD 30 dc) 16 dc) 15 dc) 14 dc)) zaj) rfl)))),zan (k:=4) zoA rfl dc (zaa (m:=13) u rfl (d 13 dc)) rfl rfl (zaf 14 u i rfl)⟩
      · exact fun D ⟨b8,hd16⟩ n d c u i=>⟨_,(znG (zab (zag (fun hD=>n (c 16 _ rfl (c 30 _ rfl (c 31 _ rfl (c 32 _ rfl hD 31 dc) 30 dc) 16 dc) 15 dc)) zaj) (zek (zab (zag (fun hD=>n (c 16 _ rfl (c 30 _ rfl (c 31 _ rfl hD 30 dc) 16 dc) 15 dc)) zaj) rfl)))),zcm (k:=6) rfl dc (zaa (m:=14) u rfl (d 14 dc)) rfl Tryz.underlying102 (zaf 15 u i rfl)⟩
      · exact fun D ⟨b8,hd16⟩ n d c u i=>zcc rfl dc (zaa (m:=15) u rfl (d 15 dc)) rfl (zcd (r:=(p20.length:Int) - 1) (IntWalk.i64_in _ hg7)) (zaf 16 u i rfl)
      · exact fun D ⟨b8,hd16⟩ n d c u i=>zar rfl dc (zaa (m:=18) u rfl (d 18 dc)) (zaf 19 u i rfl)
      · exact fun D ⟨b8,hd16⟩ n d c u i=>zac zev rfl dc (zaa (m:=19) u rfl (d 19 dc)) (show _=(((p20.length:Int) - 1:Int).toNat)*2 from rfl) (zaf 20 u i rfl)
      · exact fun D ⟨b8,hd16⟩ n d c u i=>⟨_,(znG (zab (zag (fun hD=>n (c 22 _ rfl (c 30 _ rfl (c 31 _ rfl (c 32 _ rfl hD 31 dc) 30 dc) 22 dc) 21 dc)) zaj) (zek (zab (zag (fun hD=>n (c 22 _ rfl (c 30 _ rfl (c 31 _ rfl hD 30 dc) 22 dc) 21 dc)) zaj) rfl)))),zbk (i:=((p20.length:Int) - 1:Int).toNat) (j:=0) (k:=6) (q:=q1) zbS zbn rfl dc (zaa (m:=20) u rfl (d 20 dc)) rfl (za0 hq8) rfl dc rfl (zaf 21 u i rfl)⟩
      · exact fun D ⟨b8,hd16⟩ n d c u i=>zcc rfl dc (zaa (m:=17) u rfl (d 17 dc)) (zaa (m:=21) u rfl (d 21 dc)) (zcd (r:=(p15.length:Int) - q1.From) (IntWalk.i64_in _ hg8)) (zaf 22 u i rfl)
      · exact fun D ⟨b8,hd16⟩ n d c u i=>zac zev rfl dc (za8 (by rfl) rfl) (show _=0 from rfl) (zaf 23 u i rfl)
      · exact fun D ⟨b8,hd16⟩ n d c u i=>⟨_,(znG (zab (zag (fun hD=>n (c 26 _ rfl (c 29 _ rfl (c 30 _ rfl (c 31 _ rfl (c 32 _ rfl hD 31 dc) 30 dc) 29 dc) 26 dc) 24 dc)) zaj) (zek (zab (zag (fun hD=>n (c 26 _ rfl (c 29 _ rfl (c 30 _ rfl (c 31 _ rfl hD 30 dc) 29 dc) 26 dc) 24 dc)) zaj) rfl)))),zan (k:=7) zbS rfl dc (zaa (m:=23) u rfl (d 23 dc)) rfl rfl (zaf 24 u i rfl)⟩
      · exact fun D ⟨b8,hd16⟩ n d c u i=>zcc rfl dc (zaa (m:=24) u rfl (d 24 dc)) (zaa (m:=25) u rfl (d 25 dc)) (zaV (r:=span1+r7) (IntWalk.i64_in _ hg9)) (zaf 26 u i rfl)
      · exact fun D ⟨b8,hd16⟩ n d c u i=>zac zeu rfl dc (za8 (by rfl) rfl) (show _=1 from rfl) (zaf 27 u i rfl)
      · exact fun D ⟨b8,hd16⟩ n d c u i=>⟨_,(znG (zab (zag (fun hD=>n (c 29 _ rfl (c 30 _ rfl (c 31 _ rfl (c 32 _ rfl hD 31 dc) 30 dc) 29 dc) 28 dc)) zaj) (zek (zab (zag (fun hD=>n (c 29 _ rfl (c 30 _ rfl (c 31 _ rfl hD 30 dc) 29 dc) 28 dc)) zaj) rfl)))),zan (k:=7) zbS rfl dc (zaa (m:=27) u rfl (d 27 dc)) rfl rfl (zaf 28 u i rfl)⟩
      · exact fun D ⟨b8,hd16⟩ n d c u i=>zbb (v:=.agg #[zI (span1+r7),zI span2]) (ps:=[(0,.tmp 145),(1,.tmp 147)]) rfl dc (evP.cons (zaa (m:=26) u rfl (d 26 dc)) (evP.cons (zaa (m:=28) u rfl (d 28 dc)) evP.nil)) (fun _=>by kernel_rfl) (zaf 29 u i rfl)
      · exact fun D ⟨b8,hd16⟩ n d c u i=>zbb (v:=.agg #[.string (zbE line1 r7 (line1.size:Int)),zI r7,zI ((p20.length:Int) - 1),zI ((p15.length:Int) - q1.From),zI (span1+r7),zI span2]) (ps:=[(0,.tmp 127),(1,.tmp 128),(2,.tmp 135),(3,.tmp 141),(4,.tmp 148)]) rfl dc (evP.cons (zaa (m:=8) u rfl (d 8 dc)) (evP.cons (zaa (m:=9) u rfl (d 9 dc)) (evP.cons (zaa (m:=16) u rfl (d 16 dc)) (evP.cons (zaa (m:=22) u rfl (d 22 dc)) (evP.cons (zaa (m:=29) u rfl (d 29 dc)) evP.nil))))) (fun _=>by kernel_rfl) (zaf 30 u i rfl)
      ·
       intro D b hn hd hcl
       obtain ⟨zb0,hd16⟩:=b
       refine zaK (znG (zab (zag (fun hD=>hn (hcl 32 _ rfl hD 31 dc)) zaj) (zek (zab (zag hn zaj) rfl)))) ?_
       refine zaR (cs:=[.string (zbE line1 r7 (line1.size:Int)),zI r7,zI ((p20.length:Int) - 1),zI ((p15.length:Int) - q1.From),zI (span1+r7),zI span2]) (te:=76) (ps:=[(0,.tmp 149)]) rfl dc (evP.cons (zaa (m:=30) rfl rfl (hd 30 dc)) evP.nil) (fun _=>by kernel_rfl) (fun b8 => ?_)
       refine zcS 8 rfl rfl ?_
       exact zaQ (b:=(zb0,hd16)) (b8,hd16) 31 (by rfl) (by rfl) rfl (zjo (zdg (zdg (zao (fun hD=>absurd hD hn) (zao (fun _=>rfl) rfl))))) (znG (zab ((zam (by rfl)).trans (zag (fun hD=>hn (hcl 32 _ rfl hD 31 dc)) zaj)) (zek (zab (zaE (Or.inr rfl) rfl) rfl))))
      ·
       intro D b hn hd hcl
       obtain ⟨b8,zb1⟩:=b
       refine zaK (znG (zab (zag hn zaj) (zek (zab (zaE (hd 31 dc) rfl) rfl)))) ?_
       refine zaZ (k:=5) (k2:=8) (ys:=[(⟨zbE line1 r7 (line1.size:Int),r7,(p20.length:Int) - 1,(p15.length:Int) - q1.From,span1+r7,span2⟩:Gapi_Verse)]) Tryz.underlying26 zvo zc6 zfZ rfl dc (zaa (m:=5) rfl rfl (hd 5 dc)) (zaa (m:=31) rfl rfl (hd 31 dc)) rfl rfl rfl rfl hg10 (fun v3 => ?_)
       refine zbo (k:=5) rfl (fun hd16 he2 => ?_)
       subst he2
       exact zaQ (b:=(b8,zb1)) (b8,hd16) 32 (by rfl) (by rfl) rfl (zhe (zdg (zdg (zao (fun hD=>absurd hD hn) rfl)))) (znG (zab (zaE (Or.inr rfl) rfl) (zek (zab ((zam (by rfl)).trans (zaE (hd 31 dc) rfl)) rfl))))
      intro D b hall
      obtain ⟨b8,hd16⟩:=b
      refine zaK (znG (zab (zaE (hall 32 dc) rfl) (zek (zab (zaE (hall 31 dc) rfl) rfl)))) (zar rfl dc rfl (zac zcz rfl dc rfl (show _=0 from rfl) (zac zeE rfl dc rfl (show _=1 from rfl) ?_)))
      refine zbe (k:=4) (l':=[.string p14,hd16.v,hd14.v,.string text1]) zwa rfl rfl rfl rfl rfl (fun _ _=>rfl) rfl ?_
      refine zyN (zaB (zyR 2 rfl ?_))
      obtain ⟨hg11,h⟩:=zbw h
      refine zaW rfl (zaV (r:=(p15.length:Int)+1) (IntWalk.i64_in _ hg11)) (zar rfl dc rfl (zac zeu rfl dc rfl (show _=(((p20.length:Int) - 1:Int).toNat)*2+1 from rfl) ?_))
      refine zei (i:=((p20.length:Int) - 1:Int).toNat) (j:=1) (k:=6) (q:=q1) (q':=(⟨q1.From,(p15.length:Int)+1⟩:Gapi_Span)) zf9 zbn rfl rfl rfl rfl (za0 hq8) rfl dc rfl (fun _ _=>rfl) ?_
      refine zaX (zah ?_)
      exact zaq (p14,p15++[(⟨zbE line1 r7 (line1.size:Int),r7,(p20.length:Int) - 1,(p15.length:Int) - q1.From,span1+r7,span2⟩:Gapi_Verse)],p20.set ((p20.length:Int) - 1:Int).toNat (⟨q1.From,(p15.length:Int)+1⟩:Gapi_Span),false,true,hd16,hd14) h rfl (zba rfl) (zad [0,1,2,3,4,5,6] kr rfl)
     rintro ⟨p17,p18,p19,first4,row4,hd12,hd13⟩ h
     rw [hj2] at h
     refine zaB ?_
     obtain ⟨hg12,h⟩:=zbw h
     refine zaW rfl (zaV (r:=x3+1) (IntWalk.i64_in _ hg12)) (zyR 1 rfl (zaX ?_))
     subst hag1
     exact za4 (n1,p17,p18,p19,first4,row4,x3+1,hd12,hd13) h (Nat.lt_succ_self _) rfl (zba rfl) (zad [0,1,2,3,4,5,6] kr rfl)
    refine za9 (zap (zap (zaz ?_)))
    exact zaq (p14,p15,p16,b3,hd10,hd11) h rfl (zba rfl) (zad [0,4,5,6] kr rfl)
  rintro ⟨p1,p2,p3,b2,hd1,hd2⟩ h
  rw [hj1] at h
  refine zyG (zyR 1 rfl ?_)
  refine zbb (v:=.agg #[zI 0,zI 0]) (ps:=[]) rfl dc rfl (fun _=>by kernel_rfl) ?_
  refine zyR 1 rfl (zaU (k:=0) (vs:=[zI 0,zI 0]) (l':=[zI 0,zI 0]) ziI rfl rfl rfl rfl rfl (show _≤_ by simp) rfl rfl (zyN (zaA (zcl (by simp) ?_))))
  refine zoi (As:=[cells b2 [.string p1,hd1.v,hd2.v,.string text1] 106,zv2 hd1.v p2,zv3 hd2.v p3]) (zad [1,2,3] kr rfl) (zi9 (enc:=zaP) (nest:=zaO) (t:=106) (x:=(⟨p1,p2,p3,text1⟩:Gpoem_Poem)) (b:=b2) (hd:=(hd1,hd2))) (fun _ _ => ?_)
  cases h
  exact zaF (rs:=[.tmp 2,.cell 3 60]) (zP b2) (.inl rfl) Tryz.results22 (.cons (.tmp rfl) (.cons (.cells zl3 (k:=0) rfl rfl rfl) .nil)) rfl (zad [4] kr rfl)
 exact fun b hb=>hb.elim
end Go.Proofs.YtbempdelckaccaaGreatDoor

namespace Go.Proofs.YtbempdelckaccaaGreatDoor
open Go.RowKit Go.Lib
set_option linter.unusedVariables false
set_option linter.unusedSimpArgs false
def zcX (s1:ByteArray) (j1:ByteArray→(List (List ByteArray))→(List Gapi_Verse)→Option (Gref17_Poem×(List Gapi_Verse)×Gapi_Spot)) (r1:(List Gapi_Span)) (ag1:ByteArray→(List (List ByteArray))→(List Gapi_Verse)→Bool→Bool→Int→Option (Gref17_Poem×(List Gapi_Verse)×Gapi_Spot)) (p10:ByteArray) (p11:List (List ByteArray)) (l4:List Gapi_Verse) (first3:Bool) (row3:Bool) (i3:Int):Option (Gref17_Poem×(List Gapi_Verse)×Gapi_Spot) :=
zax (decide ((i3:Int)<(r1.length:Int))) (
zbr (fun (j2:ByteArray→(List (List ByteArray))→(List Gapi_Verse)→Bool→Bool→Option (Gref17_Poem×(List Gapi_Verse)×Gapi_Spot)) =>
zak (zcN r1 i3) fun (q1:Gapi_Span) =>
grd (0≤(q1.From:Int)∧(q1.From:Int)≤q1.To∧(q1.To:Int)≤(s1.size:Int)) <|
zak (zem (zbE s1 q1.From q1.To)) fun (r2:Bool) =>
zax (r2) (
j2 p10 p11 l4 first3 false
) (
zax (decide ((1024:Int)<((zbE s1 q1.From q1.To).size:Int))) (
grd (I64 (q1.From+1024)) <|
some ((⟨ByteArray.empty,([]:List (List ByteArray))⟩:Gref17_Poem),([]:List Gapi_Verse),(⟨3,q1.From+1024⟩:Gapi_Spot))
) (
zbr (fun (j3:Option (Gref17_Poem×(List Gapi_Verse)×Gapi_Spot)) =>
zax (first3) (
zak (zey (zbE s1 q1.From q1.To)) fun (r3:Bool) =>
zax (r3) (
zbr (fun (j4:ByteArray→Option (Gref17_Poem×(List Gapi_Verse)×Gapi_Spot)) =>
zax (decide ((2:Int)<((zbE s1 q1.From q1.To).size:Int))) (
grd (0≤(2:Int)∧(2:Int)≤((zbE s1 q1.From q1.To).size:Int)∧(((zbE s1 q1.From q1.To).size:Int):Int)≤((zbE s1 q1.From q1.To).size:Int)) <|
j4 (zbE (zbE s1 q1.From q1.To) 2 ((zbE s1 q1.From q1.To).size:Int))
) (
j4 p10
)
) (fun (p14:ByteArray) =>
j2 p14 p11 l4 false row3
)
) (
j3
)
) (
j3
)
) (
zax (((l4.length:Int):Int)==512) (
some ((⟨ByteArray.empty,([]:List (List ByteArray))⟩:Gref17_Poem),([]:List Gapi_Verse),(⟨3,q1.From⟩:Gapi_Spot))
) (
zbr (fun (j5:(List (List ByteArray))→Option (Gref17_Poem×(List Gapi_Verse)×Gapi_Spot)) =>
zax (!row3) (
grd (p11.length+1≤2147483648) <|
j5 (p11++[([]:List ByteArray)])
) (
j5 p11
)
) (fun (p15:List (List ByteArray)) =>
grd (I64 ((p15.length:Int) - 1)) <|
zak (zb6 (zbE s1 q1.From q1.To)) fun (r4:Int) =>
grd (0≤(r4:Int)∧(r4:Int)≤((zbE s1 q1.From q1.To).size:Int)∧(((zbE s1 q1.From q1.To).size:Int):Int)≤((zbE s1 q1.From q1.To).size:Int)) <|
zak (zb6 (zbE s1 q1.From q1.To)) fun (r5:Int) =>
zak (zcN p15 ((p15.length:Int) - 1)) fun (x1:List ByteArray) =>
zak (zb6 (zbE s1 q1.From q1.To)) fun (r6:Int) =>
grd (I64 (q1.From+r6)) <|
grd (l4.length+1≤2147483648) <|
zak (zcN p15 ((p15.length:Int) - 1)) fun (x2:List ByteArray) =>
grd (x2.length+1≤2147483648) <|
j2 p10 (p15.set ((p15.length:Int) - 1:Int).toNat (x2++[zbE s1 q1.From q1.To])) (l4++[(⟨zbE (zbE s1 q1.From q1.To) r4 ((zbE s1 q1.From q1.To).size:Int),r5,(p15.length:Int) - 1,(x1.length:Int),q1.From+r6,q1.To⟩:Gapi_Verse)]) false true
)
)
)
)
)
) (fun (p12:ByteArray) (p13:List (List ByteArray)) (l5:List Gapi_Verse) (first4:Bool) (row4:Bool) =>
grd (I64 (i3+1)) <|
ag1 p12 p13 l5 first4 row4 (i3+1)
)
) (
j1 p10 p11 l4
)
def zeR (s1:ByteArray):Option (Gref17_Poem×(List Gapi_Verse)×Gapi_Spot) :=
zax (decide ((65536:Int)<(s1.size:Int))) (
some ((⟨ByteArray.empty,([]:List (List ByteArray))⟩:Gref17_Poem),([]:List Gapi_Verse),(⟨3,65536⟩:Gapi_Spot))
) (
zbr (fun (j1:ByteArray→(List (List ByteArray))→(List Gapi_Verse)→Option (Gref17_Poem×(List Gapi_Verse)×Gapi_Spot)) =>
zak (ze1 s1) fun (r1:(List Gapi_Span)) =>
zaM (fun _ _ _ _ _ _=>none) (zcX s1 j1 r1) zb4 ByteArray.empty ([]:List (List ByteArray)) ([]:List Gapi_Verse) true false 0
) (fun (p1:ByteArray) (p2:List (List ByteArray)) (l1:List Gapi_Verse) =>
some ((⟨p1,p2⟩:Gref17_Poem),l1,(⟨0,0⟩:Gapi_Spot))
)
)
theorem zma {s1:ByteArray} {r:(Gref17_Poem×(List Gapi_Verse)×Gapi_Spot)} (h:zeR s1=some r):Fn Tryz.prog 68 [.string s1] [] (fun b:Hd×Value=>.tuple #[.agg #[.string r.1.Title,b.1.v],b.2,.agg (zr6 r.2.2).toArray]) (fun b=>[zfp zaD zaC 70 1 b.1.v r.1.Stanzas,zv2 b.2 r.2.1]):=by
 unfold zeR at h
 refine Fn.intro Tryz.func68 rfl Tryz.ntmps68 (by simp) ?_
 intro w0 K
 refine zyG ?_
 refine zbg zpQ rfl dc (fun b1 => ?_)
 refine zyR 1 rfl ?_
 refine zbg zpa rfl dc (fun b2 => ?_)
 refine zyH ?_
 refine zbg zpQ rfl dc (fun b3 => ?_)
 refine zyH (zyR 1 rfl (zyN (zaH (zyG (zyR 1 rfl (zbl rfl dc rfl Tryz.underlying9 (zaW rfl zcR (zaX ?_))))))))
 refine zaI ?_
 refine zyB rfl h (fun h => ?_) (fun h => ?_)
 ·
  refine zyG (za5 (k:=2) (cs:=[.string ByteArray.empty,.slice none 0 0]) zlr rfl dc rfl rfl rfl rfl ?_)
  refine zbb (v:=.agg #[zI 3,zI 65536]) (ps:=[(0,.const (zI 3)),(1,.const (zI 65536))]) rfl dc rfl (fun _=>by kernel_rfl) ?_
  refine zaU (k:=0) (vs:=[.string ByteArray.empty,.slice none 0 0]) (l':=[.string ByteArray.empty,.slice none 0 0]) zmG rfl rfl rfl rfl rfl (show _≤_ by simp) rfl rfl ?_
  refine zyR 1 rfl (zaU (k:=1) (vs:=[zI 3,zI 65536]) (l':=[zI 3,zI 65536]) ziI rfl rfl rfl rfl rfl (show _≤_ by simp) rfl rfl (zyN (zaA (zai (zoh (enc:=zaD) (nest:=zaC) (e:=70) (size:=1) ?_)))))
  refine zdx (enc:=zbu) (e:=76) (size:=6) ?_
  cases h
  exact zaF (rs:=[.cell 2 135,.tmp 3,.cell 4 60]) (Hd.nil,(.slice none 0 0)) (.inl rfl) Tryz.results68 (.cons (.cells zlr (k:=0) rfl rfl rfl) (.cons (.tmp rfl) (.cons (.cells zl3 (k:=1) rfl rfl rfl) .nil))) rfl (zad [3,4] kr rfl)
 refine zau (zaI ?_)
 obtain ⟨j1,hj1,h⟩:=zbO h
 refine zaY (β:=ByteArray×(List (List ByteArray))×(List Gapi_Verse)×Hd×Hd) 2 rfl (fun b=>j1 b.1 b.2.1 b.2.2.1=some r) (fun b=>[]) (fun b=>[(2,zP b1),(4,zP b2),(5,zP b3),(6,b.2.2.2.2.v)]) (fun b=>[cells b1 [.string ByteArray.empty,.slice none 0 0] 135,cells b2 [zI 0,zI 0] 60,cells b3 [.string b.1,b.2.2.2.1.v] 135,zfp zaD zaC 70 1 b.2.2.2.1.v b.2.1,zv2 b.2.2.2.2.v b.2.2.1]) (fun cut => ?_) ?_
 ·
  refine zyG (zyR 1 rfl ?_)
  obtain ⟨r1,hq1,h⟩:=zbx h
  refine zdI (vs:=[.string s1]) rfl dc rfl rfl rfl zwl (zk3 hq1) Splits.nil ?_
  rintro v1
  refine zbo (k:=3) rfl (fun hd3 he1 => ?_)
  subst he1
  refine zyR 1 rfl (zyH (zyR 2 rfl (zyN (cut (zyG (zyR 1 rfl (zaX ?_)))))))
  refine zaI (zaG (zmy (enc:=zaD) (nest:=zaC) (e:=70) (size:=1) ?_))
  refine zdR (enc:=zbu) (e:=76) (size:=6) ?_
  refine zbt (β:=Nat×ByteArray×(List (List ByteArray))×(List Gapi_Verse)×Bool×Bool×Int×Hd×Hd) (fun b=>zaM (fun _ _ _ _ _ _=>none) (zcX s1 j1 r1) b.1 b.2.1 b.2.2.1 b.2.2.2.1 b.2.2.2.2.1 b.2.2.2.2.2.1 b.2.2.2.2.2.2.1=some r) (fun b=>[]) (fun b=>[(0,.string s1),(2,zP b1),(4,zP b2),(5,zP b3),(6,b.2.2.2.2.2.2.2.2.v),(7,hd3.v),(8,.bool b.2.2.2.2.1),(9,.bool b.2.2.2.2.2.1),(10,zI b.2.2.2.2.2.2.1)]) (fun b=>[cells b1 [.string ByteArray.empty,.slice none 0 0] 135,cells b2 [zI 0,zI 0] 60,cells b3 [.string b.2.1,b.2.2.2.2.2.2.2.1.v] 135,zfp zaD zaC 70 1 b.2.2.2.2.2.2.2.1.v b.2.2.1,zv2 b.2.2.2.2.2.2.2.2.v b.2.2.2.1,zv3 hd3.v r1]) (fun b=>b.1) (zb4,ByteArray.empty,([]:List (List ByteArray)),([]:List Gapi_Verse),true,false,0,Hd.nil,Hd.nil) h rfl (zba rfl) (zad [0,1,2,4,5,3] kr rfl) ?_
  rintro ⟨n1,p10,p11,l4,first3,row3,i3,hd9,hd10⟩ h
  cases n1 with
  | zero=>exact zdG h
  | succ n1 =>
   obtain ⟨ag1,hag1⟩:∃ ag,ag=zaM (fun _ _ _ _ _ _=>none) (zcX s1 j1 r1) n1:=⟨_,rfl⟩
   have h:zcX s1 j1 r1 ag1 p10 p11 l4 first3 row3 i3=some r:=by rw [hag1]; exact h
   unfold zcX at h
   refine zaH (zyG (zyR 2 rfl (zcm (k:=5) rfl dc rfl rfl Tryz.underlying102 (zaW rfl zbA (zyN ?_)))))
   refine zyB rfl h (fun h => ?_) (fun h => ?_)
   ·
    refine zau (zaI ?_)
    obtain ⟨j2,hj2,h⟩:=zbO h
    refine zaY (β:=ByteArray×(List (List ByteArray))×(List Gapi_Verse)×Bool×Bool×Hd×Hd) 0 rfl (fun b=>j2 b.1 b.2.1 b.2.2.1 b.2.2.2.1 b.2.2.2.2.1=some r) (fun b=>[]) (fun b=>[(0,.string s1),(2,zP b1),(4,zP b2),(5,zP b3),(6,b.2.2.2.2.2.2.v),(7,hd3.v),(8,.bool b.2.2.2.1),(9,.bool b.2.2.2.2.1),(10,zI i3)]) (fun b=>[cells b1 [.string ByteArray.empty,.slice none 0 0] 135,cells b2 [zI 0,zI 0] 60,cells b3 [.string b.1,b.2.2.2.2.2.1.v] 135,zfp zaD zaC 70 1 b.2.2.2.2.2.1.v b.2.1,zv2 b.2.2.2.2.2.2.v b.2.2.1,zv3 hd3.v r1]) (fun cut => ?_) ?_
    ·
     refine cut (zaG (zyG (zyR 2 rfl ?_)))
     obtain ⟨q1,hq2,h⟩:=zbx h
     refine zaL (k:=5) hq2 Tryz.underlying102 zjS rfl dc rfl rfl rfl rfl (zgz (i:=(i3:Int).toNat) (j:=0) (k:=5) (q:=q1) (cs:=(zr5 q1)) zmO zbn rfl dc rfl rfl (za0 hq2) rfl rfl rfl ?_)
     refine zbg zpP rfl dc (fun b4 => ?_)
     refine zaU (k:=6) (vs:=(zr5 q1)) (l':=(zr5 q1)) zjS rfl rfl rfl rfl rfl (show _≤_ by simp) rfl rfl ?_
     refine zyH (zyR 1 rfl (zac zev rfl dc rfl (show _=0 from rfl) (zan (k:=6) zbS rfl dc rfl rfl rfl (zac zeu rfl dc rfl (show _=1 from rfl) (zan (k:=6) zbS rfl dc rfl rfl rfl ?_)))))
     obtain ⟨hg1,h⟩:=zbw h
     refine zd8 rfl dc rfl rfl rfl (zb9 (i:=q1.From) (j:=q1.To) Tryz.underlying9 (.inr rfl) (.inr rfl) hg1) (zyR 1 rfl (zyN (zaH (zyG (zyR 1 rfl ?_)))))
     obtain ⟨r2,hq3,h⟩:=zbx h
     refine zbc (v:=.bool r2) (vs:=[.string (zbE s1 q1.From q1.To)]) rfl dc rfl rfl rfl zwk (zk4 hq3) (zyN ?_)
     refine zyB rfl h (fun h => ?_) (fun h => ?_)
     ·
      refine zyG (zyR 1 rfl (zyN (za9 (zap (zaz ?_)))))
      exact zaq (p10,p11,l4,first3,false,hd9,hd10) h rfl (zba rfl) (zad [0,1,2,3,4,5] kr rfl)
     refine zau (zaI (zaH (zyG (zyR 1 rfl (zbl rfl dc rfl Tryz.underlying9 (zaW rfl zcR (zyN ?_)))))))
     refine zyB rfl h (fun h => ?_) (fun h => ?_)
     ·
      refine zaH ?_
      obtain ⟨hg2,h⟩:=zbw h
      refine zbz 7 [(0,43,.agg #[.string ByteArray.empty,.slice none 0 0]),(1,44,zP b4),(2,45,zI q1.From),(3,46,zI (q1.From+1024)),(4,47,.agg #[zI 3,zI (q1.From+1024)]),(6,3,.slice none 0 0)] mixed kr kr dc (by rfl) kr kr (zae ?_ (zae ?_ (zae ?_ (zae ?_ (zae ?_ (zae ?_ (zae ?_ DrawPre.nil))))))) ?_
      · exact fun D n d c u i=>zbb (v:=.agg #[.string ByteArray.empty,.slice none 0 0]) (ps:=[]) rfl dc evP.nil (fun _=>by kernel_rfl) (zaf 0 u i rfl)
      · exact fun D n d c u i=>zac zev rfl dc (za8 (by rfl) rfl) (show _=0 from rfl) (zaf 1 u i rfl)
      · exact fun D n d c u i=>zan (k:=6) zbS rfl dc (zaa (m:=1) u rfl (d 1 dc)) rfl rfl (zaf 2 u i rfl)
      · exact fun D n d c u i=>zcc rfl dc (zaa (m:=2) u rfl (d 2 dc)) rfl (zaV (r:=q1.From+1024) (IntWalk.i64_in _ hg2)) (zaf 3 u i rfl)
      · exact fun D n d c u i=>zbb (v:=.agg #[zI 3,zI (q1.From+1024)]) (ps:=[(0,.const (zI 3)),(1,.tmp 46)]) rfl dc (evP.cons rfl (evP.cons (zaa (m:=3) u rfl (d 3 dc)) evP.nil)) (fun _=>by kernel_rfl) (zaf 4 u i rfl)
      · exact fun D n d c u i=>zaU (k:=0) (vs:=[.string ByteArray.empty,.slice none 0 0]) (l':=[.string ByteArray.empty,.slice none 0 0]) zmG rfl (za8 (by rfl) rfl) (zaa (m:=0) u rfl (d 0 dc)) rfl rfl (show _≤_ by simp) rfl rfl (znB (by rfl))
      · exact fun D n d c u i=>zyR 1 rfl (zaf 5 u i rfl)
      refine zaU (k:=1) (vs:=[zI 3,zI (q1.From+1024)]) (l':=[zI 3,zI (q1.From+1024)]) ziI rfl rfl rfl rfl rfl (show _≤_ by simp) rfl rfl (zyN (zaA (zai (zal (zai (zai (zal (zai (zoh (enc:=zaD) (nest:=zaC) (e:=70) (size:=1) ?_)))))))))
      refine zdx (enc:=zbu) (e:=76) (size:=6) ?_
      cases h
      exact zaF (rs:=[.cell 2 135,.tmp 3,.cell 4 60]) (Hd.nil,(.slice none 0 0)) (.inl rfl) Tryz.results68 (.cons (.cells zlr (k:=0) rfl rfl rfl) (.cons (.tmp rfl) (.cons (.cells zl3 (k:=1) rfl rfl rfl) .nil))) rfl (zad [7,8] kr rfl)
     refine zau (zaI ?_)
     obtain ⟨j3,hj3,h⟩:=zbO h
     refine zaY (β:=Unit) 0 rfl (fun b=>j3=some r) (fun b=>[]) (fun b=>[(0,.string s1),(2,zP b1),(4,zP b2),(5,zP b3),(6,hd10.v),(7,hd3.v),(9,.bool row3),(10,zI i3),(11,zP b4),(12,.string (zbE s1 q1.From q1.To))]) (fun b=>[cells b1 [.string ByteArray.empty,.slice none 0 0] 135,cells b2 [zI 0,zI 0] 60,cells b3 [.string p10,hd9.v] 135,zfp zaD zaC 70 1 hd9.v p11,zv2 hd10.v l4,zv3 hd3.v r1,cells b4 (zr5 q1) 38]) (fun cut => ?_) ?_
     ·
      refine cut (zyG (zyR 2 rfl ?_))
      refine zyS (s:=49) rfl h (fun h => ?_) (fun h => ?_)
      ·
       refine zyR 1 rfl ?_
       obtain ⟨r3,hq4,h⟩:=zbx h
       refine zbc (v:=.bool r3) (vs:=[.string (zbE s1 q1.From q1.To)]) rfl dc rfl rfl rfl zvm (zj8 hq4) (zyR 1 rfl (zyN ?_))
       refine zyB rfl h (fun h => ?_) (fun h => ?_)
       ·
        obtain ⟨j4,hj4,h⟩:=zbO h
        refine zaY (β:=ByteArray) 1 rfl (fun b=>j4 b=some r) (fun b=>[]) (fun b=>[(0,.string s1),(2,zP b1),(4,zP b2),(5,zP b3),(6,hd10.v),(7,hd3.v),(8,.bool false),(9,.bool row3),(10,zI i3),(50,.string (zbE s1 q1.From q1.To)),(51,.bool r3)]) (fun b=>[cells b1 [.string ByteArray.empty,.slice none 0 0] 135,cells b2 [zI 0,zI 0] 60,cells b3 [.string b,hd9.v] 135,zfp zaD zaC 70 1 hd9.v p11,zv2 hd10.v l4,zv3 hd3.v r1]) (fun cut => ?_) ?_
        ·
         refine zyG (zyR 1 rfl (zyN (cut (zyG (zyR 1 rfl (zbl rfl dc rfl Tryz.underlying9 (zaW rfl zcR (zyN ?_))))))))
         refine zyB rfl h (fun h => ?_) (fun h => ?_)
         ·
          refine zaB (zyR 1 rfl ?_)
          obtain ⟨hg3,h⟩:=zbw h
          refine zd8 rfl dc rfl rfl rfl (zb9 (i:=2) (j:=((zbE s1 q1.From q1.To).size:Int)) Tryz.underlying9 (.inr rfl) (.inl ⟨rfl,rfl⟩) hg3) (zac zsn rfl dc rfl (show _=0 from rfl) ?_)
          refine zbe (k:=2) (l':=[.string (zbE (zbE s1 q1.From q1.To) 2 ((zbE s1 q1.From q1.To).size:Int)),hd9.v]) zrz rfl rfl rfl rfl rfl (fun _ _=>rfl) rfl ?_
          refine zaX ?_
          exact zaq (zbE (zbE s1 q1.From q1.To) 2 ((zbE s1 q1.From q1.To).size:Int)) h rfl (zba rfl) (zad [0,1,2,3,4,5] kr rfl)
         refine zau ?_
         exact zaq p10 h rfl (zba rfl) (zad [0,1,2,3,4,5] kr rfl)
        rintro p14 h
        rw [hj4] at h
        refine za9 (zap (zaz ?_))
        exact zaq (p14,p11,l4,false,row3,hd9,hd10) h rfl (zba rfl) (zad [0,1,2,3,4,5] kr rfl)
       refine zau ?_
       exact zaq () h rfl (zba rfl) (zad [0,1,2,3,4,5,6] kr rfl)
      refine zyR 3 rfl (zyN (zaT rfl (zau ?_)))
      exact zaq () h rfl (zba rfl) (zad [0,1,2,3,4,5,6] kr rfl)
     rintro _ h
     rw [hj3] at h
     refine zyG (zyR 1 rfl (zyN (zaH (zyG (zyR 1 rfl (zcm (k:=4) rfl dc rfl rfl Tryz.underlying26 (zaW rfl za1 (zyN ?_))))))))
     refine zyB rfl h (fun h => ?_) (fun h => ?_)
     ·
      refine zaH ?_
      refine zbz 6 [(0,62,.agg #[.string ByteArray.empty,.slice none 0 0]),(1,63,zP b4),(2,64,zI q1.From),(3,65,.agg #[zI 3,zI q1.From]),(5,3,.slice none 0 0)] mixed kr kr dc (by rfl) kr kr (zae ?_ (zae ?_ (zae ?_ (zae ?_ (zae ?_ (zae ?_ DrawPre.nil)))))) ?_
      · exact fun D n d c u i=>zbb (v:=.agg #[.string ByteArray.empty,.slice none 0 0]) (ps:=[]) rfl dc evP.nil (fun _=>by kernel_rfl) (zaf 0 u i rfl)
      · exact fun D n d c u i=>zac zev rfl dc (za8 (by rfl) rfl) (show _=0 from rfl) (zaf 1 u i rfl)
      · exact fun D n d c u i=>zan (k:=6) zbS rfl dc (zaa (m:=1) u rfl (d 1 dc)) rfl rfl (zaf 2 u i rfl)
      · exact fun D n d c u i=>zbb (v:=.agg #[zI 3,zI q1.From]) (ps:=[(0,.const (zI 3)),(1,.tmp 64)]) rfl dc (evP.cons rfl (evP.cons (zaa (m:=2) u rfl (d 2 dc)) evP.nil)) (fun _=>by kernel_rfl) (zaf 3 u i rfl)
      · exact fun D n d c u i=>zaU (k:=0) (vs:=[.string ByteArray.empty,.slice none 0 0]) (l':=[.string ByteArray.empty,.slice none 0 0]) zmG rfl (za8 (by rfl) rfl) (zaa (m:=0) u rfl (d 0 dc)) rfl rfl (show _≤_ by simp) rfl rfl (znB (by rfl))
      · exact fun D n d c u i=>zyR 1 rfl (zaf 4 u i rfl)
      refine zaU (k:=1) (vs:=[zI 3,zI q1.From]) (l':=[zI 3,zI q1.From]) ziI rfl rfl rfl rfl rfl (show _≤_ by simp) rfl rfl (zyN (zaA (zai (zal (zai (zai (zal (zai (zoh (enc:=zaD) (nest:=zaC) (e:=70) (size:=1) ?_)))))))))
      refine zdx (enc:=zbu) (e:=76) (size:=6) ?_
      cases h
      exact zaF (rs:=[.cell 2 135,.tmp 3,.cell 4 60]) (Hd.nil,(.slice none 0 0)) (.inl rfl) Tryz.results68 (.cons (.cells zlr (k:=0) rfl rfl rfl) (.cons (.tmp rfl) (.cons (.cells zl3 (k:=1) rfl rfl rfl) .nil))) rfl (zad [7,8] kr rfl)
     refine zau (zaI ?_)
     obtain ⟨j5,hj5,h⟩:=zbO h
     refine zaY (β:=(List (List ByteArray))×Hd) 0 rfl (fun b=>j5 b.1=some r) (fun b=>[]) (fun b=>[(0,.string s1),(2,zP b1),(4,zP b2),(5,zP b3),(6,hd10.v),(7,hd3.v),(8,.bool false),(10,zI i3),(11,zP b4),(12,.string (zbE s1 q1.From q1.To))]) (fun b=>[cells b1 [.string ByteArray.empty,.slice none 0 0] 135,cells b2 [zI 0,zI 0] 60,cells b3 [.string p10,b.2.v] 135,zfp zaD zaC 70 1 b.2.v b.1,zv2 hd10.v l4,zv3 hd3.v r1,cells b4 (zr5 q1) 38]) (fun cut => ?_) ?_
     ·
      refine cut (zyG (zyR 1 rfl (zdJ rfl dc rfl zcA (zyN ?_))))
      refine zyB rfl h (fun h => ?_) (fun h => ?_)
      ·
       refine zaB (zac zgr rfl dc rfl (show _=1 from rfl) (zan (k:=2) zgU rfl dc rfl rfl rfl ?_))
       refine zaR (cs:=[.slice none 0 0]) (te:=70) (ps:=[(0,.const (.slice none 0 0))]) rfl dc rfl (fun _=>by kernel_rfl) (fun b5 => ?_)
       refine zfU (enc:=zjl) (e:=9) (size:=1) ?_
       refine zgh (k:=3) rfl zm5 (fun zs1 hz1 => ?_)
       obtain ⟨hg4,h⟩:=zbw h
       refine zaZ (k:=3) (k2:=7) (ys:=[(([]:List ByteArray),Hd.nil)]) Tryz.underlying112 ztQ zbf zfj rfl dc rfl rfl rfl rfl rfl rfl (by rw [zut hz1]; exact hg4) (fun v2 => ?_)
       refine zbo (k:=3) rfl (fun hd14 he2 => ?_)
       subst he2
       refine ze9 (k:=9) rfl (zad [8] kr rfl) rfl (zoH (nest:=zaC) (zs:=zs1) (z:=(([]:List ByteArray),Hd.nil))) ?_
       refine ze9 (k:=3) rfl (zad [9] kr rfl) rfl (zjm (enc:=zaD) (nest:=zaC) (zvI hz1)) ?_
       refine zcu (L':=[cells b1 [.string ByteArray.empty,.slice none 0 0] 135,cells b2 [zI 0,zI 0] 60,cells b3 [.string p10,hd9.v] 135,zfp zaD zaC 70 1 hd14.v (p11++[([]:List ByteArray)]),zv2 hd10.v l4,zv3 hd3.v r1,cells b4 (zr5 q1) 38,cells b5 [.slice none 0 0] 70]) (zad [0,1,2,3,4,5,6,7] kr rfl) (zac zgr rfl dc rfl (show _=1 from rfl) ?_)
       refine zbe (k:=2) (l':=[.string p10,hd14.v]) zsJ rfl rfl rfl rfl rfl (fun _ _=>rfl) rfl ?_
       refine zaX ?_
       exact zaq (p11++[([]:List ByteArray)],hd14) h rfl (zba rfl) (zad [0,1,2,3,4,5,6] kr rfl)
      refine zau ?_
      exact zaq (p11,hd9) h rfl (zba rfl) (zad [0,1,2,3,4,5,6] kr rfl)
     rintro ⟨p15,hd13⟩ h
     rw [hj5] at h
     refine zyG (zyR 1 rfl (zyH (zac zgr rfl dc rfl (show _=1 from rfl) (zan (k:=2) zgU rfl dc rfl rfl rfl (zhm (k:=3) rfl dc rfl rfl Tryz.underlying112 ?_)))))
     obtain ⟨hg5,h⟩:=zbw h
     refine zaW rfl (zcd (r:=(p15.length:Int) - 1) (IntWalk.i64_in _ hg5)) (zyR 1 rfl (zyN (zaH ?_)))
     refine zfk (k:=3) rfl zm5 (fun zs2 hz2 => ?_)
     obtain ⟨r4,hq5,h⟩:=zbx h
     obtain ⟨hg6,h⟩:=zbw h
     obtain ⟨r5,hq6,h⟩:=zbx h
     obtain ⟨x1,hq7,h⟩:=zbx h
     obtain ⟨eh1,eq1⟩:=zic hz2 hq7
     obtain ⟨r6,hq8,h⟩:=zbx h
     obtain ⟨hg7,h⟩:=zbw h
     refine zfk (k:=7) rfl (zqq (za0 eq1)) (fun _ _ => ?_)
     refine zmz (β:=Nat) 23 22 _ [(0,77,.string (zbE s1 q1.From q1.To)),(1,78,.string (zbE s1 q1.From q1.To)),(2,79,zI r4),(3,80,.string (zbE (zbE s1 q1.From q1.To) r4 ((zbE s1 q1.From q1.To).size:Int))),(4,81,.string (zbE s1 q1.From q1.To)),(5,82,zI r5),(6,83,zI ((p15.length:Int) - 1)),(7,84,.pointer (some ⟨b3,1,none⟩)),(8,85,hd13.v),(9,86,zI ((p15.length:Int) - 1)),(10,87,.pointer (some ⟨zdK hd13.v,((p15.length:Int) - 1:Int).toNat*1,none⟩)),(11,88,eh1.v),(12,89,zI (x1.length:Int)),(13,90,zP b4),(14,91,zI q1.From),(15,92,.string (zbE s1 q1.From q1.To)),(16,93,zI r6),(17,94,zI (q1.From+r6)),(18,95,.pointer (some ⟨b4,1,none⟩)),(19,96,zI q1.To),(20,97,.agg #[zI (q1.From+r6),zI q1.To]),(21,98,.agg #[.string (zbE (zbE s1 q1.From q1.To) r4 ((zbE s1 q1.From q1.To).size:Int)),zI r5,zI ((p15.length:Int) - 1),zI (x1.length:Int),zI (q1.From+r6),zI q1.To])] (fun b6=>[(14,zP b6)]) (fun b6=>[cells b1 [.string ByteArray.empty,.slice none 0 0] 135,cells b2 [zI 0,zI 0] 60,cells b3 [.string p10,hd13.v] 135,zv9 hd13.v zs2,zv2 hd10.v l4,zv3 hd3.v r1,cells b4 (zr5 q1) 38,own zaC (zs2.eraseIdx (((p15.length:Int) - 1:Int).toNat)),zv7 eh1.v x1,cells b6 [.string ByteArray.empty,zI 0,zI 0,zI 0,zI 0,zI 0] 76]) mixed kr kr rfl dc dc (by rfl) kr kr (zyE 2 0 rfl (zas ?_ (zas ?_ (zyE 1 4 rfl (zas ?_ (zyE 1 6 rfl (zas ?_ (zas ?_ (zyE 1 9 rfl (zas ?_ (zas ?_ (zas ?_ (zas ?_ (zas ?_ (zyE 1 15 rfl (zas ?_ (zas ?_ (zas ?_ (zas ?_ (zas ?_ (zas ?_ (zer DrawPreX.nil)))))))))))))))))))))) (fun b6=>(zyE 2 0 rfl (zas ?_ (zas ?_ (zyE 1 4 rfl (zas ?_ (zyE 1 6 rfl (zas ?_ (zas ?_ (zyE 1 9 rfl (zas ?_ (zas ?_ (zas ?_ (zas ?_ (zas ?_ (zyE 1 15 rfl (zas ?_ (zas ?_ (zas ?_ (zas ?_ (zas ?_ (zas ?_ (zer DrawPreX.nil))))))))))))))))))))))) ?_ ?_
     · exact fun D n d c u i=>zbc (v:=zI r4) (vs:=[.string (zbE s1 q1.From q1.To)]) rfl dc rfl (evL.cons (zaa (m:=1) u rfl (d 1 dc)) evL.nil) rfl zlA (zdM hq5) (zaf 2 u i rfl)
     · exact fun D n d c u i=>zd8 rfl dc (zaa (m:=0) u rfl (d 0 dc)) (evO.some (zaa (m:=2) u rfl (d 2 dc))) zik (zb9 (i:=r4) (j:=((zbE s1 q1.From q1.To).size:Int)) Tryz.underlying9 (.inr rfl) (.inl ⟨rfl,rfl⟩) hg6) (zaf 3 u i rfl)
     · exact fun D n d c u i=>zbc (v:=zI r5) (vs:=[.string (zbE s1 q1.From q1.To)]) rfl dc rfl (evL.cons (zaa (m:=4) u rfl (d 4 dc)) evL.nil) rfl zlA (zdM hq6) (zaf 5 u i rfl)
     · exact fun D n d c u i=>zac zgr rfl dc (za8 (by rfl) rfl) (show _=1 from rfl) (zaf 7 u i rfl)
     · exact fun D n d c u i=>zan (k:=2) zgU rfl dc (zaa (m:=7) u rfl (d 7 dc)) rfl rfl (zaf 8 u i rfl)
     · exact fun D n d c u i=>zaL (k:=3) eq1 Tryz.underlying112 zhV rfl dc (zaa (m:=8) u rfl (d 8 dc)) (zaa (m:=9) u rfl (d 9 dc)) rfl rfl (zaf 10 u i rfl)
     · exact fun D n d c u i=>zbk (i:=((p15.length:Int) - 1:Int).toNat) (j:=0) (k:=3) (q:=(x1,eh1)) zjX zbf rfl dc (zaa (m:=10) u rfl (d 10 dc)) rfl (za0 eq1) rfl dc rfl (zaf 11 u i rfl)
     · exact fun D n d c u i=>zcm (k:=8) rfl dc (zaa (m:=11) u rfl (d 11 dc)) rfl Tryz.underlying70 (zaf 12 u i rfl)
     · exact fun D n d c u i=>zac zev rfl dc (za8 (by rfl) rfl) (show _=0 from rfl) (zaf 13 u i rfl)
     · exact fun D n d c u i=>zan (k:=6) zbS rfl dc (zaa (m:=13) u rfl (d 13 dc)) rfl rfl (zaf 14 u i rfl)
     · exact fun D n d c u i=>zbc (v:=zI r6) (vs:=[.string (zbE s1 q1.From q1.To)]) rfl dc rfl (evL.cons (zaa (m:=15) u rfl (d 15 dc)) evL.nil) rfl zlA (zdM hq8) (zaf 16 u i rfl)
     · exact fun D n d c u i=>zcc rfl dc (zaa (m:=14) u rfl (d 14 dc)) (zaa (m:=16) u rfl (d 16 dc)) (zaV (r:=q1.From+r6) (IntWalk.i64_in _ hg7)) (zaf 17 u i rfl)
     · exact fun D n d c u i=>zac zeu rfl dc (za8 (by rfl) rfl) (show _=1 from rfl) (zaf 18 u i rfl)
     · exact fun D n d c u i=>zan (k:=6) zbS rfl dc (zaa (m:=18) u rfl (d 18 dc)) rfl rfl (zaf 19 u i rfl)
     · exact fun D n d c u i=>zbb (v:=.agg #[zI (q1.From+r6),zI q1.To]) (ps:=[(0,.tmp 94),(1,.tmp 96)]) rfl dc (evP.cons (zaa (m:=17) u rfl (d 17 dc)) (evP.cons (zaa (m:=19) u rfl (d 19 dc)) evP.nil)) (fun _=>by kernel_rfl) (zaf 20 u i rfl)
     · exact fun D n d c u i=>zbb (v:=.agg #[.string (zbE (zbE s1 q1.From q1.To) r4 ((zbE s1 q1.From q1.To).size:Int)),zI r5,zI ((p15.length:Int) - 1),zI (x1.length:Int),zI (q1.From+r6),zI q1.To]) (ps:=[(0,.tmp 80),(1,.tmp 82),(2,.tmp 83),(3,.tmp 89),(4,.tmp 97)]) rfl dc (evP.cons (zaa (m:=3) u rfl (d 3 dc)) (evP.cons (zaa (m:=5) u rfl (d 5 dc)) (evP.cons (zaa (m:=6) u rfl (d 6 dc)) (evP.cons (zaa (m:=12) u rfl (d 12 dc)) (evP.cons (zaa (m:=20) u rfl (d 20 dc)) evP.nil))))) (fun _=>by kernel_rfl) (zaf 21 u i rfl)
     · exact fun D n d c u i=>zbc (v:=zI r4) (vs:=[.string (zbE s1 q1.From q1.To)]) rfl dc rfl (evL.cons (zaa (m:=1) u rfl (d 1 dc)) evL.nil) rfl zlA (zdM hq5) (zaf 2 u i rfl)
     · exact fun D n d c u i=>zd8 rfl dc (zaa (m:=0) u rfl (d 0 dc)) (evO.some (zaa (m:=2) u rfl (d 2 dc))) zik (zb9 (i:=r4) (j:=((zbE s1 q1.From q1.To).size:Int)) Tryz.underlying9 (.inr rfl) (.inl ⟨rfl,rfl⟩) hg6) (zaf 3 u i rfl)
     · exact fun D n d c u i=>zbc (v:=zI r5) (vs:=[.string (zbE s1 q1.From q1.To)]) rfl dc rfl (evL.cons (zaa (m:=4) u rfl (d 4 dc)) evL.nil) rfl zlA (zdM hq6) (zaf 5 u i rfl)
     · exact fun D n d c u i=>zac zgr rfl dc (za8 (by rfl) rfl) (show _=1 from rfl) (zaf 7 u i rfl)
     · exact fun D n d c u i=>zan (k:=2) zgU rfl dc (zaa (m:=7) u rfl (d 7 dc)) rfl rfl (zaf 8 u i rfl)
     · exact fun D n d c u i=>zaL (k:=3) eq1 Tryz.underlying112 zhV rfl dc (zaa (m:=8) u rfl (d 8 dc)) (zaa (m:=9) u rfl (d 9 dc)) rfl rfl (zaf 10 u i rfl)
     · exact fun D n d c u i=>zbk (i:=((p15.length:Int) - 1:Int).toNat) (j:=0) (k:=3) (q:=(x1,eh1)) zjX zbf rfl dc (zaa (m:=10) u rfl (d 10 dc)) rfl (za0 eq1) rfl dc rfl (zaf 11 u i rfl)
     · exact fun D n d c u i=>zcm (k:=8) rfl dc (zaa (m:=11) u rfl (d 11 dc)) rfl Tryz.underlying70 (zaf 12 u i rfl)
     · exact fun D n d c u i=>zac zev rfl dc (za8 (by rfl) rfl) (show _=0 from rfl) (zaf 13 u i rfl)
     · exact fun D n d c u i=>zan (k:=6) zbS rfl dc (zaa (m:=13) u rfl (d 13 dc)) rfl rfl (zaf 14 u i rfl)
     · exact fun D n d c u i=>zbc (v:=zI r6) (vs:=[.string (zbE s1 q1.From q1.To)]) rfl dc rfl (evL.cons (zaa (m:=15) u rfl (d 15 dc)) evL.nil) rfl zlA (zdM hq8) (zaf 16 u i rfl)
     · exact fun D n d c u i=>zcc rfl dc (zaa (m:=14) u rfl (d 14 dc)) (zaa (m:=16) u rfl (d 16 dc)) (zaV (r:=q1.From+r6) (IntWalk.i64_in _ hg7)) (zaf 17 u i rfl)
     · exact fun D n d c u i=>zac zeu rfl dc (za8 (by rfl) rfl) (show _=1 from rfl) (zaf 18 u i rfl)
     · exact fun D n d c u i=>zan (k:=6) zbS rfl dc (zaa (m:=18) u rfl (d 18 dc)) rfl rfl (zaf 19 u i rfl)
     · exact fun D n d c u i=>zbb (v:=.agg #[zI (q1.From+r6),zI q1.To]) (ps:=[(0,.tmp 94),(1,.tmp 96)]) rfl dc (evP.cons (zaa (m:=17) u rfl (d 17 dc)) (evP.cons (zaa (m:=19) u rfl (d 19 dc)) evP.nil)) (fun _=>by kernel_rfl) (zaf 20 u i rfl)
     · exact fun D n d c u i=>zbb (v:=.agg #[.string (zbE (zbE s1 q1.From q1.To) r4 ((zbE s1 q1.From q1.To).size:Int)),zI r5,zI ((p15.length:Int) - 1),zI (x1.length:Int),zI (q1.From+r6),zI q1.To]) (ps:=[(0,.tmp 80),(1,.tmp 82),(2,.tmp 83),(3,.tmp 89),(4,.tmp 97)]) rfl dc (evP.cons (zaa (m:=3) u rfl (d 3 dc)) (evP.cons (zaa (m:=5) u rfl (d 5 dc)) (evP.cons (zaa (m:=6) u rfl (d 6 dc)) (evP.cons (zaa (m:=12) u rfl (d 12 dc)) (evP.cons (zaa (m:=20) u rfl (d 20 dc)) evP.nil))))) (fun _=>by kernel_rfl) (zaf 21 u i rfl)
     ·
      intro D hn hd hcl
      refine zbg zo9 rfl dc (fun b6 => ?_)
      exact fun a w ha hw=>⟨b6,zru (by rfl) _ _ _ ha,hw⟩
     intro b6
     refine zaU (k:=9) (vs:=[.string (zbE (zbE s1 q1.From q1.To) r4 ((zbE s1 q1.From q1.To).size:Int)),zI r5,zI ((p15.length:Int) - 1),zI (x1.length:Int),zI (q1.From+r6),zI q1.To]) (l':=[.string (zbE (zbE s1 q1.From q1.To) r4 ((zbE s1 q1.From q1.To).size:Int)),zI r5,zI ((p15.length:Int) - 1),zI (x1.length:Int),zI (q1.From+r6),zI q1.To]) zkX rfl rfl rfl rfl rfl (show _≤_ by simp) rfl rfl (zyH (zyR 1 rfl (za5 (k:=9) (cs:=[.string (zbE (zbE s1 q1.From q1.To) r4 ((zbE s1 q1.From q1.To).size:Int)),zI r5,zI ((p15.length:Int) - 1),zI (x1.length:Int),zI (q1.From+r6),zI q1.To]) zqi rfl dc rfl rfl rfl rfl ?_)))
     refine zaR (cs:=[.string (zbE (zbE s1 q1.From q1.To) r4 ((zbE s1 q1.From q1.To).size:Int)),zI r5,zI ((p15.length:Int) - 1),zI (x1.length:Int),zI (q1.From+r6),zI q1.To]) (te:=76) (ps:=[(0,.tmp 100)]) rfl dc rfl (fun _=>by kernel_rfl) (fun b7 => ?_)
     obtain ⟨hg8,h⟩:=zbw h
     refine zaZ (k:=4) (k2:=10) (ys:=[(⟨zbE (zbE s1 q1.From q1.To) r4 ((zbE s1 q1.From q1.To).size:Int),r5,(p15.length:Int) - 1,(x1.length:Int),q1.From+r6,q1.To⟩:Gapi_Verse)]) Tryz.underlying26 zvo zc6 zfZ rfl dc rfl rfl rfl rfl rfl rfl hg8 (fun v3 => ?_)
     refine zbo (k:=4) rfl (fun hd15 he3 => ?_)
     subst he3
     refine zyR 1 rfl (zyN (zsA (k:=7) rfl (zad [8] kr rfl) rfl (zqp (nest:=zaC) (za0 eq1) rfl) ?_))
     obtain ⟨x2,hq9,h⟩:=zbx h
     obtain ⟨eh2,eq2⟩:=zic hz2 hq9
     obtain ⟨hg9,h⟩:=zbw h
     refine zfk (k:=7) rfl (zqq (za0 eq2)) (fun _ _ => ?_)
     refine zfz 1 ?_
     refine let vals1:(Nat×Hd)→List (Nat×Nat×Value):=fun b=>[(0,103,.pointer (some ⟨b3,1,none⟩)),(1,104,hd13.v),(2,105,zI ((p15.length:Int) - 1)),(3,106,.pointer (some ⟨b3,1,none⟩)),(4,107,hd13.v),(5,108,zI ((p15.length:Int) - 1)),(6,109,.pointer (some ⟨zdK hd13.v,((p15.length:Int) - 1:Int).toNat*1,none⟩)),(7,110,eh2.v),(8,111,.string (zbE s1 q1.From q1.To)),(9,112,.slice (some ⟨b.1,0,none⟩) 1 1),(10,113,b.2.v)]; let LL1:(Nat→Prop)→(Nat×Hd)→List Asn:=fun D b=>[cells b1 [.string ByteArray.empty,.slice none 0 0] 135,cells b2 [zI 0,zI 0] 60,cells b3 [.string p10,hd13.v] 135,zv9 hd13.v zs2,zv2 hd15.v (l4++[(⟨zbE (zbE s1 q1.From q1.To) r4 ((zbE s1 q1.From q1.To).size:Int),r5,(p15.length:Int) - 1,(x1.length:Int),q1.From+r6,q1.To⟩:Gapi_Verse)]),zv3 hd3.v r1,cells b4 (zr5 q1) 38,own zaC (zs2.eraseIdx (((p15.length:Int) - 1:Int).toNat)),emp,cells b6 [.string (zbE (zbE s1 q1.From q1.To) r4 ((zbE s1 q1.From q1.To).size:Int)),zI r5,zI ((p15.length:Int) - 1),zI (x1.length:Int),zI (q1.From+r6),zI q1.To] 76,cells b7 [.string (zbE (zbE s1 q1.From q1.To) r4 ((zbE s1 q1.From q1.To).size:Int)),zI r5,zI ((p15.length:Int) - 1),zI (x1.length:Int),zI (q1.From+r6),zI q1.To] 76,eD D (zv7 eh2.v x2) [(10,zv7 b.2.v (x2++[zbE s1 q1.From q1.To]))],eD D emp [(9,cells b.1 [.string (zbE s1 q1.From q1.To)] 9)]]; ?_
     have zhq:zyQ [9,10] LL1:=fun i h D b=>zab rfl (zab rfl (zab rfl (zab rfl (zab rfl (zab rfl (zab rfl (zab rfl (zab rfl (zab rfl (zab rfl (zab (zja rfl h) (zab (zja rfl h) rfl))))))))))))
     refine zdB (β:=Nat×Hd) 11 ((0:Nat),Hd.nil) vals1 LL1 mixed kr kr dc (fun _=>rfl) (zkU (zab zbN (zab zbN rfl))) (zyq zhq rfl (fun _=>rfl) (fun _=>rfl) ?_ (zgj zhq rfl (fun _=>rfl) (fun _=>rfl) ?_ (zlc zhq (fun _=>rfl) (fun _=>rfl) 1 2 (fun _=>rfl) rfl (zyq zhq rfl (fun _=>rfl) (fun _=>rfl) ?_ (zgj zhq rfl (fun _=>rfl) (fun _=>rfl) ?_ (zlc zhq (fun _=>rfl) (fun _=>rfl) 1 5 (fun _=>rfl) rfl (zgj zhq rfl (fun _=>rfl) (fun _=>rfl) ?_ (zgj zhq rfl (fun _=>rfl) (fun _=>rfl) ?_ (zlc zhq (fun _=>rfl) (fun _=>rfl) 1 8 (fun _=>rfl) rfl (zat ?_ (zat ?_ DrawG.nil))))))))))) ?_
     · exact fun D ⟨b8,hd16⟩ n d c u i=>zac zgr rfl dc (za8 (by rfl) rfl) (show _=1 from rfl) (zaf 0 u i rfl)
     · exact fun D ⟨b8,hd16⟩ n d c u i=>⟨_,(zab rfl (zs9 rfl)),zan (k:=2) zgU rfl dc (zaa (m:=0) u rfl (d 0 dc)) rfl rfl (zaf 1 u i rfl)⟩
     · exact fun D ⟨b8,hd16⟩ n d c u i=>zac zgr rfl dc (za8 (by rfl) rfl) (show _=1 from rfl) (zaf 3 u i rfl)
     · exact fun D ⟨b8,hd16⟩ n d c u i=>⟨_,(zkU (zab (zag (fun hD=>n (c 6 _ rfl (c 7 _ rfl (c 10 _ rfl hD 7 dc) 6 dc) 4 dc)) zaj) rfl)),zan (k:=2) zgU rfl dc (zaa (m:=3) u rfl (d 3 dc)) rfl rfl (zaf 4 u i rfl)⟩
     · exact fun D ⟨b8,hd16⟩ n d c u i=>⟨_,(zkU (zab (zag (fun hD=>n (c 7 _ rfl (c 10 _ rfl hD 7 dc) 6 dc)) zaj) rfl)),zaL (k:=3) eq2 Tryz.underlying112 zhV rfl dc (zaa (m:=4) u rfl (d 4 dc)) (zaa (m:=5) u rfl (d 5 dc)) rfl rfl (zaf 6 u i rfl)⟩
     · exact fun D ⟨b8,hd16⟩ n d c u i=>⟨_,(zkU (zab (zag (fun hD=>n (c 10 _ rfl hD 7 dc)) zaj) rfl)),zbk (i:=((p15.length:Int) - 1:Int).toNat) (j:=0) (k:=3) (q:=(x2,eh2)) zjX zbf rfl dc (zaa (m:=6) u rfl (d 6 dc)) rfl (za0 eq2) rfl dc rfl (zaf 7 u i rfl)⟩
     ·
      intro D b hn hd hcl
      obtain ⟨zb0,hd16⟩:=b
      refine zaK (zkU (zab (zag (fun hD=>hn (hcl 10 _ rfl hD 9 dc)) zaj) (zab (zag hn zaj) rfl))) ?_
      refine zaR (cs:=[.string (zbE s1 q1.From q1.To)]) (te:=9) (ps:=[(0,.tmp 111)]) rfl dc (evP.cons (zaa (m:=8) rfl rfl (hd 8 dc)) evP.nil) (fun _=>by kernel_rfl) (fun b8 => ?_)
      refine zcS 12 rfl rfl ?_
      exact zaQ (b:=(zb0,hd16)) (b8,hd16) 9 (by rfl) (by rfl) rfl (zw6 (zao (fun hD=>absurd hD hn) (zao (fun _=>rfl) rfl))) (zkU (zab ((zam (by rfl)).trans (zag (fun hD=>hn (hcl 10 _ rfl hD 9 dc)) zaj)) (zab (zaE (Or.inr rfl) rfl) rfl)))
     ·
      intro D b hn hd hcl
      obtain ⟨b8,zb1⟩:=b
      refine zaK (zkU (zab (zag hn zaj) (zab (zaE (hd 9 dc) rfl) rfl))) ?_
      refine zaZ (k:=11) (k2:=12) (ys:=[zbE s1 q1.From q1.To]) Tryz.underlying70 zvM zfA zjK rfl dc (zaa (m:=7) rfl rfl (hd 7 dc)) (zaa (m:=9) rfl rfl (hd 9 dc)) rfl rfl rfl rfl hg9 (fun v4 => ?_)
      refine zbo (k:=11) rfl (fun hd16 he4 => ?_)
      subst he4
      exact zaQ (b:=(b8,zb1)) (b8,hd16) 10 (by rfl) (by rfl) rfl (zrE (zao (fun hD=>absurd hD hn) rfl)) (zkU (zab (zaE (Or.inr rfl) rfl) (zab ((zam (by rfl)).trans (zaE (hd 9 dc) rfl)) rfl)))
     intro D b hall
     obtain ⟨b8,hd16⟩:=b
     refine zaK (zkU (zab (zaE (hall 10 dc) rfl) (zab (zaE (hall 9 dc) rfl) rfl))) (zaL (k:=3) eq2 Tryz.underlying112 zhV rfl dc rfl rfl rfl rfl ?_)
     refine zei (i:=((p15.length:Int) - 1:Int).toNat) (j:=0) (k:=3) (q:=(x2,eh2)) (q':=(x2++[zbE s1 q1.From q1.To],hd16)) zhV zbf rfl rfl rfl rfl (za0 eq2) rfl dc rfl (fun _ _=>rfl) ?_
     refine ze9 (k:=7) rfl (zad [11] kr rfl) rfl (zqp (nest:=zaC) (zs:=zs2) (z:=(x2++[zbE s1 q1.From q1.To],hd16)) (zl0 (za0 eq2)) zhZ) ?_
     refine zaX (zah (ziC (k:=3) rfl (zad [7] kr rfl) rfl (zjm (enc:=zaD) (nest:=zaC) (zvH hz2)) ?_))
     exact zaq (p10,p15.set ((p15.length:Int) - 1:Int).toNat (x2++[zbE s1 q1.From q1.To]),l4++[(⟨zbE (zbE s1 q1.From q1.To) r4 ((zbE s1 q1.From q1.To).size:Int),r5,(p15.length:Int) - 1,(x1.length:Int),q1.From+r6,q1.To⟩:Gapi_Verse)],false,true,hd13,hd15) h rfl (zba rfl) (zad [0,1,2,3,4,5] kr rfl)
    rintro ⟨p12,p13,l5,first4,row4,hd11,hd12⟩ h
    rw [hj2] at h
    refine zaB (zyR 1 rfl ?_)
    obtain ⟨hg10,h⟩:=zbw h
    refine zaW rfl (zaV (r:=i3+1) (IntWalk.i64_in _ hg10)) (zyR 1 rfl (zaX ?_))
    subst hag1
    exact za4 (n1,p12,p13,l5,first4,row4,i3+1,hd11,hd12) h (Nat.lt_succ_self _) rfl (zba rfl) (zad [0,1,2,3,4,5] kr rfl)
   refine za9 (zap (zap (zaz ?_)))
   exact zaq (p10,p11,l4,hd9,hd10) h rfl (zba rfl) (zad [0,1,2,3,4] kr rfl)
 rintro ⟨p1,p2,l1,hd1,hd2⟩ h
 rw [hj1] at h
 refine zyG (za5 (k:=2) (cs:=[.string p1,hd1.v]) zlr rfl dc rfl rfl rfl rfl (zyR 1 rfl ?_))
 refine zbb (v:=.agg #[zI 0,zI 0]) (ps:=[]) rfl dc rfl (fun _=>by kernel_rfl) ?_
 refine zaU (k:=0) (vs:=[.string p1,hd1.v]) (l':=[.string p1,hd1.v]) zmG rfl rfl rfl rfl rfl (show _≤_ by simp) rfl rfl (zyR 1 rfl (zaU (k:=1) (vs:=[zI 0,zI 0]) (l':=[zI 0,zI 0]) ziI rfl rfl rfl rfl rfl (show _≤_ by simp) rfl rfl ?_))
 refine zyN (zaA ?_)
 cases h
 exact zaF (rs:=[.cell 2 135,.tmp 3,.cell 4 60]) (hd1,hd2.v) (.inl rfl) Tryz.results68 (.cons (.cells zlr (k:=0) rfl rfl rfl) (.cons (.tmp rfl) (.cons (.cells zl3 (k:=1) rfl rfl rfl) .nil))) rfl (zad [3,4] kr rfl)
end Go.Proofs.YtbempdelckaccaaGreatDoor

namespace Go.Proofs.YtbempdelckaccaaGreatDoor
open Go.RowKit Go.Lib
set_option linter.unusedVariables false
set_option linter.unusedSimpArgs false
def mkB (l:List UInt8):ByteArray:=⟨l.toArray⟩
theorem zgp (l:List UInt8):(mkB l).data.toList=l:=rfl
theorem za6 (l:List UInt8):(mkB l).size=l.length:=by rw [← zlF,zgp]
theorem zhH {a b:List UInt8} (h:mkB a=mkB b):a=b:=by
 have:=congrArg (fun s:ByteArray=>s.data.toList) h
 exact this
theorem zuR (s:ByteArray):∃ l,s=mkB l:=⟨s.data.toList,rfl⟩
theorem zms (l:List UInt8) (i j:Nat):zbE (mkB l) (i:Int) (j:Int)=mkB ((l.drop i).take (j - i)):=by
 unfold zbE
 have h:∀ a b:ByteArray,a.data.toList=b.data.toList→a=b:=fun a b h=>by
  have:mkB a.data.toList=mkB b.data.toList:=by rw [h]
  exact this
 apply h
 rw [zgp]
 simp only [Int.toNat_natCast,ByteArray.data_extract,Array.toList_extract,List.extract,zgp]
theorem zkE (l:List UInt8) (i:Nat):zbE (mkB l) (i:Int) ((mkB l).size:Int)=mkB (l.drop i):=by
 rw [zms,za6,List.take_of_length_le (by rw [List.length_drop]; omega)]
def isB (b:UInt8):Bool:=b==32||b==9
def zgt (l:List UInt8):Bool:=l.all isB
theorem zhA {p:UInt8→Bool}:∀ {l:List UInt8} {c:UInt8} {t:List UInt8},l.dropWhile p=c::t→p c=false
 | [],c,t,h=>by cases h
 | b::l,c,t,h=>by
  rw [List.dropWhile_cons] at h
  split at h
  ·exact zhA h
  ·rename_i hb
   rw [← (List.cons.inj h).1]; simpa using hb
theorem zfB {p:UInt8→Bool}:∀ (l:List UInt8),l.dropWhile p=[]↔l.all p=true
 | []=>by simp
 | b::l=>by
  rw [List.dropWhile_cons,List.all_cons]
  split
  ·rename_i h; rw [zfB l,h,Bool.true_and]
  ·rename_i h; rw [Bool.not_eq_true] at h; rw [h]; simp
theorem zlg (l:List UInt8):Lib.trimS l [32,9]=[]↔zgt l=true:=by
 have hc:(fun x=>([32,9]:List UInt8).contains x)=isB:=by
  funext x; unfold isB; simp only [List.contains_cons,List.contains_nil,Bool.or_false]
 unfold Lib.trimS Lib.trimLeftS Lib.trimRightS zgt
 rw [hc]
 cases hd:l.reverse.dropWhile isB with
 | nil =>
  have:=(zfB l.reverse).1 hd
  rw [List.all_reverse] at this
  rw [this]; simp
 | cons c t =>
  have h1:=zhA hd
  rw [zfB,List.all_reverse,List.all_cons,h1]
  have h2:l.all isB=false:=by
   cases h:l.all isB with
   | false=>rfl
   | true =>
    rw [← List.all_reverse,← zfB,hd] at h; cases h
  rw [h2]; simp
theorem zq7 (l:List UInt8) (h:l.length≤9223372036854775807):zd9 (mkB l)=some (zgt l):=by
 unfold zd9
 refine zbM (by rw [za6]; exact h) (congrArg some ?_)
 unfold zor
 rw [zgp]
 have:(⟨(Lib.trimS l [32,9]).toArray⟩:ByteArray)=mkB (Lib.trimS l [32,9]):=rfl
 rw [this,show (⟨#[]⟩:ByteArray)=mkB [] from rfl]
 cases hb:zgt l with
 | true=>exact decide_eq_true (by rw [(zlg l).2 hb])
 | false=>exact decide_eq_false (fun e=>by have:=(zlg l).1 (zhH e); rw [hb] at this; cases this)
theorem zrk {R:Type} {F:(Int→Option R)→Int→Option R} {bot:Int→Option R} (l:List UInt8) (g:UInt8→Option (Option R)) (J:Option R)
  (hs:∀ ag (i:Nat) b t,l.drop i=b::t→F ag (i:Int)=(g b).getD (ag ((i+1:Nat):Int))) (he:∀ ag,F ag (l.length:Int)=J) :
  ∀ (n i:Nat),i≤l.length→l.length - i<n→zaM bot F n (i:Int)=((l.drop i).findSome? g).getD J:=by
 intro n
 induction n with
 | zero=>intro i h1 h2; omega
 | succ n ih =>
  intro i hi hn
  rw [zcf]
  cases hd:l.drop i with
  | nil =>
   have:l.length≤i:=List.drop_eq_nil_iff.1 hd
   obtain rfl:i=l.length:=by omega
   rw [he]; rfl
  | cons b t =>
   have hlt:i<l.length:=by
    rcases Nat.lt_or_ge i l.length with h | h
    ·exact h
    ·rw [List.drop_eq_nil_of_le h] at hd; cases hd
   rw [hs _ i b t hd,List.findSome?_cons]
   cases hg:g b with
   | some x=>rfl
   | none =>
    show zaM bot F n _=_
    rw [ih (i+1) (by omega) (by omega),zfn hd]
theorem zwY {l:List UInt8} (h:l.length≤1073741824):l.length - 0<zb4:=by unfold zb4; omega
theorem zpk (l:List UInt8) (h:l.length≤1073741824):zem (mkB l)=some (zgt l):=by
 unfold zem
 refine zbF ?_
 refine (zrk l (fun b=>if isB b then none else some (some false)) (some true) (fun ag i b t hd => ?_) (fun ag => ?_) zb4 0 (Nat.zero_le _) (zwY h)).trans ?_
 ·unfold zdC
  obtain ⟨hb,hlt⟩:=zfR (s:=mkB l) hd
  refine zay (decide_eq_true (by omega)) (zbF (zaN hb ?_))
  rw [za6] at hlt
  have go:(grd (I64 ((i:Int)+1))<|ag ((i:Int)+1))=ag ((i+1:Nat):Int):=zbM ⟨by omega,by omega⟩ (by rw [show (i:Int)+1=((i+1:Nat):Int) by omega])
  unfold isB
  by_cases h32:b=32
  ·refine zaw (by unfold bne; rw [n32,decide_eq_true h32]; rfl) ?_
   rw [h32]; exact go
  ·refine zay (by unfold bne; rw [n32,decide_eq_false h32]; rfl) ?_
   rw [beq_eq_false_iff_ne.2 h32,Bool.false_or]
   by_cases h9:b=9
   ·refine zaw (by unfold bne; rw [n9,decide_eq_true h9]; rfl) ?_
    rw [h9]; exact go
   ·refine zay (by unfold bne; rw [n9,decide_eq_false h9]; rfl) ?_
    rw [beq_eq_false_iff_ne.2 h9]; rfl
 ·unfold zdC
  exact zaw (decide_eq_false (by rw [za6]; omega)) rfl
 ·rw [List.drop_zero]
  unfold zgt
  clear h
  induction l with
  | nil=>rfl
  | cons b l ih =>
   rw [List.findSome?_cons,List.all_cons]
   cases hb:isB b with
   | true=>simpa using ih
   | false=>rfl
def zlT:List UInt8→Bool
 | []=>false
 | [b]=>b==35
 | b::c::_=>b==35&&c==32
theorem ztt (l p:List UInt8):zbs (mkB l) (mkB p)=some (decide (p.length≤l.length)&&decide (l.take p.length=p)):=by
 unfold zbs
 rw [za6,za6]
 by_cases h:p.length≤l.length
 ·refine zay (decide_eq_true (by omega)) (zbM ⟨by omega,by omega,by omega⟩ (congrArg some ?_))
  have:=zms l 0 p.length
  rw [show ((0:Nat):Int)=0 from rfl] at this
  rw [this,List.drop_zero,Nat.sub_zero,decide_eq_true h,Bool.true_and]
  by_cases e:l.take p.length=p
  ·rw [decide_eq_true e,decide_eq_true (by rw [e])]
  ·rw [decide_eq_false e,decide_eq_false (fun x=>e (zhH x))]
 ·refine zaw (decide_eq_false (by omega)) ?_
  rw [decide_eq_false h]; rfl
theorem zot (l:List UInt8):zen (mkB l)=some (zlT l):=by
 unfold zen zbU
 rw [show (⟨#[35]⟩:ByteArray)=mkB [35] from rfl,show (⟨#[35,32]⟩:ByteArray)=mkB [35,32] from rfl]
 by_cases h:l=[35]
 ·subst h; exact zay (decide_eq_true rfl) rfl
 ·refine zaw (decide_eq_false (fun e=>h (zhH e))) (zaN (zaN (ztt _ _) rfl) (congrArg some ?_))
  match l with
  | []=>rfl
  | [b] =>
   have hb:b≠35:=fun e=>h (by rw [e])
   show _=(b==35)
   rw [beq_eq_false_iff_ne.2 hb]; rfl
  | b::c::t =>
   show _=(b==35&&c==32)
   rw [decide_eq_true (by simp),Bool.true_and]
   show decide ([b,c]=[35,32])=_
   by_cases hb:b=35 <;> by_cases hc:c=32 <;> simp [hb,hc]
theorem znT (l:List UInt8):zey (mkB l)=some (zlT l):=by
 unfold zey
 rw [show (⟨#[35]⟩:ByteArray)=mkB [35] from rfl]
 by_cases h:l=[35]
 ·subst h; exact zay (decide_eq_true rfl) rfl
 ·refine zaw (decide_eq_false (fun e=>h (zhH e))) ?_
  match l with
  | []=>exact zaw (decide_eq_false (by rw [za6]; simp)) rfl
  | [b] =>
   have hb:b≠35:=fun e=>h (by rw [e])
   refine zaw (decide_eq_false (by rw [za6]; simp)) ?_
   show _=some (b==35)
   rw [beq_eq_false_iff_ne.2 hb]
  | b::c::t =>
   have h0:=(zfR (s:=mkB (b::c::t)) (i:=0) (b:=b) (t:=c::t) rfl).1
   have h1:=(zfR (s:=mkB (b::c::t)) (i:=1) (b:=c) (t:=t) rfl).1
   refine zay (decide_eq_true (by rw [za6]; simp; omega)) (zaN h0 ?_)
   show _=some (b==35&&c==32)
   by_cases hb:b=35
   ·refine zay (by rw [n35]; exact decide_eq_true hb) (zaN h1 (congrArg some ?_))
    rw [n32,beq_iff_eq.2 hb,Bool.true_and]
    by_cases hc:c=32
    ·rw [decide_eq_true hc,hc]; rfl
    ·rw [decide_eq_false hc,beq_eq_false_iff_ne.2 hc]
   ·refine zaw (by rw [n35]; exact decide_eq_false hb) ?_
    rw [beq_eq_false_iff_ne.2 hb]; rfl
theorem zti (l:List UInt8) (h:zlT l=true):zc9 (mkB (l.drop 1)) (mkB [32])=some (mkB (l.drop 2)):=by
 unfold zc9 zca
 refine zaN (zaN (ztt _ _) (?_:_=some (mkB (l.drop 2)))) rfl
 match l with
 | []=>cases h
 | [b]=>exact zaw (by simp) rfl
 | b::c::t =>
  have hc:c=32:=by
   unfold zlT at h; rw [Bool.and_eq_true] at h; exact beq_iff_eq.1 h.2
  subst hc
  refine zay (by simp) (zbM ⟨by omega,by rw [za6,za6,List.drop_one,List.tail_cons,List.length_cons]; simp only [List.length_cons,List.length_nil]; omega,by omega⟩ (congrArg some ?_))
  exact zkE (32::t) 1
def ind (l:List UInt8):Nat:=(l.takeWhile (· == 32)).length
theorem zib (b:UInt8) (l:List UInt8):ind (b::l)=if b=32 then ind l+1 else 0:=by
 unfold ind
 rw [List.takeWhile_cons]
 by_cases h:b=32
 ·subst h; simp
 ·rw [if_neg h,beq_eq_false_iff_ne.2 h]; rfl
theorem zoL (l:List UInt8):ind l≤l.length:=by
 induction l with
 | nil=>exact Nat.le_refl _
 | cons b l ih=>rw [zib,List.length_cons]; split <;> omega
theorem zhB (l:List UInt8) (h:l.length≤1073741824):zb6 (mkB l)=some (ind l:Int):=by
 unfold zb6
 refine zbF ?_
 have key:∀ (n i:Nat),i≤l.length→l.length - i<n→zaM (fun _=>none) (zcZ (mkB l) (fun (n1:Int)=>some n1)) n (i:Int)=some ((i+ind (l.drop i):Nat):Int):=by
  intro n
  induction n with
  | zero=>intro i h1 h2; omega
  | succ n ih =>
   intro i hi hn
   rw [zcf]
   obtain ⟨ag,hag⟩:∃ ag,ag=zaM (fun _=>none) (zcZ (mkB l) (fun (n1:Int)=>some n1)) n:=⟨_,rfl⟩
   rw [← hag] at ih ⊢
   unfold zcZ
   cases hd:l.drop i with
   | nil =>
    have:l.length≤i:=List.drop_eq_nil_iff.1 hd
    exact zaw (decide_eq_false (by rw [za6]; omega)) rfl
   | cons b t =>
    obtain ⟨hb,hlt⟩:=zfR (s:=mkB l) hd
    rw [za6] at hlt
    refine zay (decide_eq_true (by rw [za6]; omega)) (zaN hb ?_)
    rw [zib]
    by_cases h32:b=32
    ·refine zay (by rw [n32]; exact decide_eq_true h32) (zbM ⟨by omega,by omega⟩ ?_)
     have:=ih (i+1) (by omega) (by omega)
     rw [zfn hd] at this
     rw [if_pos h32,show (i:Int)+1=((i+1:Nat):Int) by omega,this]
     congr 1; omega
    ·refine zaw (by rw [n32]; exact decide_eq_false h32) ?_
     rw [if_neg h32]; rfl
 have:=key zb4 0 (Nat.zero_le _) (by unfold zb4; omega)
 rw [List.drop_zero,Nat.zero_add] at this
 exact this
theorem zsb (l:List UInt8) (h:l.length≤1073741824):zdV (mkB l)=some (ind l:Int):=by
 unfold zdV
 refine zbF ?_
 have key:∀ (n i:Nat),i≤l.length→l.length - i<n→(pcs l).drop i=zc7 i (l.drop i)→zaM (fun _ _=>none) (zdb (mkB l) (fun (n1:Int)=>some n1)) n (i:Int) i=some ((i+ind (l.drop i):Nat):Int):=by
  intro n
  induction n with
  | zero=>intro i h1 h2; omega
  | succ n ih =>
   intro i hi hn hp
   rw [zcf]
   obtain ⟨ag,hag⟩:∃ ag,ag=zaM (fun _ _=>none) (zdb (mkB l) (fun (n1:Int)=>some n1)) n:=⟨_,rfl⟩
   rw [← hag] at ih ⊢
   unfold zdb
   rw [zgp]
   cases hd:l.drop i with
   | nil =>
    rw [hd,zcq] at hp
    have:=List.drop_eq_nil_iff.1 hp
    exact zaw (decide_eq_false (by omega)) rfl
   | cons b t =>
    obtain ⟨hb,hlt⟩:=zfR (s:=mkB l) hd
    rw [za6] at hlt
    rw [hd,zcE i (b::t) (by simp)] at hp
    have hlm:i<(pcs l).length:=by
     rcases Nat.lt_or_ge i (pcs l).length with h | h
     ·exact h
     ·rw [List.drop_eq_nil_of_le h] at hp; cases hp
    have hq:(pcs l)[i]?=some ⟨i,(decodeL (b::t)).2,(decodeL (b::t)).1⟩:=by
     have hp2:=hp
     rw [List.drop_eq_getElem_cons hlm] at hp2
     rw [List.getElem?_eq_getElem hlm,(List.cons.inj hp2).1]
    refine zay (decide_eq_true hlm) (zaN hq ?_)
    rw [zib]
    by_cases h32:b=32
    ·subst h32
     have hdec:=decodeL_ascii 32 t (by decide)
     rw [hdec] at hp ⊢
     refine zaw rfl (zbM ⟨by omega,by omega⟩ ?_)
     have:=ih (i+1) (by omega) (by omega) (by
      rw [← List.drop_drop,hp,zfn hd]; rfl)
     rw [zfn hd] at this
     rw [if_pos rfl,show (i:Int)+1=((i+1:Nat):Int) by omega]
     refine this.trans ?_
     congr 2; omega
    ·refine zay ?_ (by rw [if_neg h32]; rfl)
     show (((decodeL (b::t)).1:Int) != 32)=true
     refine bne_iff_ne.2 (fun e => ?_)
     by_cases hbig:128≤b.toNat
     ·have:=(znu (t:=t) hbig).1; omega
     ·rw [decodeL_ascii b t (by omega)] at e
      exact h32 (UInt8.toNat.inj (by show b.toNat=32; have:((b.toNat:Nat):Int)=32:=e; omega))
 have:=key zb4 0 (Nat.zero_le _) (by unfold zb4; omega) (by rw [List.drop_zero,List.drop_zero]; rfl)
 rw [List.drop_zero,Nat.zero_add] at this
 exact this
end Go.Proofs.YtbempdelckaccaaGreatDoor

namespace Go.Proofs.YtbempdelckaccaaGreatDoor
open Go.RowKit Go.Lib
set_option linter.unusedVariables false
set_option linter.unusedSimpArgs false
theorem zmI (T:List UInt8):∀ (l:List UInt8) (p:Bool) (f a:Nat),T.drop a=l→f≤a→(p=true→l.head?=some 10→f+1≤a) →
  (∀ b∈(T.drop f).take ((if p=true∧l.head?=some 10 then a - 1 else a) - f),isE b=false)→a≤T.length →
  ∀ x∈spP p f a l,x.1≤x.2∧x.2≤T.length∧∀ b∈(T.drop x.1).take (x.2 - x.1),isE b=false
 | [],p,f,a,hd,hf,hp,hb,ha=>by
  intro x hx
  rw [spP,List.mem_singleton] at hx
  subst hx
  have:T.length≤a:=List.drop_eq_nil_iff.1 hd
  refine ⟨hf,ha,?_⟩
  rw [if_neg (by simp)] at hb
  exact hb
 | b::t,p,f,a,hd,hf,hp,hb,ha=>by
  intro x hx
  have hlt:a<T.length:=by
   rcases Nat.lt_or_ge a T.length with h | h
   ·exact h
   ·rw [List.drop_eq_nil_of_le h] at hd; cases hd
  have hd1:=zfn hd
  have hsnoc:∀ f',f'≤a→(T.drop f').take (a+1 - f')=(T.drop f').take (a - f')++[b]:=fun f' hf'=>by
   rw [show a+1 - f'=(a - f')+1 by omega,List.take_add_one,List.getElem?_drop,show f'+(a - f')=a by omega]
   have:T[a]?=some b:=by
    have h0:(T.drop a)[0]?=some b:=by rw [hd]; rfl
    rw [List.getElem?_drop] at h0; exact h0
   rw [this]; rfl
  rw [spP] at hx
  by_cases h13:b=13
  ·rw [if_pos h13] at hx
   have hne:¬ (p=true∧(b::t).head?=some 10):=by rw [h13]; simp
   rw [if_neg hne] at hb
   by_cases ht:t.head?=some 10
   ·rw [if_pos ht] at hx
    refine zmI T t true f (a+1) hd1 (by omega) (fun _ _=>by omega) ?_ (by omega) x hx
    rw [if_pos ⟨rfl,ht⟩]; exact hb
   ·rw [if_neg ht] at hx
    rcases List.mem_cons.1 hx with rfl | hx
    ·exact ⟨hf,ha,hb⟩
    ·refine zmI T t true (a+1) (a+1) hd1 (Nat.le_refl _) (fun _ h=>absurd h ht) ?_ (by omega) x hx
     rw [if_neg (fun h=>ht h.2),Nat.sub_self,List.take_zero]
     intro y hy; cases hy
  ·rw [if_neg h13] at hx
   by_cases h10:b=10
   ·rw [if_pos h10] at hx
    rcases List.mem_cons.1 hx with rfl | hx
    ·cases p with
     | true =>
      have:=hp rfl (by rw [h10]; rfl)
      rw [if_pos ⟨rfl,by rw [h10]; rfl⟩] at hb
      exact ⟨by show f≤a - 1; omega,by show a - 1≤_; omega,hb⟩
     | false =>
      rw [if_neg (by simp)] at hb
      exact ⟨hf,ha,hb⟩
    ·refine zmI T t false (a+1) (a+1) hd1 (Nat.le_refl _) (fun h=>by cases h) ?_ (by omega) x hx
     rw [if_neg (by simp),Nat.sub_self,List.take_zero]
     intro y hy; cases hy
   ·rw [if_neg h10] at hx
    refine zmI T t false f (a+1) hd1 (by omega) (fun h=>by cases h) ?_ (by omega) x hx
    rw [if_neg (by simp),hsnoc f hf]
    have hne:¬ (p=true∧(b::t).head?=some 10):=fun h=>h10 (Option.some.inj h.2)
    rw [if_neg hne] at hb
    intro y hy
    rcases List.mem_append.1 hy with hy | hy
    ·exact hb y hy
    ·rw [List.mem_singleton] at hy
     subst hy
     unfold isE
     rw [beq_eq_false_iff_ne.2 h13,beq_eq_false_iff_ne.2 h10]; rfl
theorem zlY (T:List UInt8):∀ x∈zcQ T,x.1≤x.2∧x.2≤T.length∧∀ b∈(T.drop x.1).take (x.2 - x.1),isE b=false :=
 zmI T T false 0 0 (List.drop_zero) (Nat.le_refl _) (fun h=>by cases h) (by intro b hb; simp at hb) (Nat.zero_le _)
theorem zgS:∀ (l:List UInt8) (p:Bool) (f a:Nat),(spP p f a l).length≤l.length+1
 | [],p,f,a=>Nat.le_refl _
 | b::t,p,f,a=>by
  rw [spP,List.length_cons]
  split
  ·split
   ·have:=zgS t true f (a+1); omega
   ·rw [List.length_cons]; have:=zgS t true (a+1) (a+1); omega
  ·split
   ·rw [List.length_cons]; have:=zgS t false (a+1) (a+1); omega
   ·have:=zgS t false f (a+1); omega
def zge (T:List UInt8):List (Nat×List UInt8):=(zcQ T).map fun x=>(x.1,(T.drop x.1).take (x.2 - x.1))
structure RS where
 t:List UInt8
 stz:List (List (List UInt8))
 vs:List Gapi_Verse
 first:Bool
 row:Bool
def zft (z:List (List (List UInt8))):List (List UInt8):=z.getLastD []
def zcM (st:RS):List (List (List UInt8)):=if st.row then st.stz else st.stz++[[]]
def zgN (f:Nat) (x:List UInt8) (z:List (List (List UInt8))):Gapi_Verse:=⟨mkB (x.drop (ind x)),ind x,(z.length:Int) - 1,(zft z).length,(f:Int)+ind x,((f+x.length:Nat):Int)⟩
def zkJ (st:RS) (f:Nat) (x:List UInt8):RS :=
 ⟨st.t,(zcM st).dropLast++[zft (zcM st)++[x]],st.vs++[zgN f x (zcM st)],false,true⟩
def zes (st:RS) (x:Nat×List UInt8):Except Gapi_Spot RS :=
 if zgt x.2=true then .ok { st with row:=false }
 else if 1024<x.2.length then .error ⟨3,(x.1:Int)+1024⟩
 else if st.first=true∧zlT x.2=true then .ok { st with first:=false,t:=x.2.drop 2 }
 else if st.vs.length=512 then .error ⟨3,x.1⟩
 else .ok (zkJ st x.1 x.2)
def zdq:RS→List (Nat×List UInt8)→Except Gapi_Spot RS
 | st,[]=>.ok st
 | st,x::xs=>match zes st x with
  | .ok st'=>zdq st' xs
  | .error e=>.error e
def rs0:RS:=⟨[],[],[],true,false⟩
def rd (T:List UInt8):Except Gapi_Spot RS:=if 65536<T.length then .error ⟨3,65536⟩ else zdq rs0 (zge T)
def tot (z:List (List (List UInt8))):Nat:=(z.map List.length).sum
def ziF:Nat→List (List (List UInt8))→List Gapi_Span
 | _,[]=>[]
 | n,r::rs=>⟨n,((n+r.length:Nat):Int)⟩::ziF (n+r.length) rs
theorem zjC:∀ (a b:List (List (List UInt8))) (n:Nat),ziF n (a++b)=ziF n a++ziF (n+tot a) b
 | [],b,n=>rfl
 | r::a,b,n=>by
  show _::ziF (n+r.length) (a++b)=_
  rw [zjC a b]
  have:n+tot (r::a)=n+r.length+tot a:=by unfold tot; rw [List.map_cons,List.sum_cons]; omega
  rw [this]; rfl
theorem zhg:∀ (a:List (List (List UInt8))) (n:Nat),(ziF n a).length=a.length
 | [],n=>rfl
 | r::a,n=>by rw [ziF,List.length_cons,List.length_cons,zhg a]
theorem zjR (a b:List (List (List UInt8))):tot (a++b)=tot a+tot b:=by unfold tot; rw [List.map_append,List.sum_append]
theorem zjQ (r:List (List UInt8)):tot [r]=r.length:=by unfold tot; simp
theorem zkk {z:List (List (List UInt8))} (h:z≠[]):z=z.dropLast++[zft z]:=by
 unfold zft
 rw [List.getLastD_eq_getLast?,List.getLast?_eq_some_getLast h]
 exact (List.dropLast_concat_getLast h).symm
structure RInv (st:RS):Prop where
 tot:st.vs.length=tot st.stz
 row:st.row=true→st.stz≠[]
 most:st.vs.length≤512
 ne:∀ r∈st.stz,r≠[]
 t0:st.first=true→st.t=[]
theorem zlh:∀ (z:List (List (List UInt8))),(∀ r∈z,r≠[])→z.length≤tot z
 | [],h=>Nat.le_refl _
 | r::z,h=>by
  have h1:=zlh z fun y hy=>h y (by simp [hy])
  have h2:0<r.length:=List.length_pos_iff.2 (h r (by simp))
  have:tot (r::z)=r.length+tot z:=by unfold tot; rw [List.map_cons,List.sum_cons]
  rw [this,List.length_cons]; omega
theorem RInv.stzLen {st:RS} (h:RInv st):st.stz.length≤512:=Nat.le_trans (zlh _ h.ne) (h.tot ▸ h.most)
theorem zoI {st:RS} (h:RInv st):zcM st≠[]:=by
 unfold zcM
 split
 ·rename_i hr; exact h.row hr
 ·simp
theorem zm6 {st:RS} {n:Nat} (h:st.stz.length≤n):(zcM st).length≤n+1:=by
 unfold zcM
 split
 ·omega
 ·rw [List.length_append,List.length_singleton]; omega
theorem zkd (st:RS):tot (zcM st)=tot st.stz:=by
 unfold zcM
 split
 ·rfl
 ·rw [zjR,zjQ]; rfl
theorem RInv.step {st st':RS} {x:Nat×List UInt8} (h:RInv st) (hs:zes st x=.ok st'):RInv st':=by
 unfold zes at hs
 split at hs
 ·cases hs; exact ⟨h.tot,(fun e=>by cases e),h.most,h.ne,h.t0⟩
 ·split at hs
  ·cases hs
  ·split at hs
   ·cases hs; exact ⟨h.tot,h.row,h.most,h.ne,(fun e=>by cases e)⟩
   ·split at hs
    ·cases hs
    ·rename_i h512
     cases hs
     have e:=zkk (zoI h)
     refine ⟨?_,(fun _=>by simp [zkJ]),?_,?_,(fun e=>by cases e)⟩
     ·show (st.vs++[_]).length=Go.Proofs.YtbempdelckaccaaGreatDoor.tot ((zcM st).dropLast++[zft (zcM st)++[x.2]])
      have h2:=zkd st
      rw [e,zjR,zjQ] at h2
      rw [zjR,zjQ,List.length_append,List.length_append,List.length_singleton,List.length_singleton,h.tot,← h2]
      omega
     ·show (st.vs++[_]).length≤512
      rw [List.length_append,List.length_singleton]
      have:=h.most; omega
     ·intro r hr
      rcases List.mem_append.1 hr with hr | hr
      ·have hm:r∈zcM st:=(List.dropLast_sublist _).mem hr
       unfold zcM at hm hr
       split at hm
       ·exact h.ne r hm
       ·rename_i hrow
        rw [if_neg hrow,List.dropLast_concat] at hr
        exact h.ne r hr
      ·rw [List.mem_singleton] at hr
       subst hr; simp
theorem znQ:RInv rs0:=⟨rfl,(fun e=>by cases e),Nat.zero_le _,(fun r hr=>by cases hr),(fun _=>rfl)⟩
theorem RInv.fold:∀ {xs:List (Nat×List UInt8)} {st st':RS},RInv st→zdq st xs=.ok st'→RInv st'
 | [],st,st',h,hs=>by cases hs; exact h
 | x::xs,st,st',h,hs=>by
  unfold zdq at hs
  cases he:zes st x with
  | ok s1=>rw [he] at hs; exact RInv.fold (h.step he) hs
  | error e=>rw [he] at hs; cases hs
theorem zhY {α:Type} (a:List α) (x y:α):(a++[x]).set a.length y=a++[y]:=by simp
def mkZ (z:List (List (List UInt8))):List (List ByteArray):=z.map (·.map mkB)
section
variable {T:List UInt8} {st:RS} {sp:Nat×Nat} {k:Nat}
theorem zme {st:RS} (h:RInv st):∃ init r,zcM st=init++[r]∧zft (zcM st)=r∧(zcM st).dropLast=init∧tot init+r.length=st.vs.length∧ziF 0 (zcM st)=ziF 0 init++[⟨(tot init:Int),(st.vs.length:Int)⟩]:=by
 have e:=zkk (zoI h)
 refine ⟨_,_,e,rfl,rfl,?_,?_⟩
 ·have h2:=zkd st
  rw [e,zjR,zjQ] at h2
  rw [h.tot]; exact h2
 ·have h2:=zkd st
  rw [e,zjR,zjQ] at h2
  conv=>lhs; rw [e]
  rw [zjC,Nat.zero_add]
  show _++[(⟨(tot (zcM st).dropLast:Int),((tot (zcM st).dropLast+(zft (zcM st)).length:Nat):Int)⟩:Gapi_Span)]=_
  rw [h2,h.tot]
theorem zql {J:ByteArray→(List Gapi_Verse)→(List Gapi_Span)→Option ((Option Gpoem_Poem)×Gapi_Spot)} {m:Gplace_Map} {n:Int} {ag:ByteArray→(List Gapi_Verse)→(List Gapi_Span)→Bool→Bool→Int→Option ((Option Gpoem_Poem)×Gapi_Spot)}
  (hT:T.length≤65536) (hI:RInv st) (hk:(zcQ T)[k]?=some sp) (hm:m.lines.map spE=(zcQ T).map mkS) (hn:(k:Int)<n) :
  zdc (mkB T) J m n ag (mkB st.t) st.vs (ziF 0 st.stz) st.first st.row (k:Int) =
   match zes st (sp.1,(T.drop sp.1).take (sp.2 - sp.1)) with
   | .error e=>some (none,e)
   | .ok st'=>ag (mkB st'.t) st'.vs (ziF 0 st'.stz) st'.first st'.row ((k+1:Nat):Int):=by
 obtain ⟨h1,h2,_⟩:=zlY T sp (List.mem_of_getElem? hk)
 have hkl:=(List.getElem?_eq_some_iff.1 hk).1
 have hkb:=zgS T false 0 0
 have hkb2:(zcQ T).length≤T.length+1:=hkb
 obtain ⟨q,hq,hqs⟩:∃ q,m.lines[k]?=some q∧spE q=mkS sp:=by
  have h3:(m.lines.map spE)[k]?=some (mkS sp):=by rw [hm,List.getElem?_map,hk]; rfl
  rw [List.getElem?_map] at h3
  obtain ⟨q,a,b⟩:=Option.map_eq_some_iff.1 h3
  exact ⟨q,a,b⟩
 have hlen:m.lines.length=(zcQ T).length:=by have:=congrArg List.length hm; simpa using this
 have hq1:q.span_From=(sp.1:Int):=congrArg Gapi_Span.From hqs
 have hq2:q.span_To=(sp.2:Int):=congrArg Gapi_Span.To hqs
 have hspan:zdY m (k:Int)=some ((⟨(sp.1:Int),(sp.2:Int)⟩:Gapi_Span),q.end_,0):=by
  unfold zdY
  refine zaw (decide_eq_false (by omega)) (zaw (decide_eq_false (by omega)) (zaN (zcJ hq) ?_))
  rw [hq1,hq2]
 have hcut:zbE (mkB T) (sp.1:Int) (sp.2:Int)=mkB ((T.drop sp.1).take (sp.2 - sp.1)):=zms T sp.1 sp.2
 generalize hx:(T.drop sp.1).take (sp.2 - sp.1)=x at hcut ⊢
 have hxl:x.length=sp.2 - sp.1:=by rw [← hx,List.length_take,List.length_drop]; omega
 unfold zdc
 refine zay (decide_eq_true hn) (zbF (zbF (zaN hspan (zbM ⟨by show (0:Int)≤(sp.1:Int); omega,by show (sp.1:Int)≤sp.2; omega,by show (sp.2:Int)≤_; rw [za6]; omega⟩ ?_))))
 show zak (zd9 (zbE (mkB T) (sp.1:Int) (sp.2:Int))) _=_
 rw [hcut]
 refine zaN (zq7 x (by omega)) ?_
 unfold zes
 have goOn:∀ (a:ByteArray) (b:List Gapi_Verse) (c:List Gapi_Span) (d e:Bool),(grd (I64 ((k:Int)+1))<|ag a b c d e ((k:Int)+1))=ag a b c d e ((k+1:Nat):Int):=fun a b c d e=>zbM ⟨by omega,by omega⟩ (by rw [show (k:Int)+1=((k+1:Nat):Int) by omega])
 cases hb:zgt x with
 | true =>
  rw [if_pos rfl]
  exact zay rfl (goOn _ _ _ _ _)
 | false =>
  rw [if_neg (by decide)]
  refine zaw rfl ?_
  by_cases hbig:1024<x.length
  ·rw [if_pos hbig]
   exact zay (decide_eq_true (by rw [za6]; omega)) (zbM ⟨by show _≤(sp.1:Int)+1024; omega,by show (sp.1:Int)+1024≤_; omega⟩ rfl)
  ·rw [if_neg hbig]
   refine zaw (decide_eq_false (by rw [za6]; omega)) ?_
   have h512:=hI.most
   have verse:¬ (st.first=true∧zlT x=true)→(zax (((st.vs.length:Int):Int)==512) (some (none,(⟨3,(sp.1:Int)⟩:Gapi_Spot))) (zbr (fun (j4:(List Gapi_Span)→Option ((Option Gpoem_Poem)×Gapi_Spot)) =>
     zax (!st.row) (grd ((ziF 0 st.stz).length+1≤2147483648)<|j4 (ziF 0 st.stz++[(⟨(st.vs.length:Int),(st.vs.length:Int)⟩:Gapi_Span)])) (j4 (ziF 0 st.stz))) (fun (p20:List Gapi_Span) =>
      grd (I64 ((p20.length:Int) - 1)) <|
      zak (zcN p20 ((p20.length:Int) - 1)) fun (q1:Gapi_Span) =>
      zak (zdV (mkB x)) fun (r7:Int) =>
      grd (0≤(r7:Int)∧(r7:Int)≤((mkB x).size:Int)∧(((mkB x).size:Int):Int)≤((mkB x).size:Int)) <|
      grd (I64 ((p20.length:Int) - 1)) <|
      grd (I64 ((st.vs.length:Int) - q1.From)) <|
      grd (I64 ((sp.1:Int)+r7)) <|
      grd (st.vs.length+1≤2147483648) <|
      grd (I64 ((st.vs.length:Int)+1)) <|
      (grd (I64 ((k:Int)+1))<|ag (mkB st.t) (st.vs++[(⟨zbE (mkB x) r7 ((mkB x).size:Int),r7,(p20.length:Int) - 1,(st.vs.length:Int) - q1.From,(sp.1:Int)+r7,(sp.2:Int)⟩:Gapi_Verse)]) (p20.set ((p20.length:Int) - 1:Int).toNat (⟨q1.From,(st.vs.length:Int)+1⟩:Gapi_Span)) false true ((k:Int)+1))))) =
     match (if st.vs.length=512 then Except.error (⟨3,(sp.1:Int)⟩:Gapi_Spot) else Except.ok (zkJ st sp.1 x)) with
     | .error e=>some (none,e)
     | .ok st'=>ag (mkB st'.t) st'.vs (ziF 0 st'.stz) st'.first st'.row ((k+1:Nat):Int):=fun hnt=>by
    by_cases hfull:st.vs.length=512
    ·rw [if_pos hfull]; exact zay (beq_iff_eq.2 (by omega)) rfl
    ·rw [if_neg hfull]
     refine zaw (beq_eq_false_iff_ne.2 (by omega)) (zbF ?_)
     obtain ⟨init,r,he,hl,hdl,htot,hsp⟩:=zme hI
     have hzl:=hI.stzLen
     have hol:(zcM st).length≤513:=zm6 hzl
     have hil:init.length+1=(zcM st).length:=by rw [he]; simp
     have tail:∀ p20:List Gapi_Span,p20=ziF 0 (zcM st)→(grd (I64 ((p20.length:Int) - 1)) <|
      zak (zcN p20 ((p20.length:Int) - 1)) fun (q1:Gapi_Span) =>
      zak (zdV (mkB x)) fun (r7:Int) =>
      grd (0≤(r7:Int)∧(r7:Int)≤((mkB x).size:Int)∧(((mkB x).size:Int):Int)≤((mkB x).size:Int)) <|
      grd (I64 ((p20.length:Int) - 1)) <|
      grd (I64 ((st.vs.length:Int) - q1.From)) <|
      grd (I64 ((sp.1:Int)+r7)) <|
      grd (st.vs.length+1≤2147483648) <|
      grd (I64 ((st.vs.length:Int)+1)) <|
      (grd (I64 ((k:Int)+1))<|ag (mkB st.t) (st.vs++[(⟨zbE (mkB x) r7 ((mkB x).size:Int),r7,(p20.length:Int) - 1,(st.vs.length:Int) - q1.From,(sp.1:Int)+r7,(sp.2:Int)⟩:Gapi_Verse)]) (p20.set ((p20.length:Int) - 1:Int).toNat (⟨q1.From,(st.vs.length:Int)+1⟩:Gapi_Span)) false true ((k:Int)+1))) =
       ag (mkB (zkJ st sp.1 x).t) (zkJ st sp.1 x).vs (ziF 0 (zkJ st sp.1 x).stz) (zkJ st sp.1 x).first (zkJ st sp.1 x).row ((k+1:Nat):Int):=fun p20 hp=>by
      have hpl:p20.length=(zcM st).length:=by rw [hp,zhg]
      have hg:zcN p20 ((p20.length:Int) - 1)=some ⟨(tot init:Int),(st.vs.length:Int)⟩:=by
       refine zfi (n:=init.length) (by omega) ?_
       rw [hp,hsp,List.getElem?_append_right (by rw [zhg]; exact Nat.le_refl _),zhg,Nat.sub_self]; rfl
      have hind:=zoL x
      refine zbM ⟨by omega,by omega⟩ (zaN hg (zaN (zsb x (by omega)) (zbM ⟨by omega,by rw [za6]; omega,by omega⟩ (zbM ⟨by omega,by omega⟩ (zbM ⟨by show _≤(st.vs.length:Int) - (tot init:Int); omega,by show (st.vs.length:Int) - (tot init:Int)≤_; omega⟩ (zbM ⟨by omega,by omega⟩ (zbM (by omega) (zbM ⟨by omega,by omega⟩ ?_))))))))
      refine (goOn _ _ _ _ _).trans ?_
      have e1:(p20.set ((p20.length:Int) - 1:Int).toNat (⟨(tot init:Int),(st.vs.length:Int)+1⟩:Gapi_Span))=ziF 0 (zkJ st sp.1 x).stz:=by
       rw [show ((p20.length:Int) - 1:Int).toNat=(ziF 0 init).length by rw [zhg]; omega,hp,hsp,zhY]
       show _=ziF 0 ((zcM st).dropLast++[zft (zcM st)++[x]])
       rw [hdl,hl,zjC,Nat.zero_add]
       show _=_++[(⟨(tot init:Int),((tot init+(r++[x]).length:Nat):Int)⟩:Gapi_Span)]
       rw [List.length_append,List.length_singleton]
       congr 3
       omega
      have e2:(⟨zbE (mkB x) (ind x:Int) ((mkB x).size:Int),(ind x:Int),(p20.length:Int) - 1,(st.vs.length:Int) - (tot init:Int),(sp.1:Int)+(ind x:Int),(sp.2:Int)⟩:Gapi_Verse)=zgN sp.1 x (zcM st):=by
       unfold zgN
       rw [zkE,hpl,hl]
       congr 1
       ·omega
       ·omega
      show ag _ (st.vs++[_]) _ _ _ _=_
      rw [e2]
      show ag _ _ (p20.set _ _) _ _ _=_
      rw [e1]
      rfl
     cases hr:st.row with
     | true =>
      refine zaw rfl ?_
      exact tail _ (by unfold zcM; rw [hr]; rfl)
     | false =>
      refine zay rfl (zbM (by rw [zhg]; omega) ?_)
      refine tail _ ?_
      unfold zcM; rw [hr,if_neg (by decide),zjC,Nat.zero_add,← hI.tot]
      rfl
   cases hf:st.first with
   | true =>
    refine zay rfl (zaN (zot x) ?_)
    cases ht:zlT x with
    | true =>
     rw [if_pos ⟨rfl,rfl⟩]
     have hx1:1≤x.length:=by
      cases x with
      | nil=>cases ht
      | cons b t=>simp
     refine zay rfl (zbM ⟨by omega,by rw [za6]; omega,by omega⟩ (zaN (a:=mkB (x.drop 2)) ?_ (goOn _ _ _ _ _)))
     have:=zkE x 1
     rw [show ((1:Nat):Int)=1 from rfl] at this
     rw [this]
     exact zti x ht
    | false =>
     rw [if_neg (by simp)]
     refine zaw rfl ?_
     exact verse (by rw [ht]; simp)
   | false =>
    rw [if_neg (by simp)]
    refine zaw rfl ?_
    exact verse (by rw [hf]; simp)
end
theorem zqm {T:List UInt8} {J:ByteArray→(List Gapi_Verse)→(List Gapi_Span)→Option ((Option Gpoem_Poem)×Gapi_Spot)} {m:Gplace_Map} (hT:T.length≤65536) (hm:m.lines.map spE=(zcQ T).map mkS) :
  ∀ (n k:Nat) (st:RS),RInv st→k≤(zcQ T).length→(zcQ T).length - k<n →
   zaM (fun _ _ _ _ _ _=>none) (zdc (mkB T) J m (m.lines.length:Int)) n (mkB st.t) st.vs (ziF 0 st.stz) st.first st.row (k:Int) =
    match zdq st ((zge T).drop k) with
    | .error e=>some (none,e)
    | .ok st'=>J (mkB st'.t) st'.vs (ziF 0 st'.stz):=by
 have hlen:m.lines.length=(zcQ T).length:=by have:=congrArg List.length hm; simpa using this
 intro n
 induction n with
 | zero=>intro k st h1 h2 h3; omega
 | succ n ih =>
  intro k st hI hk hn
  rw [zcf]
  obtain ⟨ag,hag⟩:∃ ag,ag=zaM (fun _ _ _ _ _ _=>none) (zdc (mkB T) J m (m.lines.length:Int)) n:=⟨_,rfl⟩
  rw [← hag] at ih ⊢
  rcases Nat.lt_or_ge k (zcQ T).length with h | h
  ·obtain ⟨sp,hsp⟩:∃ sp,(zcQ T)[k]?=some sp:=⟨_,List.getElem?_eq_getElem h⟩
   rw [zql hT hI hsp hm (by omega)]
   have hi:(zge T).drop k=(sp.1,(T.drop sp.1).take (sp.2 - sp.1))::(zge T).drop (k+1):=by
    have hl:k<(zge T).length:=by unfold zge; rw [List.length_map]; exact h
    rw [List.drop_eq_getElem_cons hl]
    congr 1
    have:(zge T)[k]?=some (sp.1,(T.drop sp.1).take (sp.2 - sp.1)):=by unfold zge; rw [List.getElem?_map,hsp]; rfl
    rw [List.getElem?_eq_getElem hl] at this
    exact Option.some.inj this
   rw [hi,zdq]
   cases hs:zes st (sp.1,(T.drop sp.1).take (sp.2 - sp.1)) with
   | error e=>rfl
   | ok st'=>exact ih (k+1) st' (hI.step hs) (by omega) (by omega)
  ·rw [List.drop_eq_nil_of_le (by unfold zge; rw [List.length_map]; exact h)]
   unfold zdc
   exact zaw (decide_eq_false (by omega)) rfl
theorem zsP (T:List UInt8):zcT (mkB T)=match rd T with
  | .error e=>some (none,e)
  | .ok st=>some (some (⟨mkB st.t,st.vs,ziF 0 st.stz,mkB T⟩:Gpoem_Poem),(⟨0,0⟩:Gapi_Spot)):=by
 unfold zcT rd
 by_cases h:65536<T.length
 ·rw [if_pos h]
  exact zaN (zrY _ (by rw [za6]; exact h)) (zay rfl rfl)
 ·rw [if_neg h]
  obtain ⟨m,h1,h2,h3⟩:=zwg (mkB T) (by rw [za6]; omega)
  refine zaN h1 (zaw rfl (zbF (zaN rfl (zaN rfl ?_))))
  have hl:=zgS T false 0 0
  have hl2:(zcQ T).length≤T.length+1:=hl
  have:=zqm (J:=fun (p1:ByteArray) (p2:List Gapi_Verse) (p3:List Gapi_Span)=>some ((some (⟨p1,p2,p3,mkB T⟩:Gpoem_Poem)),(⟨0,0⟩:Gapi_Spot))) (T:=T) (m:=m) (by omega) h3 zb4 0 rs0 znQ (Nat.zero_le _) (by unfold zb4; omega)
  rw [List.drop_zero] at this
  exact this
end Go.Proofs.YtbempdelckaccaaGreatDoor

namespace Go.Proofs.YtbempdelckaccaaGreatDoor
open Go.RowKit Go.Lib
set_option linter.unusedVariables false
set_option linter.unusedSimpArgs false
theorem zgZ (a b:List (List (List UInt8))):mkZ (a++b)=mkZ a++mkZ b:=List.map_append
theorem zec (a:List (List (List UInt8))):(mkZ a).length=a.length:=List.length_map ..
section
variable {T:List UInt8} {st:RS} {sp:Nat×Nat} {k:Nat}
theorem zmT {J:ByteArray→(List (List ByteArray))→(List Gapi_Verse)→Option (Gref17_Poem×(List Gapi_Verse)×Gapi_Spot)} {ag:ByteArray→(List (List ByteArray))→(List Gapi_Verse)→Bool→Bool→Int→Option (Gref17_Poem×(List Gapi_Verse)×Gapi_Spot)}
  (hT:T.length≤65536) (hI:RInv st) (hk:(zcQ T)[k]?=some sp) :
  zcX (mkB T) J ((zcQ T).map mkS) ag (mkB st.t) (mkZ st.stz) st.vs st.first st.row (k:Int) =
   match zes st (sp.1,(T.drop sp.1).take (sp.2 - sp.1)) with
   | .error e=>some ((⟨ByteArray.empty,([]:List (List ByteArray))⟩:Gref17_Poem),([]:List Gapi_Verse),e)
   | .ok st'=>ag (mkB st'.t) (mkZ st'.stz) st'.vs st'.first st'.row ((k+1:Nat):Int):=by
 obtain ⟨h1,h2,_⟩:=zlY T sp (List.mem_of_getElem? hk)
 have hkl:=(List.getElem?_eq_some_iff.1 hk).1
 have hkb:=zgS T false 0 0
 have hkb2:(zcQ T).length≤T.length+1:=hkb
 have hq:zcN ((zcQ T).map mkS) (k:Int)=some (mkS sp):=zcJ (by rw [List.getElem?_map,hk]; rfl)
 have hcut:zbE (mkB T) (sp.1:Int) (sp.2:Int)=mkB ((T.drop sp.1).take (sp.2 - sp.1)):=zms T sp.1 sp.2
 generalize hx:(T.drop sp.1).take (sp.2 - sp.1)=x at hcut ⊢
 have hxl:x.length=sp.2 - sp.1:=by rw [← hx,List.length_take,List.length_drop]; omega
 unfold zcX
 refine zay (decide_eq_true (by rw [List.length_map]; omega)) (zbF (zaN hq (zbM ⟨by show (0:Int)≤(sp.1:Int); omega,by show (sp.1:Int)≤sp.2; omega,by show (sp.2:Int)≤_; rw [za6]; omega⟩ ?_)))
 show zak (zem (zbE (mkB T) (sp.1:Int) (sp.2:Int))) _=_
 have hcut2:zbE (mkB T) (mkS sp).From (mkS sp).To=mkB x:=hcut
 rw [hcut,hcut2]
 refine zaN (zpk x (by omega)) ?_
 unfold zes
 have goOn:∀ (a:ByteArray) (b:List (List ByteArray)) (c:List Gapi_Verse) (d e:Bool),(grd (I64 ((k:Int)+1))<|ag a b c d e ((k:Int)+1))=ag a b c d e ((k+1:Nat):Int):=fun a b c d e=>zbM ⟨by omega,by omega⟩ (by rw [show (k:Int)+1=((k+1:Nat):Int) by omega])
 cases hb:zgt x with
 | true =>
  rw [if_pos rfl]
  exact zay rfl (goOn _ _ _ _ _)
 | false =>
  rw [if_neg (by decide)]
  refine zaw rfl ?_
  by_cases hbig:1024<x.length
  ·rw [if_pos hbig]
   exact zay (decide_eq_true (by rw [za6]; omega)) (zbM ⟨by show _≤(sp.1:Int)+1024; omega,by show (sp.1:Int)+1024≤_; omega⟩ rfl)
  ·rw [if_neg hbig]
   refine zaw (decide_eq_false (by rw [za6]; omega)) ?_
   have h512:=hI.most
   have verse:∀ Z:Option (Gref17_Poem×(List Gapi_Verse)×Gapi_Spot),Z=(zax (((st.vs.length:Int):Int)==512) (some ((⟨ByteArray.empty,([]:List (List ByteArray))⟩:Gref17_Poem),([]:List Gapi_Verse),(⟨3,(mkS sp).From⟩:Gapi_Spot))) (zbr (fun (j5:(List (List ByteArray))→Option (Gref17_Poem×(List Gapi_Verse)×Gapi_Spot)) =>
     zax (!st.row) (grd ((mkZ st.stz).length+1≤2147483648)<|j5 (mkZ st.stz++[([]:List ByteArray)])) (j5 (mkZ st.stz))) (fun (p15:List (List ByteArray)) =>
      grd (I64 ((p15.length:Int) - 1)) <|
      zak (zb6 (mkB x)) fun (r4:Int) =>
      grd (0≤(r4:Int)∧(r4:Int)≤((mkB x).size:Int)∧(((mkB x).size:Int):Int)≤((mkB x).size:Int)) <|
      zak (zb6 (mkB x)) fun (r5:Int) =>
      zak (zcN p15 ((p15.length:Int) - 1)) fun (x1:List ByteArray) =>
      zak (zb6 (mkB x)) fun (r6:Int) =>
      grd (I64 ((mkS sp).From+r6)) <|
      grd (st.vs.length+1≤2147483648) <|
      zak (zcN p15 ((p15.length:Int) - 1)) fun (x2:List ByteArray) =>
      grd (x2.length+1≤2147483648) <|
      (grd (I64 ((k:Int)+1))<|ag (mkB st.t) (p15.set ((p15.length:Int) - 1:Int).toNat (x2++[mkB x])) (st.vs++[(⟨zbE (mkB x) r4 ((mkB x).size:Int),r5,(p15.length:Int) - 1,(x1.length:Int),(mkS sp).From+r6,(mkS sp).To⟩:Gapi_Verse)]) false true ((k:Int)+1))))) →
     ¬ (st.first=true∧zlT x=true)→Z =
     match (if st.vs.length=512 then Except.error (⟨3,(sp.1:Int)⟩:Gapi_Spot) else Except.ok (zkJ st sp.1 x)) with
     | .error e=>some ((⟨ByteArray.empty,([]:List (List ByteArray))⟩:Gref17_Poem),([]:List Gapi_Verse),e)
     | .ok st'=>ag (mkB st'.t) (mkZ st'.stz) st'.vs st'.first st'.row ((k+1:Nat):Int):=fun Z hZ hnt=>by
    rw [hZ]
    by_cases hfull:st.vs.length=512
    ·rw [if_pos hfull]; exact zay (beq_iff_eq.2 (by omega)) rfl
    ·rw [if_neg hfull]
     refine zaw (beq_eq_false_iff_ne.2 (by omega)) (zbF ?_)
     obtain ⟨init,r,he,hl,hdl,htot,hsp⟩:=zme hI
     have hzl:=hI.stzLen
     have hol:(zcM st).length≤513:=zm6 hzl
     have hil:init.length+1=(zcM st).length:=by rw [he]; simp
     have tail:∀ p15:List (List ByteArray),p15=mkZ (zcM st)→(grd (I64 ((p15.length:Int) - 1)) <|
      zak (zb6 (mkB x)) fun (r4:Int) =>
      grd (0≤(r4:Int)∧(r4:Int)≤((mkB x).size:Int)∧(((mkB x).size:Int):Int)≤((mkB x).size:Int)) <|
      zak (zb6 (mkB x)) fun (r5:Int) =>
      zak (zcN p15 ((p15.length:Int) - 1)) fun (x1:List ByteArray) =>
      zak (zb6 (mkB x)) fun (r6:Int) =>
      grd (I64 ((mkS sp).From+r6)) <|
      grd (st.vs.length+1≤2147483648) <|
      zak (zcN p15 ((p15.length:Int) - 1)) fun (x2:List ByteArray) =>
      grd (x2.length+1≤2147483648) <|
      (grd (I64 ((k:Int)+1))<|ag (mkB st.t) (p15.set ((p15.length:Int) - 1:Int).toNat (x2++[mkB x])) (st.vs++[(⟨zbE (mkB x) r4 ((mkB x).size:Int),r5,(p15.length:Int) - 1,(x1.length:Int),(mkS sp).From+r6,(mkS sp).To⟩:Gapi_Verse)]) false true ((k:Int)+1))) =
       ag (mkB (zkJ st sp.1 x).t) (mkZ (zkJ st sp.1 x).stz) (zkJ st sp.1 x).vs (zkJ st sp.1 x).first (zkJ st sp.1 x).row ((k+1:Nat):Int):=fun p15 hp=>by
      have hpl:p15.length=(zcM st).length:=by rw [hp,zec]
      have hg:zcN p15 ((p15.length:Int) - 1)=some (r.map mkB):=by
       refine zfi (n:=init.length) (by omega) ?_
       rw [hp,he,zgZ,List.getElem?_append_right (by rw [zec]; exact Nat.le_refl _),zec,Nat.sub_self]; rfl
      have hind:=zoL x
      refine zbM ⟨by omega,by omega⟩ (zaN (zhB x (by omega)) (zbM ⟨by omega,by rw [za6]; omega,by omega⟩ (zaN (zhB x (by omega)) (zaN hg (zaN (zhB x (by omega)) (zbM ⟨by show _≤(sp.1:Int)+_; omega,by show (sp.1:Int)+_≤_; omega⟩ (zbM (by omega) (zaN hg (zbM (by rw [List.length_map]; omega) ?_)))))))))
      refine (goOn _ _ _ _ _).trans ?_
      have e1:(p15.set ((p15.length:Int) - 1:Int).toNat (r.map mkB++[mkB x]))=mkZ (zkJ st sp.1 x).stz:=by
       rw [show ((p15.length:Int) - 1:Int).toNat=(mkZ init).length by rw [zec]; omega,hp,he,zgZ]
       show ((mkZ init++[r.map mkB]).set _ _)=mkZ ((zcM st).dropLast++[zft (zcM st)++[x]])
       rw [zhY,hdl,hl,zgZ]
       show _=_++[(r++[x]).map mkB]
       rw [List.map_append]; rfl
      have e2:(⟨zbE (mkB x) (ind x:Int) ((mkB x).size:Int),(ind x:Int),(p15.length:Int) - 1,((r.map mkB).length:Int),(mkS sp).From+(ind x:Int),(mkS sp).To⟩:Gapi_Verse)=zgN sp.1 x (zcM st):=by
       unfold zgN
       rw [zkE,hpl,hl,List.length_map]
       congr 1
       show (sp.2:Int)=_
       omega
      rw [e2,e1]
      rfl
     cases hr:st.row with
     | true =>
      refine zaw rfl ?_
      exact tail _ (by unfold zcM; rw [hr]; rfl)
     | false =>
      refine zay rfl (zbM (by rw [zec]; omega) ?_)
      refine tail _ ?_
      unfold zcM; rw [hr,if_neg (by decide),zgZ]
      rfl
   refine zbF ?_
   cases hf:st.first with
   | true =>
    refine zay rfl (zaN (znT x) ?_)
    cases ht:zlT x with
    | true =>
     rw [if_pos ⟨rfl,rfl⟩]
     refine zay rfl (zbF ?_)
     by_cases h2l:2<x.length
     ·refine zay (decide_eq_true (by rw [za6]; omega)) (zbM ⟨by omega,by rw [za6]; omega,by omega⟩ ?_)
      have:=zkE x 2
      rw [show ((2:Nat):Int)=2 from rfl] at this
      rw [this]
      exact goOn _ _ _ _ _
     ·refine zaw (decide_eq_false (by rw [za6]; omega)) ?_
      rw [hI.t0 hf,List.drop_eq_nil_of_le (by show x.length≤2; omega)]
      exact goOn _ _ _ _ _
    | false =>
     rw [if_neg (by simp)]
     refine zaw rfl ?_
     exact verse _ rfl (by rw [ht]; simp)
   | false =>
    rw [if_neg (by simp)]
    refine zaw rfl ?_
    exact verse _ rfl (by rw [hf]; simp)
end
theorem zmU {T:List UInt8} {J:ByteArray→(List (List ByteArray))→(List Gapi_Verse)→Option (Gref17_Poem×(List Gapi_Verse)×Gapi_Spot)} (hT:T.length≤65536) :
  ∀ (n k:Nat) (st:RS),RInv st→k≤(zcQ T).length→(zcQ T).length - k<n →
   zaM (fun _ _ _ _ _ _=>none) (zcX (mkB T) J ((zcQ T).map mkS)) n (mkB st.t) (mkZ st.stz) st.vs st.first st.row (k:Int) =
    match zdq st ((zge T).drop k) with
    | .error e=>some ((⟨ByteArray.empty,([]:List (List ByteArray))⟩:Gref17_Poem),([]:List Gapi_Verse),e)
    | .ok st'=>J (mkB st'.t) (mkZ st'.stz) st'.vs:=by
 intro n
 induction n with
 | zero=>intro k st h1 h2 h3; omega
 | succ n ih =>
  intro k st hI hk hn
  rw [zcf]
  obtain ⟨ag,hag⟩:∃ ag,ag=zaM (fun _ _ _ _ _ _=>none) (zcX (mkB T) J ((zcQ T).map mkS)) n:=⟨_,rfl⟩
  rw [← hag] at ih ⊢
  rcases Nat.lt_or_ge k (zcQ T).length with h | h
  ·obtain ⟨sp,hsp⟩:∃ sp,(zcQ T)[k]?=some sp:=⟨_,List.getElem?_eq_getElem h⟩
   rw [zmT hT hI hsp]
   have hi:(zge T).drop k=(sp.1,(T.drop sp.1).take (sp.2 - sp.1))::(zge T).drop (k+1):=by
    have hl:k<(zge T).length:=by unfold zge; rw [List.length_map]; exact h
    rw [List.drop_eq_getElem_cons hl]
    congr 1
    have:(zge T)[k]?=some (sp.1,(T.drop sp.1).take (sp.2 - sp.1)):=by unfold zge; rw [List.getElem?_map,hsp]; rfl
    rw [List.getElem?_eq_getElem hl] at this
    exact Option.some.inj this
   rw [hi,zdq]
   cases hs:zes st (sp.1,(T.drop sp.1).take (sp.2 - sp.1)) with
   | error e=>rfl
   | ok st'=>exact ih (k+1) st' (hI.step hs) (by omega) (by omega)
  ·rw [List.drop_eq_nil_of_le (by unfold zge; rw [List.length_map]; exact h)]
   unfold zcX
   exact zaw (decide_eq_false (by rw [List.length_map]; omega)) rfl
theorem zmS (T:List UInt8):zeR (mkB T)=match rd T with
  | .error e=>some ((⟨ByteArray.empty,([]:List (List ByteArray))⟩:Gref17_Poem),([]:List Gapi_Verse),e)
  | .ok st=>some ((⟨mkB st.t,mkZ st.stz⟩:Gref17_Poem),st.vs,(⟨0,0⟩:Gapi_Spot)):=by
 unfold zeR rd
 by_cases h:65536<T.length
 ·rw [if_pos h]
  exact zay (decide_eq_true (by rw [za6]; omega)) rfl
 ·rw [if_neg h]
  refine zaw (decide_eq_false (by rw [za6]; omega)) (zbF (zaN (zpj _ (by rw [za6]; omega)) ?_))
  have hl:=zgS T false 0 0
  have hl2:(zcQ T).length≤T.length+1:=hl
  have:=zmU (J:=fun (p1:ByteArray) (p2:List (List ByteArray)) (l1:List Gapi_Verse)=>some ((⟨p1,p2⟩:Gref17_Poem),l1,(⟨0,0⟩:Gapi_Spot))) (T:=T) (by omega) zb4 0 rs0 znQ (Nat.zero_le _) (by unfold zb4; omega)
  rw [List.drop_zero] at this
  exact this
end Go.Proofs.YtbempdelckaccaaGreatDoor

namespace Go.Proofs.YtbempdelckaccaaGreatDoor
open Go.RowKit Go.Lib
set_option linter.unusedVariables false
set_option linter.unusedSimpArgs false
def zci (c0:Gpoem_Poem) (ag1:Int→Option (List (Int×Gapi_Verse))) (x3:Int):Option (List (Int×Gapi_Verse)) :=
zax (decide ((x3:Int)<(c0.told_lines.length:Int))) (
zak (zcN c0.told_lines x3) fun (q1:Gapi_Verse) =>
zgK (x3,q1) <|
grd (I64 (x3+1)) <|
ag1 (x3+1)
) (
some []
)
def zc4 (c0:Gpoem_Poem):Option (List (Int×Gapi_Verse)) :=
zaM (fun _=>none) (zci c0) zb4 0
theorem zfx {b_c0 p_c0:Nat} {c0:Gpoem_Poem} {c0_h0 c0_h1:Hd} {xs:(List (Int×Gapi_Verse))} (h:zc4 c0=some xs):ItrR Tryz.prog 115 [zP b_c0] (fun q:Int×Gapi_Verse=>[zI q.1,.agg (zr1 q.2).toArray]) xs [cells b_c0 [zP p_c0] 58,cells p_c0 [.string c0.told_title,c0_h0.v,c0_h1.v,.string c0.source] 106,zv2 c0_h0.v c0.told_lines,zv3 c0_h1.v c0.told_stanzas]:=by
 unfold zc4 at h
 refine ItrR.intro Tryz.func115 rfl Tryz.ntmps115 (by simp) ?_
 intro l w0 K I X hrd hy
 obtain ⟨r0,hx0⟩:∃ r,xs=[]++r:=⟨xs,rfl⟩
 have hr0:xs=r0:=hx0
 rw [hr0] at h
 refine zaH (zyG (za3 (i:=0) hrd rfl zuL rfl dc rfl rfl (zaW rfl (zcn Tryz.underlying58) (zyN (zaT rfl (zau (zaI (zyG (za3 (i:=0) hrd rfl zuL rfl dc rfl rfl (zar rfl dc rfl ?_))))))))))
 refine zac zcz rfl dc rfl (show _=0 from rfl) (zac zeE rfl dc rfl (show _=1 from rfl) (za3 (i:=1) hrd rfl zjZ rfl dc rfl rfl (zdA (hrd.vw (i:=2) rfl) rfl dc rfl Tryz.underlying26 (zyR 1 rfl (zyN (zaG ?_))))))
 refine zbt (β:=Nat×Int×(List (Int×Gapi_Verse))×(List (Int×Gapi_Verse))) (fun b=>zaM (fun _=>none) (zci c0) b.1 b.2.1=some b.2.2.2∧xs=b.2.2.1++b.2.2.2) (fun b=>[]) (fun b=>[(0,.func (.yield l) #[] #[]),(11,c0_h0.v),(12,zI (c0.told_lines.length:Int)),(13,zI b.2.1)]) (fun b=>[I b.2.2.1]) (fun b=>b.1) (zb4,0,([]:List (Int×Gapi_Verse)),r0) ⟨h,hx0⟩ rfl (zba rfl) (zad [0] kr rfl) ?_
 rintro ⟨n1,x3,acc3,rr3⟩ ⟨h,hx3⟩
 cases n1 with
 | zero=>exact zdG h
 | succ n1 =>
  obtain ⟨ag1,hag1⟩:∃ ag,ag=zaM (fun _=>none) (zci c0) n1:=⟨_,rfl⟩
  have h:zci c0 ag1 x3=some rr3:=by rw [hag1]; exact h
  unfold zci at h
  refine zyG (zaW rfl zbA (zyN (zaH ?_)))
  refine zyB rfl h (fun h => ?_) (fun h => ?_)
  ·
   refine zau (zaI (zaH (zaG (zyG (zyR 1 rfl ?_)))))
   obtain ⟨q1,hq1,h⟩:=zbx h
   refine zbj (hrd.vw (i:=2) rfl) hq1 Tryz.underlying26 zkX rfl dc rfl rfl rfl (zdz (m:=0+(x3:Int).toNat) (j:=0) (i:=2) (q:=q1) (cs:=(zr1 q1)) hrd rfl zqi zc6 rfl dc rfl (Vw.get (hrd.vw (i:=2) rfl) hq1) rfl rfl rfl ?_)
   refine zbg zo9 rfl dc (fun b1 => ?_)
   refine zyR 1 rfl (zaU (k:=1) (vs:=(zr1 q1)) (l':=(zr1 q1)) zkX rfl rfl rfl rfl rfl (show _≤_ by simp) rfl rfl ?_)
   refine zyH (zyR 2 rfl (za5 (k:=1) (cs:=(zr1 q1)) zqi rfl dc rfl rfl rfl rfl ?_))
   obtain ⟨rr4,hr1,h⟩:=zjt h
   have hx4:xs=acc3++(x3,q1)::rr4:=by rw [hx3,hr1]
   refine zeG hy rfl dc rfl hx4 rfl (k:=0) rfl ?_ ?_
   ·
    have hx5:xs=(acc3++[(x3,q1)])++rr4:=by rw [hx4]; simp
    refine zdJ rfl dc rfl zcA (zyN (zaT rfl (zau (zah (zaI (zaB ?_))))))
    obtain ⟨hg1,h⟩:=zbw h
    refine zaW rfl (zaV (r:=x3+1) (IntWalk.i64_in _ hg1)) (zyR 1 rfl (zaX ?_))
    subst hag1
    exact za4 (n1,x3+1,acc3++[(x3,q1)],rr4) ⟨h,hx5⟩ (Nat.lt_succ_self _) rfl (zba rfl) (zad [0] kr rfl)
   refine zdJ rfl dc rfl zcA (zyN (zbd rfl (zaA (zal (zai (zai (zal ?_)))))))
   exact zkL (ds:=[]) acc3 (x3,q1) rr4 hx4 (.inl rfl) Splits.nil Tryz.results115 (zad [0] kr rfl)
  refine za9 (zap (zap (zaz ?_)))
  cases h
  exact zkK (ds:=[]) (.inr rfl) Splits.nil Tryz.results115 (congrArg I (hx3.trans (List.append_nil _))) (zad [0] kr rfl)
def zdX (p1:Gpoem_Poem):Option Unit :=
some ()
theorem zgc {bp1:Nat} {p1:Gpoem_Poem} {p1_h0 p1_h1:Hd} {r:Unit} (h:zdX p1=some r):FnR Tryz.prog 86 [zP bp1] [cells bp1 [.string p1.told_title,p1_h0.v,p1_h1.v,.string p1.source] 106,zv2 p1_h0.v p1.told_lines,zv3 p1_h1.v p1.told_stanzas] [] (fun v0:Nat=>.func (.func 115) #[] #[zP v0]) (fun v0=>[cells v0 [zP bp1] 58]):=by
 unfold zdX at h
 refine FnR.intro Tryz.func86 rfl Tryz.ntmps86 (by simp) ?_
 intro w0 K hrd
 refine zyG ?_
 refine zdQ rfl dc rfl (fun b1 => ?_)
 refine zyR 1 rfl (zyH (zgy (x1:=[]) (x2:=[.tmp 1]) rfl dc rfl rfl (zyR 1 rfl (zyN (zaA ?_)))))
 cases h
 exact zaF (rs:=[.tmp 2]) b1 (.inl rfl) Tryz.results86 (.cons (.tmp rfl) .nil) rfl (zad [0] kr rfl)
end Go.Proofs.YtbempdelckaccaaGreatDoor

namespace Go.Proofs.YtbempdelckaccaaGreatDoor
open Go.RowKit Go.Lib
set_option linter.unusedVariables false
set_option linter.unusedSimpArgs false
def zcp (s1:ByteArray):Option Bool :=
grd (s1.size≤4294967280) <|
some (decide ((0:Int)≤(iaV s1)))
theorem zfM {s1:ByteArray} {r:Bool} (h:zcp s1=some r):FnP Tryz.prog 114 [.string s1,.string (⟨#[13,10]⟩:ByteArray)] (.bool r):=by
 unfold zcp at h
 refine FnP.intro Tryz.func114 rfl Tryz.ntmps114 (by simp) ?_
 intro w0 K
 refine zyG (zyR 1 rfl (zyH (zyR 2 rfl ?_)))
 obtain ⟨hg1,h⟩:=zbw h
 refine zbc (v:=zI (iaV s1)) (vs:=[.string s1,.string (⟨#[13,10]⟩:ByteArray)]) rfl dc rfl rfl rfl zvh (zuZ s1 hg1) (zaW rfl zeg (zyR 1 rfl (zyN (zaA ?_))))
 cases h
 exact zaF (rs:=[.tmp 4]) () (.inl rfl) Tryz.results114 (.cons (.tmp rfl) .nil) rfl Splits.nil
def ziJ (s1:ByteArray) (most1:Int):Option Bool :=
zax (decide (((s1.size:Int):Int)≤most1)) (
zak (zcp s1) fun (r1:Bool) =>
some (!r1)
) (
some false
)
theorem znV {s1:ByteArray} {most1:Int} {r:Bool} (h:ziJ s1 most1=some r):FnP Tryz.prog 84 [.string s1,zI most1] (.bool r):=by
 unfold ziJ at h
 refine FnP.intro Tryz.func84 rfl Tryz.ntmps84 (by simp) ?_
 intro w0 K
 refine zyG (zyR 1 rfl (zyH (zyR 1 rfl (zbl rfl dc rfl Tryz.underlying9 (zyR 1 rfl (zaW rfl zdP (zyR 1 rfl ?_)))))))
 refine zyS (s:=9) rfl h (fun h => ?_) (fun h => ?_)
 ·
  refine zyR 1 rfl ?_
  obtain ⟨r1,hq1,h⟩:=zbx h
  refine zbc (v:=.bool r1) (vs:=[.string s1,.string (⟨#[13,10]⟩:ByteArray)]) rfl dc rfl rfl rfl zvk (zfM hq1) (zdJ rfl dc rfl zcA (zyR 2 rfl (zyN (zaA ?_))))
  cases h
  exact zaF (rs:=[.tmp 4]) () (.inl rfl) Tryz.results84 (.cons (.tmp rfl) .nil) rfl Splits.nil
 refine zyR 5 rfl (zyN (zaA ?_))
 cases h
 exact zaF (rs:=[.tmp 4]) () (.inl rfl) Tryz.results84 (.cons (.tmp rfl) .nil) rfl Splits.nil
end Go.Proofs.YtbempdelckaccaaGreatDoor

namespace Go.Proofs.YtbempdelckaccaaGreatDoor
open Go.RowKit Go.Lib Go.Shelf
set_option linter.unusedVariables false
set_option linter.unusedSimpArgs false
def zpL (s:ByteArray) (n:Int):Bool:=decide ((s.size:Int)≤n)&&!zlI s
theorem zpD (s:ByteArray) (h:s.size≤4294967280):zcp s=some (zlI s):=by
 unfold zcp
 exact zbM h (congrArg some (zu0 s))
theorem zuS (s:ByteArray) (n:Int) (h:n≤4294967280):FnP Tryz.prog 84 [.string s,.int .i64 n] (.bool (zpL s n)):=by
 refine znV ?_
 unfold ziJ zpL
 cases hc:decide ((s.size:Int)≤n) with
 | true=>exact zay rfl (zaN (zpD s (by have:=of_decide_eq_true hc; omega)) rfl)
 | false=>exact zaw rfl rfl
end Go.Proofs.YtbempdelckaccaaGreatDoor

namespace Go.Proofs.YtbempdelckaccaaGreatDoor
open Go.RowKit Go.Lib
set_option linter.unusedVariables false
set_option linter.unusedSimpArgs false
def zfg (p1:Gpoem_Poem):Option ByteArray :=
some p1.told_title
theorem zh5 {bp1:Nat} {p1:Gpoem_Poem} {p1_h0 p1_h1:Hd} {r:ByteArray} (h:zfg p1=some r):FnR Tryz.prog 24 [zP bp1] [cells bp1 [.string p1.told_title,p1_h0.v,p1_h1.v,.string p1.source] 106,zv2 p1_h0.v p1.told_lines,zv3 p1_h1.v p1.told_stanzas] [] (fun _:Unit=>(.string r)) (fun _=>[]):=by
 unfold zfg at h
 refine FnR.intro Tryz.func24 rfl Tryz.ntmps24 (by simp) ?_
 intro w0 K hrd
 refine zyG (zyR 1 rfl (zyN (zaH (zyG (zyR 1 rfl (zaW rfl (zcn Tryz.underlying58) (zyN (zaT rfl (zau ?_)))))))))
 refine zaI (zyG (zyR 1 rfl (zar rfl dc rfl (zac zcz rfl dc rfl (show _=0 from rfl) (zac zfY rfl dc rfl (show _=0 from rfl) (za3 (i:=0) hrd rfl zjc rfl dc rfl rfl (zyR 1 rfl (zyN (zaA ?_)))))))))
 cases h
 exact zaF (rs:=[.tmp 2]) () (.inl rfl) Tryz.results24 (.cons (.tmp rfl) .nil) rfl Splits.nil
def zcD (p1:Gpoem_Poem) (q1:Gpoem_Poem) (j1:Option Bool) (ag1:Int→Option Bool) (x3:Int):Option Bool :=
zax (decide ((x3:Int)<(p1.told_lines.length:Int))) (
zak (zcN p1.told_lines x3) fun (q2:Gapi_Verse) =>
zak (zcN q1.told_lines x3) fun (q3:Gapi_Verse) =>
zax (!decide (q2.Text=q3.Text)) (
some false
) (
zax ((q2.Indent:Int) != q3.Indent) (
some false
) (
zax ((q2.Stanza:Int) != q3.Stanza) (
some false
) (
grd (I64 (x3+1)) <|
ag1 (x3+1)
)
)
)
) (
j1
)
def zdn (p1:Gpoem_Poem) (q1:Gpoem_Poem):Option Bool :=
zax (!decide (p1.told_title=q1.told_title)) (
some false
) (
zax (((p1.told_lines.length:Int):Int) != (q1.told_lines.length:Int)) (
some false
) (
zbr (fun (j1:Option Bool) =>
zaM (fun _=>none) (zcD p1 q1 j1) zb4 0
) (
some true
)
)
)
theorem zgb {bp1:Nat} {p1:Gpoem_Poem} {p1_h0 p1_h1:Hd} {bq1:Nat} {q1:Gpoem_Poem} {q1_h0 q1_h1:Hd} {r:Bool} (h:zdn p1 q1=some r):FnR Tryz.prog 26 [zP bp1,zP bq1] [cells bp1 [.string p1.told_title,p1_h0.v,p1_h1.v,.string p1.source] 106,zv2 p1_h0.v p1.told_lines,zv3 p1_h1.v p1.told_stanzas,cells bq1 [.string q1.told_title,q1_h0.v,q1_h1.v,.string q1.source] 106,zv2 q1_h0.v q1.told_lines,zv3 q1_h1.v q1.told_stanzas] [] (fun _:Unit=>(.bool r)) (fun _=>[]):=by
 unfold zdn at h
 refine FnR.intro Tryz.func26 rfl Tryz.ntmps26 (by simp) ?_
 intro w0 K hrd
 refine zyG (zyR 1 rfl (zyN (zaH (zaH ?_))))
 refine zfH (b:=!decide (p1.told_title=q1.told_title)) (fun hb1 => ?_) (fun hb1 => ?_)
 ·
  have h:=zg9 hb1 h
  refine zbz 32 [(0,8,zP bp1),(1,9,.bool false),(2,10,.bool false),(3,11,zP bq1),(4,12,.bool false),(5,13,.bool false),(6,14,.bool false),(7,15,zP bp1),(8,16,zP bp1),(9,17,zP bp1),(10,18,zP bp1),(11,19,.string p1.told_title),(12,20,zP bq1),(13,21,zP bq1),(14,22,zP bq1),(15,23,zP bq1),(16,24,.string q1.told_title),(17,25,.bool true),(18,26,.bool true),(19,27,.bool true),(20,28,undef),(21,29,undef),(22,30,undef),(23,31,undef),(24,32,undef),(25,33,undef),(26,34,undef),(27,35,undef),(28,36,undef),(29,37,undef),(30,38,undef),(31,39,undef)] mixed kr kr dc (by rfl) kr kr (zyP 1 0 rfl (zae ?_ (zyP 2 2 rfl (zae ?_ (zyP 3 5 rfl (zae ?_ (zae ?_ (zae ?_ (zae ?_ (zyP 1 12 rfl (zae ?_ (zae ?_ (zae ?_ (zae ?_ (zae ?_ (zyP 14 18 rfl DrawPre.nil)))))))))))))))) ?_
  · exact fun D n d c u i=>zcc rfl dc (zaa (m:=0) u rfl (d 0 dc)) rfl (zcn Tryz.underlying58) (zaf 1 u i rfl)
  · exact fun D n d c u i=>zcc (zeY rfl (zaa (m:=2) u rfl (d 2 dc))) dc (zaa (m:=3) u rfl (d 3 dc)) rfl (zcn Tryz.underlying58) (zaf 4 u i rfl)
  · exact fun D n d c u i=>zar (zeY rfl (zaa (m:=6) u rfl (d 6 dc))) dc (zaa (m:=7) u rfl (d 7 dc)) (zaf 8 u i rfl)
  · exact fun D n d c u i=>zac zcz (zeY rfl (zaa (m:=6) u rfl (d 6 dc))) dc (zaa (m:=8) u rfl (d 8 dc)) (show _=0 from rfl) (zaf 9 u i rfl)
  · exact fun D n d c u i=>zac zfY (zeY rfl (zaa (m:=6) u rfl (d 6 dc))) dc (zaa (m:=9) u rfl (d 9 dc)) (show _=0 from rfl) (zaf 10 u i rfl)
  · exact fun D n d c u i=>za3 (i:=0) hrd rfl zjc (zeY rfl (zaa (m:=6) u rfl (d 6 dc))) dc (zaa (m:=10) u rfl (d 10 dc)) rfl (zaf 11 u i rfl)
  · exact fun D n d c u i=>zar (zeY rfl (zaa (m:=6) u rfl (d 6 dc))) dc (zaa (m:=12) u rfl (d 12 dc)) (zaf 13 u i rfl)
  · exact fun D n d c u i=>zac zcz (zeY rfl (zaa (m:=6) u rfl (d 6 dc))) dc (zaa (m:=13) u rfl (d 13 dc)) (show _=0 from rfl) (zaf 14 u i rfl)
  · exact fun D n d c u i=>zac zfY (zeY rfl (zaa (m:=6) u rfl (d 6 dc))) dc (zaa (m:=14) u rfl (d 14 dc)) (show _=0 from rfl) (zaf 15 u i rfl)
  · exact fun D n d c u i=>za3 (i:=3) hrd rfl zjc (zeY rfl (zaa (m:=6) u rfl (d 6 dc))) dc (zaa (m:=15) u rfl (d 15 dc)) rfl (zaf 16 u i rfl)
  · exact fun D n d c u i=>zcc (zeY rfl (zaa (m:=6) u rfl (d 6 dc))) dc (zaa (m:=11) u rfl (d 11 dc)) (zaa (m:=16) u rfl (d 16 dc)) ziz (zf8 (show Value.bool (!decide (p1.told_title=q1.told_title))=Value.bool true from congrArg Value.bool hb1) (zaf 17 u i rfl))
  refine zyR 2 rfl (zyN (zbd rfl (zyG (zyR 1 rfl (zyN (zaA (zai ?_)))))))
  cases h
  exact zaF (rs:=[.tmp 4]) () (.inl rfl) Tryz.results26 (.cons (.tmp rfl) .nil) rfl Splits.nil
 have h:=zha hb1 h
 refine zbz 32 [(0,8,zP bp1),(1,9,.bool false),(2,10,.bool false),(3,11,zP bq1),(4,12,.bool false),(5,13,.bool false),(6,14,.bool false),(7,15,zP bp1),(8,16,zP bp1),(9,17,zP bp1),(10,18,zP bp1),(11,19,.string p1.told_title),(12,20,zP bq1),(13,21,zP bq1),(14,22,zP bq1),(15,23,zP bq1),(16,24,.string q1.told_title),(17,25,.bool false),(18,26,.bool false),(19,27,.bool false),(20,28,zP bp1),(21,29,zP bp1),(22,30,zP bp1),(23,31,.pointer (some ⟨bp1,1,none⟩)),(24,32,p1_h0.v),(25,33,zI (p1.told_lines.length:Int)),(26,34,zP bq1),(27,35,zP bq1),(28,36,zP bq1),(29,37,.pointer (some ⟨bq1,1,none⟩)),(30,38,q1_h0.v),(31,39,zI (q1.told_lines.length:Int))] mixed kr kr dc (by rfl) kr kr (zyP 1 0 rfl (zae ?_ (zyP 2 2 rfl (zae ?_ (zyP 3 5 rfl (zae ?_ (zae ?_ (zae ?_ (zae ?_ (zyP 1 12 rfl (zae ?_ (zae ?_ (zae ?_ (zae ?_ (zae ?_ (zyP 3 18 rfl (zae ?_ (zae ?_ (zae ?_ (zae ?_ (zae ?_ (zyP 1 26 rfl (zae ?_ (zae ?_ (zae ?_ (zae ?_ (zae ?_ DrawPre.nil))))))))))))))))))))))))))) ?_
 · exact fun D n d c u i=>zcc rfl dc (zaa (m:=0) u rfl (d 0 dc)) rfl (zcn Tryz.underlying58) (zaf 1 u i rfl)
 · exact fun D n d c u i=>zcc (zeY rfl (zaa (m:=2) u rfl (d 2 dc))) dc (zaa (m:=3) u rfl (d 3 dc)) rfl (zcn Tryz.underlying58) (zaf 4 u i rfl)
 · exact fun D n d c u i=>zar (zeY rfl (zaa (m:=6) u rfl (d 6 dc))) dc (zaa (m:=7) u rfl (d 7 dc)) (zaf 8 u i rfl)
 · exact fun D n d c u i=>zac zcz (zeY rfl (zaa (m:=6) u rfl (d 6 dc))) dc (zaa (m:=8) u rfl (d 8 dc)) (show _=0 from rfl) (zaf 9 u i rfl)
 · exact fun D n d c u i=>zac zfY (zeY rfl (zaa (m:=6) u rfl (d 6 dc))) dc (zaa (m:=9) u rfl (d 9 dc)) (show _=0 from rfl) (zaf 10 u i rfl)
 · exact fun D n d c u i=>za3 (i:=0) hrd rfl zjc (zeY rfl (zaa (m:=6) u rfl (d 6 dc))) dc (zaa (m:=10) u rfl (d 10 dc)) rfl (zaf 11 u i rfl)
 · exact fun D n d c u i=>zar (zeY rfl (zaa (m:=6) u rfl (d 6 dc))) dc (zaa (m:=12) u rfl (d 12 dc)) (zaf 13 u i rfl)
 · exact fun D n d c u i=>zac zcz (zeY rfl (zaa (m:=6) u rfl (d 6 dc))) dc (zaa (m:=13) u rfl (d 13 dc)) (show _=0 from rfl) (zaf 14 u i rfl)
 · exact fun D n d c u i=>zac zfY (zeY rfl (zaa (m:=6) u rfl (d 6 dc))) dc (zaa (m:=14) u rfl (d 14 dc)) (show _=0 from rfl) (zaf 15 u i rfl)
 · exact fun D n d c u i=>za3 (i:=3) hrd rfl zjc (zeY rfl (zaa (m:=6) u rfl (d 6 dc))) dc (zaa (m:=15) u rfl (d 15 dc)) rfl (zaf 16 u i rfl)
 · exact fun D n d c u i=>zcc (zeY rfl (zaa (m:=6) u rfl (d 6 dc))) dc (zaa (m:=11) u rfl (d 11 dc)) (zaa (m:=16) u rfl (d 16 dc)) ziz (zf8 (show Value.bool (!decide (p1.told_title=q1.told_title))=Value.bool false from congrArg Value.bool hb1) (zaf 17 u i rfl))
 · exact fun D n d c u i=>zar (zeY rfl (zaa (m:=19) u rfl (d 19 dc))) dc (zaa (m:=20) u rfl (d 20 dc)) (zaf 21 u i rfl)
 · exact fun D n d c u i=>zac zcz (zeY rfl (zaa (m:=19) u rfl (d 19 dc))) dc (zaa (m:=21) u rfl (d 21 dc)) (show _=0 from rfl) (zaf 22 u i rfl)
 · exact fun D n d c u i=>zac zeE (zeY rfl (zaa (m:=19) u rfl (d 19 dc))) dc (zaa (m:=22) u rfl (d 22 dc)) (show _=1 from rfl) (zaf 23 u i rfl)
 · exact fun D n d c u i=>za3 (i:=0) hrd rfl zjZ (zeY rfl (zaa (m:=19) u rfl (d 19 dc))) dc (zaa (m:=23) u rfl (d 23 dc)) rfl (zaf 24 u i rfl)
 · exact fun D n d c u i=>zdA (hrd.vw (i:=1) rfl) (zeY rfl (zaa (m:=19) u rfl (d 19 dc))) dc (zaa (m:=24) u rfl (d 24 dc)) Tryz.underlying26 (zaf 25 u i rfl)
 · exact fun D n d c u i=>zar (zeY rfl (zaa (m:=19) u rfl (d 19 dc))) dc (zaa (m:=26) u rfl (d 26 dc)) (zaf 27 u i rfl)
 · exact fun D n d c u i=>zac zcz (zeY rfl (zaa (m:=19) u rfl (d 19 dc))) dc (zaa (m:=27) u rfl (d 27 dc)) (show _=0 from rfl) (zaf 28 u i rfl)
 · exact fun D n d c u i=>zac zeE (zeY rfl (zaa (m:=19) u rfl (d 19 dc))) dc (zaa (m:=28) u rfl (d 28 dc)) (show _=1 from rfl) (zaf 29 u i rfl)
 · exact fun D n d c u i=>za3 (i:=3) hrd rfl zjZ (zeY rfl (zaa (m:=19) u rfl (d 19 dc))) dc (zaa (m:=29) u rfl (d 29 dc)) rfl (zaf 30 u i rfl)
 · exact fun D n d c u i=>zdA (hrd.vw (i:=4) rfl) (zeY rfl (zaa (m:=19) u rfl (d 19 dc))) dc (zaa (m:=30) u rfl (d 30 dc)) Tryz.underlying26 (zaf 31 u i rfl)
 refine zaW rfl zbP (zyR 1 rfl (zyN ?_))
 refine zyB rfl h (fun h => ?_) (fun h => ?_)
 ·
  refine zyG (zyR 1 rfl (zyN (zaA (zai ?_))))
  cases h
  exact zaF (rs:=[.tmp 4]) () (.inl rfl) Tryz.results26 (.cons (.tmp rfl) .nil) rfl Splits.nil
 refine zau (zaI ?_)
 obtain ⟨j1,hj1,h⟩:=zbO h
 refine zaY (β:=Unit) 0 rfl (fun b=>j1=some r) (fun b=>[]) (fun b=>[]) (fun b=>[]) (fun cut => ?_) ?_
 ·
  refine cut (zyG (zyR 1 rfl (zar rfl dc rfl (zac zcz rfl dc rfl (show _=0 from rfl) (zac zeE rfl dc rfl (show _=1 from rfl) (za3 (i:=0) hrd rfl zjZ rfl dc rfl rfl (zdA (hrd.vw (i:=1) rfl) rfl dc rfl Tryz.underlying26 (zyR 1 rfl (zyN (zaG ?_))))))))))
  refine zbt (β:=Nat×Int) (fun b=>zaM (fun _=>none) (zcD p1 q1 j1) b.1 b.2=some r) (fun b=>[]) (fun b=>[(1,zP bq1),(46,p1_h0.v),(47,zI (p1.told_lines.length:Int)),(48,zI b.2)]) (fun b=>[]) (fun b=>b.1) (zb4,0) h rfl (zba rfl) Splits.nil ?_
  rintro ⟨n1,x3⟩ h
  cases n1 with
  | zero=>exact zdG h
  | succ n1 =>
   obtain ⟨ag1,hag1⟩:∃ ag,ag=zaM (fun _=>none) (zcD p1 q1 j1) n1:=⟨_,rfl⟩
   have h:zcD p1 q1 j1 ag1 x3=some r:=by rw [hag1]; exact h
   unfold zcD at h
   refine zyG (zaW rfl zbA (zyN (zaH ?_)))
   refine zyB rfl h (fun h => ?_) (fun h => ?_)
   ·
    refine zau (zaI (zaH (zaG (zyG (zyR 1 rfl ?_)))))
    obtain ⟨q2,hq1,h⟩:=zbx h
    refine zbj (hrd.vw (i:=1) rfl) hq1 Tryz.underlying26 zkX rfl dc rfl rfl rfl (zdz (m:=0+(x3:Int).toNat) (j:=0) (i:=1) (q:=q2) (cs:=(zr1 q2)) hrd rfl zqi zc6 rfl dc rfl (Vw.get (hrd.vw (i:=1) rfl) hq1) rfl rfl rfl ?_)
    refine zbg zo9 rfl dc (fun b1 => ?_)
    refine zyR 1 rfl (zaU (k:=0) (vs:=(zr1 q2)) (l':=(zr1 q2)) zkX rfl rfl rfl rfl rfl (show _≤_ by simp) rfl rfl ?_)
    refine zyH (zyR 1 rfl (zar rfl dc rfl (zac zcz rfl dc rfl (show _=0 from rfl) (zac zeE rfl dc rfl (show _=1 from rfl) (za3 (i:=3) hrd rfl zjZ rfl dc rfl rfl (zyR 1 rfl ?_))))))
    obtain ⟨q3,hq2,h⟩:=zbx h
    refine zbj (hrd.vw (i:=4) rfl) hq2 Tryz.underlying26 zkX rfl dc rfl rfl rfl (zdz (m:=0+(x3:Int).toNat) (j:=0) (i:=4) (q:=q3) (cs:=(zr1 q3)) hrd rfl zqi zc6 rfl dc rfl (Vw.get (hrd.vw (i:=4) rfl) hq2) rfl rfl rfl ?_)
    refine zbg zo9 rfl dc (fun b2 => ?_)
    refine zaU (k:=1) (vs:=(zr1 q3)) (l':=(zr1 q3)) zkX rfl rfl rfl rfl rfl (show _≤_ by simp) rfl rfl ?_
    refine zyH (zac zkx rfl dc rfl (show _=0 from rfl) (zan (k:=0) zjc rfl dc rfl rfl rfl (zac zkx rfl dc rfl (show _=0 from rfl) (zan (k:=1) zjc rfl dc rfl rfl rfl (zaW rfl ziz (zyR 1 rfl ?_))))))
    refine zyS (s:=66) rfl h (fun h => ?_) (fun h => ?_)
    ·
     refine zyR 13 rfl (zaX ?_)
     refine zaI (zbd rfl (zyG (zyR 1 rfl (zyN (zaA (zal (zai (zai (zal (zai ?_))))))))))
     cases h
     exact zaF (rs:=[.tmp 4]) () (.inl rfl) Tryz.results26 (.cons (.tmp rfl) .nil) rfl Splits.nil
    refine zac zkw rfl dc rfl (show _=1 from rfl) (zan (k:=0) zbS rfl dc rfl rfl rfl (zac zkw rfl dc rfl (show _=1 from rfl) (zan (k:=1) zbS rfl dc rfl rfl rfl (zaW rfl zbP (zyR 2 rfl ?_)))))
    refine zyS (s:=73) rfl h (fun h => ?_) (fun h => ?_)
    ·
     refine zyR 6 rfl (zyN (zbd rfl (zyG (zyR 1 rfl (zyN ?_)))))
     refine zaA (zal (zai (zai (zal (zai ?_)))))
     cases h
     exact zaF (rs:=[.tmp 4]) () (.inl rfl) Tryz.results26 (.cons (.tmp rfl) .nil) rfl Splits.nil
    refine zac zg4 rfl dc rfl (show _=2 from rfl) (zan (k:=0) zbS rfl dc rfl rfl rfl (zac zg4 rfl dc rfl (show _=2 from rfl) (zan (k:=1) zbS rfl dc rfl rfl rfl (zaW rfl zbP (zyR 1 rfl (zyN ?_))))))
    refine zyB rfl h (fun h => ?_) (fun h => ?_)
    ·
     refine zyG (zyR 1 rfl (zyN (zaA (zal (zai (zai (zal (zai ?_))))))))
     cases h
     exact zaF (rs:=[.tmp 4]) () (.inl rfl) Tryz.results26 (.cons (.tmp rfl) .nil) rfl Splits.nil
    refine zau (zah (zaI (zaB ?_)))
    obtain ⟨hg1,h⟩:=zbw h
    refine zaW rfl (zaV (r:=x3+1) (IntWalk.i64_in _ hg1)) (zyR 1 rfl (zaX ?_))
    subst hag1
    exact za4 (n1,x3+1) h (Nat.lt_succ_self _) rfl (zba rfl) Splits.nil
   refine za9 (zap (zap (zaz ?_)))
   exact zaq () h rfl (zgA) Splits.nil
 rintro _ h
 rw [hj1] at h
 refine zyG (zyR 1 rfl (zyN (zaA ?_)))
 cases h
 exact zaF (rs:=[.tmp 4]) () (.inl rfl) Tryz.results26 (.cons (.tmp rfl) .nil) rfl Splits.nil
end Go.Proofs.YtbempdelckaccaaGreatDoor
