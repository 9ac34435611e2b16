/-
  Texts laid together: Lt, Pcs, Tok, PlA, Ql, PlB, Ob, Vs, PcW, Cls, ClsW, ClsW2, SeqW, RefPcs, Runs, C0, Vow, RefW, RefW3, Ro, Shf, Sf, Op, Ir, Rq, Lr, Bytes, Bld, Gr, Bn, Sh. Nothing is assumed.
-/
import Derived.Test.YtbempdelckaccaaDoorPageCut1
import Derived.Test.YtbempdelckaccaaDoorProg
import Derived.Shelf.Strings.Builder1
import Derived.Shelf.Strings.Builder2
import Derived.Shelf.Strings.Trim
import Derived.Shelf.Small.Utf8
import Derived.Shelf.Small.Strs
import Derived.Shelf.Strings.BuilderF
import Derived.Shelf.Strings.Search1
import Derived.Shelf.Strings.Prefix
import Derived.Shelf.Strings.Runes
import Derived.Shelf.Strings.IndexAny
import Derived.Shelf.Strings.AsciiSet
import Derived.Shelf.Strings.IndexAnyAll
import Derived.Shelf.Bits.Mul64
import Derived.Shelf.Strings.Repeat
import Derived.Shelf.Unicode.DecodeSlow
import Derived.Shelf.Strings.SlTrimAscii
import Derived.Lib.AppendStr
import Derived.Laws.IdiomStrings
import Derived.Lib.BufferRead
import Derived.Lib.Builder
import Derived.Outline
import Derived.Lib.UnsafeStr
import Derived.Lib.MakeNoZero
import Derived.OpenShut
import Derived.SliceStrings
import Derived.ProofKit
set_option maxRecDepth 100000
set_option maxHeartbeats 4000000

namespace Go.Proofs.YtbempdelckaccaaDoor
open Go.RowKit Go.Lib
set_option linter.unusedSimpArgs false
@[ext] structure Gapi_Layout where
 Width:Int
 Height:Int
 Turn:Int
 Every:Int
def zhm (a b:Gapi_Layout):Bool:=(a.Width==b.Width)&&(a.Height==b.Height)&&(a.Turn==b.Turn)&&(a.Every==b.Every)
theorem zig (a b:Gapi_Layout):zhm a b=true↔a=b:=by
 rcases a with ⟨a0,a1,a2,a3⟩
 rcases b with ⟨b0,b1,b2,b3⟩
 simp [zhm,Bool.and_eq_true,and_assoc]
instance:DecidableEq Gapi_Layout:=fun a b=>decidable_of_iff _ (zig a b)
@[ext] structure Gapi_Row where
 Line:Int
 Stanza:Int
 Part:Int
 Indent:Int
 Number:Int
 Text:ByteArray
def zcT (x:Gapi_Row):List Value:=[.int .i64 x.Line,.int .i64 x.Stanza,.int .i64 x.Part,.int .i64 x.Indent,.int .i64 x.Number,.string x.Text]
theorem zbQ (x:Gapi_Row):(zcT x).length=6:=rfl
theorem zeA (x:Gapi_Row):∀ u∈zcT x,u.oneCell'=true:=by
 intro u hu
 simp only [zcT,List.mem_cons,List.not_mem_nil,or_false] at hu
 rcases hu with rfl | rfl | rfl | rfl | rfl | rfl <;> rfl
def zj2 (a b:Gapi_Row):Bool:=(a.Line==b.Line)&&(a.Stanza==b.Stanza)&&(a.Part==b.Part)&&(a.Indent==b.Indent)&&(a.Number==b.Number)&&decide (a.Text=b.Text)
theorem zj1 (a b:Gapi_Row):zj2 a b=true↔a=b:=by
 rcases a with ⟨a0,a1,a2,a3,a4,a5⟩
 rcases b with ⟨b0,b1,b2,b3,b4,b5⟩
 simp [zj2,Bool.and_eq_true,and_assoc]
instance:DecidableEq Gapi_Row:=fun a b=>decidable_of_iff _ (zj1 a b)
@[ext] structure Gapi_Span where
 From:Int
 To:Int
def zdv (x:Gapi_Span):List Value:=[.int .i64 x.From,.int .i64 x.To]
theorem zbo (x:Gapi_Span):(zdv x).length=2:=rfl
theorem zcd (x:Gapi_Span):∀ u∈zdv x,u.oneCell'=true:=by
 intro u hu
 simp only [zdv,List.mem_cons,List.not_mem_nil,or_false] at hu
 rcases hu with rfl | rfl <;> rfl
def zi1 (a b:Gapi_Span):Bool:=(a.From==b.From)&&(a.To==b.To)
theorem zja (a b:Gapi_Span):zi1 a b=true↔a=b:=by
 rcases a with ⟨a0,a1⟩
 rcases b with ⟨b0,b1⟩
 simp [zi1,Bool.and_eq_true,and_assoc]
instance:DecidableEq Gapi_Span:=fun a b=>decidable_of_iff _ (zja a b)
@[ext] structure Gapi_Verse where
 Text:ByteArray
 Indent:Int
 Stanza:Int
 In:Int
 Span_From:Int
 Span_To:Int
def zbr (x:Gapi_Verse):List Value:=[.string x.Text,.int .i64 x.Indent,.int .i64 x.Stanza,.int .i64 x.In,.int .i64 x.Span_From,.int .i64 x.Span_To]
theorem zdu (x:Gapi_Verse):(zbr x).length=6:=rfl
theorem zf1 (x:Gapi_Verse):∀ u∈zbr x,u.oneCell'=true:=by
 intro u hu
 simp only [zbr,List.mem_cons,List.not_mem_nil,or_false] at hu
 rcases hu with rfl | rfl | rfl | rfl | rfl | rfl <;> rfl
def zid (a b:Gapi_Verse):Bool:=decide (a.Text=b.Text)&&(a.Indent==b.Indent)&&(a.Stanza==b.Stanza)&&(a.In==b.In)&&(a.Span_From==b.Span_From)&&(a.Span_To==b.Span_To)
theorem ziG (a b:Gapi_Verse):zid a b=true↔a=b:=by
 rcases a with ⟨a0,a1,a2,a3,a4,a5⟩
 rcases b with ⟨b0,b1,b2,b3,b4,b5⟩
 simp [zid,Bool.and_eq_true,and_assoc]
instance:DecidableEq Gapi_Verse:=fun a b=>decidable_of_iff _ (ziG a b)
@[ext] structure Gapi_Spot where
 Err:Int
 At:Int
def zi0 (a b:Gapi_Spot):Bool:=(a.Err==b.Err)&&(a.At==b.At)
theorem zi9 (a b:Gapi_Spot):zi0 a b=true↔a=b:=by
 rcases a with ⟨a0,a1⟩
 rcases b with ⟨b0,b1⟩
 simp [zi0,Bool.and_eq_true,and_assoc]
instance:DecidableEq Gapi_Spot:=fun a b=>decidable_of_iff _ (zi9 a b)
@[ext] structure Gapi_Cell where
 Span_From:Int
 Span_To:Int
 Columns:Int
def zeo (x:Gapi_Cell):List Value:=[.int .i64 x.Span_From,.int .i64 x.Span_To,.int .i64 x.Columns]
theorem zbp (x:Gapi_Cell):(zeo x).length=3:=rfl
theorem zge (x:Gapi_Cell):∀ u∈zeo x,u.oneCell'=true:=by
 intro u hu
 simp only [zeo,List.mem_cons,List.not_mem_nil,or_false] at hu
 rcases hu with rfl | rfl | rfl <;> rfl
def zi2 (a b:Gapi_Cell):Bool:=(a.Span_From==b.Span_From)&&(a.Span_To==b.Span_To)&&(a.Columns==b.Columns)
theorem zjb (a b:Gapi_Cell):zi2 a b=true↔a=b:=by
 rcases a with ⟨a0,a1,a2⟩
 rcases b with ⟨b0,b1,b2⟩
 simp [zi2,Bool.and_eq_true,and_assoc]
instance:DecidableEq Gapi_Cell:=fun a b=>decidable_of_iff _ (zjb a b)
@[ext] structure Gapi_Place where
 Byte:Int
 Rune:Int
 Unit:Int
 Line:Int
 Col:Int
def zd5 (x:Gapi_Place):List Value:=[.int .i64 x.Byte,.int .i64 x.Rune,.int .i64 x.Unit,.int .i64 x.Line,.int .i64 x.Col]
theorem zf3 (x:Gapi_Place):(zd5 x).length=5:=rfl
theorem zf2 (x:Gapi_Place):∀ u∈zd5 x,u.oneCell'=true:=by
 intro u hu
 simp only [zd5,List.mem_cons,List.not_mem_nil,or_false] at hu
 rcases hu with rfl | rfl | rfl | rfl | rfl <;> rfl
def zie (a b:Gapi_Place):Bool:=(a.Byte==b.Byte)&&(a.Rune==b.Rune)&&(a.Unit==b.Unit)&&(a.Line==b.Line)&&(a.Col==b.Col)
theorem ziH (a b:Gapi_Place):zie a b=true↔a=b:=by
 rcases a with ⟨a0,a1,a2,a3,a4⟩
 rcases b with ⟨b0,b1,b2,b3,b4⟩
 simp [zie,Bool.and_eq_true,and_assoc]
instance:DecidableEq Gapi_Place:=fun a b=>decidable_of_iff _ (ziH a b)
@[ext] structure Gplace_ended where
 span_From:Int
 span_To:Int
 end_:Int
 first:Int
def zdn (x:Gplace_ended):List Value:=[.int .i64 x.span_From,.int .i64 x.span_To,.int .i64 x.end_,.int .i64 x.first]
theorem zcC (x:Gplace_ended):(zdn x).length=4:=rfl
theorem zfu (x:Gplace_ended):∀ u∈zdn x,u.oneCell'=true:=by
 intro u hu
 simp only [zdn,List.mem_cons,List.not_mem_nil,or_false] at hu
 rcases hu with rfl | rfl | rfl | rfl <;> rfl
def zgU (a b:Gplace_ended):Bool:=(a.span_From==b.span_From)&&(a.span_To==b.span_To)&&(a.end_==b.end_)&&(a.first==b.first)
theorem zhC (a b:Gplace_ended):zgU a b=true↔a=b:=by
 rcases a with ⟨a0,a1,a2,a3⟩
 rcases b with ⟨b0,b1,b2,b3⟩
 simp [zgU,Bool.and_eq_true,and_assoc]
instance:DecidableEq Gplace_ended:=fun a b=>decidable_of_iff _ (zhC a b)
@[ext] structure Gpage_best where
 cost:Int
 rows:Int
 to_:Int
def zho (x:Gpage_best):List Value:=[.int .i64 x.cost,.int .i64 x.rows,.int .i64 x.to_]
theorem zaW (x:Gpage_best):(zho x).length=3:=rfl
def zic (a b:Gpage_best):Bool:=(a.cost==b.cost)&&(a.rows==b.rows)&&(a.to_==b.to_)
theorem ziF (a b:Gpage_best):zic a b=true↔a=b:=by
 rcases a with ⟨a0,a1,a2⟩
 rcases b with ⟨b0,b1,b2⟩
 simp [zic,Bool.and_eq_true,and_assoc]
instance:DecidableEq Gpage_best:=fun a b=>decidable_of_iff _ (ziF a b)
@[ext] structure Gref05_Piece where
 Span_From:Int
 Span_To:Int
 Kind:Int
 Joiner:Bool
 Columns:Int
def zd0 (x:Gref05_Piece):List Value:=[.int .i64 x.Span_From,.int .i64 x.Span_To,.int .i64 x.Kind,.bool x.Joiner,.int .i64 x.Columns]
theorem zaV (x:Gref05_Piece):(zd0 x).length=5:=rfl
theorem zhj (x:Gref05_Piece):∀ u∈zd0 x,u.oneCell'=true:=by
 intro u hu
 simp only [zd0,List.mem_cons,List.not_mem_nil,or_false] at hu
 rcases hu with rfl | rfl | rfl | rfl | rfl <;> rfl
def zgS (a b:Gref05_Piece):Bool:=(a.Span_From==b.Span_From)&&(a.Span_To==b.Span_To)&&(a.Kind==b.Kind)&&(a.Joiner==b.Joiner)&&(a.Columns==b.Columns)
theorem zhA (a b:Gref05_Piece):zgS a b=true↔a=b:=by
 rcases a with ⟨a0,a1,a2,a3,a4⟩
 rcases b with ⟨b0,b1,b2,b3,b4⟩
 simp [zgS,Bool.and_eq_true,and_assoc]
instance:DecidableEq Gref05_Piece:=fun a b=>decidable_of_iff _ (zhA a b)
@[ext] structure Gref02_Piece where
 At:Int
 Width:Int
 Rune:Int
def zd1 (x:Gref02_Piece):List Value:=[.int .i64 x.At,.int .i64 x.Width,.int .i32 x.Rune]
theorem zaZ (x:Gref02_Piece):(zd1 x).length=3:=rfl
theorem zhk (x:Gref02_Piece):∀ u∈zd1 x,u.oneCell'=true:=by
 intro u hu
 simp only [zd1,List.mem_cons,List.not_mem_nil,or_false] at hu
 rcases hu with rfl | rfl | rfl <;> rfl
def zgT (a b:Gref02_Piece):Bool:=(a.At==b.At)&&(a.Width==b.Width)&&(a.Rune==b.Rune)
theorem zhB (a b:Gref02_Piece):zgT a b=true↔a=b:=by
 rcases a with ⟨a0,a1,a2⟩
 rcases b with ⟨b0,b1,b2⟩
 simp [zgT,Bool.and_eq_true,and_assoc]
instance:DecidableEq Gref02_Piece:=fun a b=>decidable_of_iff _ (zhB a b)
@[ext] structure Gapi_Piece where
 At:Int
 Width:Int
 Rune:Int
 Broken:Bool
def zif (a b:Gapi_Piece):Bool:=(a.At==b.At)&&(a.Width==b.Width)&&(a.Rune==b.Rune)&&(a.Broken==b.Broken)
theorem ziI (a b:Gapi_Piece):zif a b=true↔a=b:=by
 rcases a with ⟨a0,a1,a2,a3⟩
 rcases b with ⟨b0,b1,b2,b3⟩
 simp [zif,Bool.and_eq_true,and_assoc]
instance:DecidableEq Gapi_Piece:=fun a b=>decidable_of_iff _ (ziI a b)
@[ext] structure T_12_int32 where
 e0:Int
 e1:Int
 e2:Int
 e3:Int
 e4:Int
 e5:Int
 e6:Int
 e7:Int
 e8:Int
 e9:Int
 e10:Int
 e11:Int
def zib (a b:T_12_int32):Bool:=(a.e0==b.e0)&&(a.e1==b.e1)&&(a.e2==b.e2)&&(a.e3==b.e3)&&(a.e4==b.e4)&&(a.e5==b.e5)&&(a.e6==b.e6)&&(a.e7==b.e7)&&(a.e8==b.e8)&&(a.e9==b.e9)&&(a.e10==b.e10)&&(a.e11==b.e11)
theorem ziE (a b:T_12_int32):zib a b=true↔a=b:=by
 rcases a with ⟨a0,a1,a2,a3,a4,a5,a6,a7,a8,a9,a10,a11⟩
 rcases b with ⟨b0,b1,b2,b3,b4,b5,b6,b7,b8,b9,b10,b11⟩
 simp [zib,Bool.and_eq_true,and_assoc]
instance:DecidableEq T_12_int32:=fun a b=>decidable_of_iff _ (ziE a b)
@[ext] structure T_16_utf8_acceptRange where
 e0_lo:Int
 e0_hi:Int
 e1_lo:Int
 e1_hi:Int
 e2_lo:Int
 e2_hi:Int
 e3_lo:Int
 e3_hi:Int
 e4_lo:Int
 e4_hi:Int
 e5_lo:Int
 e5_hi:Int
 e6_lo:Int
 e6_hi:Int
 e7_lo:Int
 e7_hi:Int
 e8_lo:Int
 e8_hi:Int
 e9_lo:Int
 e9_hi:Int
 e10_lo:Int
 e10_hi:Int
 e11_lo:Int
 e11_hi:Int
 e12_lo:Int
 e12_hi:Int
 e13_lo:Int
 e13_hi:Int
 e14_lo:Int
 e14_hi:Int
 e15_lo:Int
 e15_hi:Int
def zbs (z:(List Gapi_Row)×Hd):List Value:=[z.2.v]
def zbJ (z:(List Gapi_Row)×Hd):List Asn:=[vec zcT 38 6 z.2.v z.1]
theorem zf4 (z:(List Gapi_Row)×Hd):(zbs z).length=1:=rfl
theorem zii (z:(List Gapi_Row)×Hd):∀ u∈zbs z,u.oneCell'=true:=by
 intro u hu
 simp only [zbs,List.mem_cons,List.not_mem_nil,or_false] at hu
 rcases hu with rfl <;> rfl
def zbA (z:(List ByteArray)×Hd):List Value:=[z.2.v]
def zbz (z:(List ByteArray)×Hd):List Asn:=[vec zoV 9 1 z.2.v z.1]
theorem zdN (z:(List ByteArray)×Hd):(zbA z).length=1:=rfl
theorem ziK (z:(List ByteArray)×Hd):∀ u∈zbA z,u.oneCell'=true:=by
 intro u hu
 simp only [zbA,List.mem_cons,List.not_mem_nil,or_false] at hu
 rcases hu with rfl <;> rfl
structure Gpage_Book where
 layout_Width:Int
 layout_Height:Int
 layout_Turn:Int
 layout_Every:Int
 pages:List (List Gapi_Row)
 cost:Int
def zbc (z:Gpage_Book×Hd):List Value:=[.int .i64 z.1.layout_Width,.int .i64 z.1.layout_Height,.int .i64 z.1.layout_Turn,.int .i64 z.1.layout_Every,z.2.v,.int .i64 z.1.cost]
def zbb (z:Gpage_Book×Hd):List Asn:=[zhH zbs zbJ 30 1 z.2.v z.1.pages]
structure Gpoem_told where
 title:ByteArray
 lines:List Gapi_Verse
 stanzas:List Gapi_Span
structure Gpoem_Poem where
 told_title:ByteArray
 told_lines:List Gapi_Verse
 told_stanzas:List Gapi_Span
 source:ByteArray
def zcU (z:Gpoem_Poem×Hd×Hd):List Value:=[.string z.1.told_title,z.2.1.v,z.2.2.v,.string z.1.source]
def zcS (z:Gpoem_Poem×Hd×Hd):List Asn:=[vec zbr 57 6 z.2.1.v z.1.told_lines,vec zdv 55 2 z.2.2.v z.1.told_stanzas]
structure Gref17_Poem where
 Title:ByteArray
 Stanzas:List (List ByteArray)
structure Gpage_parter where
 rows:List Gapi_Row
 blanks:List Int
 firsts:List Int
 lasts:List Int
 heights:Int
structure Gplace_Map where
 text:ByteArray
 places:List Gapi_Place
 lines:List Gplace_ended
def zeg (z:Gplace_Map×Hd×Hd):List Value:=[.string z.1.text,z.2.1.v,z.2.2.v]
def zef (z:Gplace_Map×Hd×Hd):List Asn:=[vec zd5 130 5 z.2.1.v z.1.places,vec zdn 132 4 z.2.2.v z.1.lines]
structure Gpage_turner where
 s:ByteArray
 cells:List Gapi_Cell
 wide:List Int
 ends:List Int
 first:Int
 rest:Int
end Go.Proofs.YtbempdelckaccaaDoor

namespace Go.Proofs.YtbempdelckaccaaDoor
open Go.RowKit Go.Lib
theorem zhX:∀ (P:List Pc) (i:Nat) (l:List UInt8) (x:Pc) (B:List Pc),zdl i l=P++x::B →
  ∃ n,x.i=i+n∧n+x.w≤l.length∧DecOk (l.drop n) x.r x.w∧zdl (i+n) (l.drop n)=x::B∧B=zdl (x.i+x.w) (l.drop (n+x.w))
 | [],i,l,x,B,h=>by
  by_cases hl:l=[]
  ·subst hl; simp [zc0] at h
  ·have hok:=zrh l hl
   have h':=h
   rw [zcr i l hl] at h
   simp only [List.nil_append,List.cons.injEq] at h
   obtain ⟨rfl,hB⟩:=h
   exact ⟨0,by simp,by simpa using hok.le,by simpa using hok,by simpa using h',by simpa using hB.symm⟩
 | p::P,i,l,x,B,h=>by
  by_cases hl:l=[]
  ·subst hl; simp [zc0] at h
  ·have hle:=zk5 l hl
   rw [zcr i l hl] at h
   simp only [List.cons_append,List.cons.injEq] at h
   obtain ⟨n,h1,h2,h3,h4,h5⟩:=zhX P _ _ x B h.2
   refine ⟨(decodeL l).2+n,by omega,by simp at h2; omega,by rw [← List.drop_drop]; exact h3,by rw [← List.drop_drop,← Nat.add_assoc]; exact h4,?_⟩
   rw [h5,List.drop_drop,Nat.add_assoc]
theorem zhW (l:List UInt8) (P:List Pc) (x:Pc) (B:List Pc) (h:pcs l=P++x::B) :
  x.i+x.w≤l.length∧DecOk (l.drop x.i) x.r x.w∧zdl x.i (l.drop x.i)=x::B∧B=zdl (x.i+x.w) (l.drop (x.i+x.w)):=by
 obtain ⟨n,h1,h2,h3,h4,h5⟩:=zhX P 0 l x B h
 have:x.i=n:=by omega
 subst this
 exact ⟨h2,h3,by simpa using h4,h5⟩
theorem zfN (l:List UInt8) (x:Pc) (h:x∈pcs l):1≤x.w∧x.i+x.w≤l.length∧DecOk (l.drop x.i) x.r x.w:=by
 obtain ⟨P,B,hs⟩:=List.append_of_mem h
 obtain ⟨h1,h2,_⟩:=zhW l P x B hs
 exact ⟨h2.pos,h1,h2⟩
end Go.Proofs.YtbempdelckaccaaDoor

namespace Go.Proofs.YtbempdelckaccaaDoor
open Go.RowKit Go.Lib
structure Tok where
 r:Nat
 bs:List UInt8
 deriving DecidableEq
def Tok.broken (t:Tok):Bool:=t.r==65533&&t.bs.length==1
def Tok.valid (t:Tok):Prop:=(t.r<55296∨(57343<t.r∧t.r≤1114111))∧t.bs=encodeRune t.r
def zgG (ts:List Tok):List UInt8:=ts.flatMap Tok.bs
def zku:Nat→List UInt8→List Tok
 | 0,_=>[]
 | f+1,l=>if l=[] then [] else ⟨(decodeL l).1,l.take (decodeL l).2⟩::zku f (l.drop (decodeL l).2)
def zko (l:List UInt8):List Tok:=zku l.length l
theorem zgO (t:Tok) (ts:List Tok):zgG (t::ts)=t.bs++zgG ts:=by simp [zgG]
theorem zeG (a b:List Tok):zgG (a++b)=zgG a++zgG b:=by simp [zgG]
theorem zmj:∀ (f g:Nat) (l:List UInt8),l.length≤f→l.length≤g→zku f l=zku g l:=by
 intro f
 induction f with
 | zero =>
  intro g l h1 h2
  have:l=[]:=List.eq_nil_of_length_eq_zero (by omega)
  subst this
  cases g <;> simp [zku]
 | succ f ih =>
  intro g l h1 h2
  cases g with
  | zero =>
   have:l=[]:=List.eq_nil_of_length_eq_zero (by omega)
   subst this
   simp [zku]
  | succ g =>
   by_cases hl:l=[]
   ·simp [zku,hl]
   ·simp only [zku,hl,if_false]
    have:=zgt l
    have hlen:0<l.length:=List.length_pos_iff.2 hl
    rw [ih g _ (by simp; omega) (by simp; omega)]
theorem zhJ:zko []=[]:=by simp [zko,zku]
theorem zfH (l:List UInt8) (h:l≠[]):zko l=⟨(decodeL l).1,l.take (decodeL l).2⟩::zko (l.drop (decodeL l).2):=by
 have hlen:0<l.length:=List.length_pos_iff.2 h
 unfold zko
 obtain ⟨n,hn⟩:∃ n,l.length=n+1:=⟨l.length - 1,by omega⟩
 rw [hn]
 simp only [zku,h,if_false]
 have:=zgt l
 rw [zmj n (l.drop (decodeL l).2).length _ (by simp; omega) (Nat.le_refl _)]
theorem zfy {P:List UInt8→Prop} (h0:P []) (h1:∀ l,l≠[]→P (l.drop (decodeL l).2)→P l):∀ l,P l:=by
 have key:∀ (n:Nat) (l:List UInt8),l.length≤n→P l:=by
  intro n
  induction n with
  | zero=>intro l hl; rw [List.eq_nil_of_length_eq_zero (by omega:l.length=0)]; exact h0
  | succ n ih =>
   intro l hl
   by_cases hn:l=[]
   ·rw [hn]; exact h0
   ·have:=zgt l
    exact h1 l hn (ih _ (by simp; omega))
 exact fun l=>key l.length l (Nat.le_refl _)
theorem zpU (l:List UInt8):zgG (zko l)=l:=by
 induction l using zfy with
 | h0=>rw [zhJ]; rfl
 | h1 l hn ih=>rw [zfH l hn,zgO,ih]; exact List.take_append_drop _ _
theorem ztF (l:List UInt8) (h:l≠[]):(⟨(decodeL l).1,l.take (decodeL l).2⟩:Tok).valid∨(⟨(decodeL l).1,l.take (decodeL l).2⟩:Tok).broken=true:=by
 by_cases hb:(decodeL l).1=65533∧(decodeL l).2=1
 ·right
  have hlen:0<l.length:=List.length_pos_iff.2 h
  simp [Tok.broken,hb.1,hb.2]; omega
 ·left
  exact ⟨zm5 l,(encode_decode l h hb).symm⟩
theorem zsl (l:List UInt8):∀ t∈zko l,t.valid∨t.broken=true:=by
 induction l using zfy with
 | h0=>rw [zhJ]; simp
 | h1 l hn ih =>
  rw [zfH l hn]
  intro t ht
  rcases List.mem_cons.1 ht with rfl | ht
  ·exact ztF l hn
  ·exact ih t ht
theorem ztb {t:Tok} (h:t.valid∨t.broken=true):t.bs≠[]:=by
 rcases h with h | h
 ·rw [h.2]; intro e; have:=(zhn (t.r:Int)).1; rw [e] at this; simp at this
 ·intro e; unfold Tok.broken at h; rw [e] at h; simp at h
def zs9 (b:UInt8):Bool:=b.toNat / 64==2
def zrr:List UInt8→Prop
 | []=>True
 | b::_=>zs9 b=false
theorem zl0 {n b0 b1 b2 b3 c1 c2 c3 m:Nat} (h1:n≤1∨b1 / 64≠2) (h2:m≤1∨c1 / 64≠2):decodeN n b0 b1 b2 b3=decodeN m b0 c1 c2 c3:=by
 unfold decodeN
 have e1:¬ (1<n∧b1 / 64=2):=by omega
 have e2:¬ (1<m∧c1 / 64=2):=by omega
 simp only [e1,e2,and_false,false_and,if_false]
theorem zlZ {n b0 b1 b2 b3 c2 c3 m:Nat} (hn:1<n) (hm:1<m) (h1:n≤2∨b2 / 64≠2) (h2:m≤2∨c2 / 64≠2):decodeN n b0 b1 b2 b3=decodeN m b0 b1 c2 c3:=by
 unfold decodeN
 have e1:¬ (2<n∧b2 / 64=2):=by omega
 have e2:¬ (2<m∧c2 / 64=2):=by omega
 simp only [e1,e2,and_false,false_and,if_false,hn,hm,true_and]
theorem zlY {n b0 b1 b2 b3 c3 m:Nat} (hn:2<n) (hm:2<m) (h1:n≤3∨b3 / 64≠2) (h2:m≤3∨c3 / 64≠2):decodeN n b0 b1 b2 b3=decodeN m b0 b1 b2 c3:=by
 unfold decodeN
 have e1:¬ (3<n∧b3 / 64=2):=by omega
 have e2:¬ (3<m∧c3 / 64=2):=by omega
 have h1n:1<n:=by omega
 have h1m:1<m:=by omega
 simp only [e1,e2,and_false,if_false,hn,hm,h1n,h1m,true_and]
theorem zlX {n b0 b1 b2 b3 m:Nat} (hn:3<n) (hm:3<m):decodeN n b0 b1 b2 b3=decodeN m b0 b1 b2 b3:=by
 unfold decodeN
 have h1n:1<n:=by omega
 have h1m:1<m:=by omega
 have h2n:2<n:=by omega
 have h2m:2<m:=by omega
 simp only [hn,hm,h1n,h1m,h2n,h2m,true_and]
theorem zln {x:List UInt8} (h:zrr x) (n:Nat):n+x.length≤n∨(x.getD 0 0).toNat / 64≠2:=by
 cases x with
 | nil=>simp
 | cons b x=>right; simpa [zrr,zs9] using h
theorem zrg (l x:List UInt8) (hl:l≠[]) (hx:zrr x):decodeL (l++x)=decodeL l:=by
 rw [decodeL_N,decodeL_N]
 rcases l with _ | ⟨a,_ | ⟨b,_ | ⟨c,_ | ⟨d,l⟩⟩⟩⟩
 ·exact absurd rfl hl
 ·refine zl0 ?_ (.inl (by simp))
  rcases zln hx 1 with h | h
  ·left; simp only [List.length_append,List.length_cons,List.length_nil]; omega
  ·right; simpa using h
 ·refine zlZ (by simp) (by simp) ?_ (.inl (by simp))
  rcases zln hx 2 with h | h
  ·left; simp only [List.length_append,List.length_cons,List.length_nil]; omega
  ·right; simpa using h
 ·refine zlY (by simp) (by simp) ?_ (.inl (by simp))
  rcases zln hx 3 with h | h
  ·left; simp only [List.length_append,List.length_cons,List.length_nil]; omega
  ·right; simpa using h
 ·exact zlX (by simp) (by simp)
theorem zfI (l x:List UInt8) (hx:zrr x):zko (l++x)=zko l++zko x:=by
 induction l using zfy with
 | h0=>rw [zhJ]; rfl
 | h1 l hn ih =>
  have hle:=zk5 l hn
  have hne:l++x≠[]:=by simp [hn]
  rw [zfH _ hne,zfH l hn,zrg l x hn hx,List.drop_append_of_le_length hle,ih,List.take_append_of_le_length hle]
  rfl
theorem ziJ (r:Nat) (hv:r<55296∨(57343<r∧r≤1114111)) :
  (r≤127∧encodeRuneZ r=[(r:Int)])∨(128≤r∧r≤2047∧encodeRuneZ r=[192+(r:Int) / 64,128+(r:Int) % 64]) ∨
  (2048≤r∧r≤65535∧encodeRuneZ r=[224+(r:Int) / 4096,128+(r:Int) / 64 % 64,128+(r:Int) % 64]) ∨
  (65536≤r∧r≤1114111∧encodeRuneZ r=[240+(r:Int) / 262144,128+(r:Int) / 4096 % 64,128+(r:Int) / 64 % 64,128+(r:Int) % 64]):=by
 by_cases h1:r≤127
 ·exact .inl ⟨h1,encodeRuneZ_one (by omega) (by omega)⟩
 ·by_cases h2:r≤2047
  ·exact .inr (.inl ⟨by omega,h2,encodeRuneZ_two (by omega) (by omega)⟩)
  ·by_cases h3:r≤65535
   ·exact .inr (.inr (.inl ⟨by omega,h3,encodeRuneZ_three (by omega)⟩))
   ·exact .inr (.inr (.inr ⟨by omega,by omega,encodeRuneZ_four (by omega) (by omega)⟩))
theorem zec (z:Int) (_h0:0≤z) (h1:z<256):(z.toNat.toUInt8).toNat=z.toNat:=by
 simp; omega
theorem zl1 (r:Nat) (hv:r<55296∨(57343<r∧r≤1114111)) (x:List UInt8):decodeL (encodeRune r++x)=(r,(encodeRune r).length):=by
 rw [decodeL_N]
 rcases ziJ r hv with ⟨h,e⟩ | ⟨h,h',e⟩ | ⟨h,h',e⟩ | ⟨h,h',e⟩
 ·have hl:encodeRune r=[((r:Int).toNat.toUInt8)]:=by simp only [encodeRune,e,List.map_cons,List.map_nil]
  rw [hl]
  simp only [List.cons_append,List.nil_append,List.getD_cons_zero,List.length_cons]
  rw [zec _ (by omega) (by omega)]
  unfold decodeN
  simp only [Int.toNat_natCast]
  rw [if_pos (by omega)]
  simp
 ·have hl:encodeRune r=[((192+(r:Int) / 64).toNat.toUInt8),((128+(r:Int) % 64).toNat.toUInt8)]:=by simp only [encodeRune,e,List.map_cons,List.map_nil]
  rw [hl]
  simp only [List.cons_append,List.nil_append,List.getD_cons_zero,List.getD_cons_succ,List.length_cons]
  rw [zec _ (by omega) (by omega),zec _ (by omega) (by omega)]
  have a1:(192+(r:Int) / 64).toNat=192+r / 64:=by omega
  have a2:(128+(r:Int) % 64).toNat=128+r % 64:=by omega
  rw [a1,a2]
  unfold decodeN
  have c1:¬ 192+r / 64<128:=by omega
  have c2:(192+r / 64) / 32=6:=by omega
  have c3:(128+r % 64) / 64=2:=by omega
  have c4:(192+r / 64) % 32*64+(128+r % 64) % 64=r:=by omega
  have c5:128≤r:=by omega
  rw [if_neg c1,if_pos ⟨c2,by omega,c3⟩,c4,if_pos c5]
  rfl
 ·have hl:encodeRune r=[((224+(r:Int) / 4096).toNat.toUInt8),((128+(r:Int) / 64 % 64).toNat.toUInt8),((128+(r:Int) % 64).toNat.toUInt8)]:=by simp only [encodeRune,e,List.map_cons,List.map_nil]
  rw [hl]
  simp only [List.cons_append,List.nil_append,List.getD_cons_zero,List.getD_cons_succ,List.length_cons]
  rw [zec _ (by omega) (by omega),zec _ (by omega) (by omega),zec _ (by omega) (by omega)]
  have a1:(224+(r:Int) / 4096).toNat=224+r / 4096:=by omega
  have a2:(128+(r:Int) / 64 % 64).toNat=128+r / 64 % 64:=by omega
  have a3:(128+(r:Int) % 64).toNat=128+r % 64:=by omega
  rw [a1,a2,a3]
  unfold decodeN
  have c1:¬ 224+r / 4096<128:=by omega
  have c2:(224+r / 4096) / 32≠6:=by omega
  have c2':(224+r / 4096) / 16=14:=by omega
  have c3:(128+r / 64 % 64) / 64=2:=by omega
  have c3':(128+r % 64) / 64=2:=by omega
  have c4:(224+r / 4096) % 16*4096+(128+r / 64 % 64) % 64*64+(128+r % 64) % 64=r:=by omega
  have c5:2048≤r:=by omega
  rw [if_neg c1,if_neg (fun h=>c2 h.1),if_pos ⟨c2',⟨by omega,c3⟩,⟨by omega,c3'⟩⟩,c4,if_pos ⟨c5,by omega⟩]
  rfl
 ·have hl:encodeRune r=[((240+(r:Int) / 262144).toNat.toUInt8),((128+(r:Int) / 4096 % 64).toNat.toUInt8),((128+(r:Int) / 64 % 64).toNat.toUInt8),((128+(r:Int) % 64).toNat.toUInt8)]:=by simp only [encodeRune,e,List.map_cons,List.map_nil]
  rw [hl]
  simp only [List.cons_append,List.nil_append,List.getD_cons_zero,List.getD_cons_succ,List.length_cons]
  rw [zec _ (by omega) (by omega),zec _ (by omega) (by omega),zec _ (by omega) (by omega),zec _ (by omega) (by omega)]
  have a1:(240+(r:Int) / 262144).toNat=240+r / 262144:=by omega
  have a2:(128+(r:Int) / 4096 % 64).toNat=128+r / 4096 % 64:=by omega
  have a2':(128+(r:Int) / 64 % 64).toNat=128+r / 64 % 64:=by omega
  have a3:(128+(r:Int) % 64).toNat=128+r % 64:=by omega
  rw [a1,a2,a2',a3]
  unfold decodeN
  have c1:¬ 240+r / 262144<128:=by omega
  have c2:(240+r / 262144) / 32≠6:=by omega
  have c2':(240+r / 262144) / 16≠14:=by omega
  have c2'':(240+r / 262144) / 8=30:=by omega
  have c3:(128+r / 4096 % 64) / 64=2:=by omega
  have c3':(128+r / 64 % 64) / 64=2:=by omega
  have c3'':(128+r % 64) / 64=2:=by omega
  have c4:(240+r / 262144) % 8*262144+(128+r / 4096 % 64) % 64*4096+(128+r / 64 % 64) % 64*64+(128+r % 64) % 64=r:=by omega
  have c5:65536≤r:=by omega
  rw [if_neg c1,if_neg (fun h=>c2 h.1),if_neg (fun h=>c2' h.1),if_pos ⟨c2'',⟨by omega,c3⟩,⟨by omega,c3'⟩,⟨by omega,c3''⟩⟩,c4,if_pos ⟨c5,by omega⟩]
  rfl
theorem zqL (r:Nat) (hv:r<55296∨(57343<r∧r≤1114111)) (x:List UInt8):zrr (encodeRune r++x):=by
 rcases ziJ r hv with ⟨h,e⟩ | ⟨h,h',e⟩ | ⟨h,h',e⟩ | ⟨h,h',e⟩ <;>
 ·simp only [encodeRune,e,List.map_cons,List.map_nil,List.cons_append,zrr,zs9,beq_eq_false_iff_ne,ne_eq]
  rw [zec _ (by omega) (by omega)]
  omega
theorem zot {t:Tok} (h:t.valid) (x:List UInt8):zko (t.bs++x)=t::zko x:=by
 have hne:t.bs++x≠[]:=by simp [ztb (.inl h)]
 rw [zfH _ hne]
 rw [h.2,zl1 t.r h.1 x,← h.2]
 simp
theorem znm {vs:List Tok} (h:∀ t∈vs,t.valid) (x:List UInt8):zko (zgG vs++x)=vs++zko x:=by
 induction vs with
 | nil=>rfl
 | cons t vs ih =>
  rw [zgO,List.append_assoc,zot (h t (List.mem_cons_self ..)),ih (fun q hq=>h q (List.mem_cons_of_mem _ hq))]
  rfl
theorem zjA {vs:List Tok} (hne:vs≠[]) (h:∀ t∈vs,t.valid) (x:List UInt8):zrr (zgG vs++x):=by
 cases vs with
 | nil=>exact absurd rfl hne
 | cons t vs =>
  have:=h t (List.mem_cons_self ..)
  rw [zgO,List.append_assoc,this.2]
  exact zqL t.r this.1 _
def zoX (ts:List Tok):Prop:=zko (zgG ts)=ts
theorem zjR {t:Tok} {ts:List Tok} (h:zoX (t::ts)):zoX ts:=by
 unfold zoX at *
 by_cases hn:zgG (t::ts)=[]
 ·rw [hn,zhJ] at h; cases h
 ·rw [zfH _ hn] at h
  have h1:(⟨(decodeL (zgG (t::ts))).1,(zgG (t::ts)).take (decodeL (zgG (t::ts))).2⟩:Tok)=t:=by injection h
  have h2:zko ((zgG (t::ts)).drop (decodeL (zgG (t::ts))).2)=ts:=by injection h
  have h3:(zgG (t::ts)).take (decodeL (zgG (t::ts))).2=t.bs:=congrArg Tok.bs h1
  have h4:=List.take_append_drop (decodeL (zgG (t::ts))).2 (zgG (t::ts))
  rw [h3] at h4
  have h5:(zgG (t::ts)).drop (decodeL (zgG (t::ts))).2=zgG ts:=by
   rw [zgO] at h4 ⊢
   exact List.append_cancel_left h4
  rw [← h5]; exact h2
theorem zjS {a ts:List Tok} (h:zoX (a++ts)):zoX ts:=by
 induction a with
 | nil=>exact h
 | cons t a ih=>exact ih (zjR h)
inductive Sub:List Tok→List Tok→Prop
 | nil:Sub [] []
 | brk {b:Tok} {ts us:List Tok}:b.broken=true→Sub ts us→Sub (b::ts) (b::us)
 | val {gs vs ts us:List Tok}:gs≠[]→vs≠[]→(∀ t∈gs,t.valid)→(∀ t∈vs,t.valid)→Sub ts us→Sub (gs++ts) (vs++us)
theorem Sub.one {t:Tok} {vs ts us:List Tok} (ht:t.valid) (hn:vs≠[]) (hv:∀ t∈vs,t.valid) (h:Sub ts us):Sub (t::ts) (vs++us) :=
 Sub.val (gs:=[t]) (by simp) hn (by simpa using ht) hv h
theorem Sub.head {ts us:List Tok} (h:Sub ts us):∃ B ts' us',(∀ b∈B,b.broken=true)∧ts=B++ts'∧us=B++us'∧zrr (zgG ts')∧zrr (zgG us'):=by
 induction h with
 | nil=>exact ⟨[],[],[],by simp,rfl,rfl,trivial,trivial⟩
 | brk hb _ ih =>
  obtain ⟨B,ts',us',h1,rfl,rfl,h4,h5⟩:=ih
  exact ⟨_::B,ts',us',by simpa [hb] using h1,rfl,rfl,h4,h5⟩
 | @val gs vs ts us h1 h2 h3 h4 _ ih =>
  exact ⟨[],gs++ts,vs++us,by simp,rfl,rfl,by rw [zeG]; exact zjA h1 h3 _,by rw [zeG]; exact zjA h2 h4 _⟩
theorem Sub.good {ts us:List Tok} (h:Sub ts us) (hg:zoX ts):zoX us:=by
 induction h with
 | nil=>exact hg
 | @brk b ts us hb hs ih =>
  have ih':=ih (zjR hg)
  obtain ⟨B,ts',us',h1,rfl,rfl,h4,h5⟩:=hs.head
  unfold zoX at *
  have hne:b.bs≠[]:=ztb (.inr hb)
  have e1:zgG (b::(B++ts'))=zgG (b::B)++zgG ts':=by rw [← List.cons_append,zeG]
  have e2:zgG (b::(B++us'))=zgG (b::B)++zgG us':=by rw [← List.cons_append,zeG]
  rw [e1,zfI _ _ h4] at hg
  rw [e2,zfI _ _ h5]
  have g1:zko (zgG ts')=ts':=by
   have:=zjS (a:=B) (ts:=ts') (by
    have hh:zoX (b::(B++ts')):=by unfold zoX; rw [e1,zfI _ _ h4]; exact hg
    exact zjR hh)
   exact this
  rw [zeG,zfI _ _ h5] at ih'
  have g2:zko (zgG us')=us':=zjS (a:=B) (by unfold zoX; rw [zeG,zfI _ _ h5]; exact ih')
  rw [g1,← List.cons_append] at hg
  rw [g2,← List.cons_append]
  rw [List.append_cancel_right hg]
 | @val gs vs ts us h1 h2 h3 h4 _ ih =>
  unfold zoX
  rw [zeG,znm h4,show zko (zgG us)=us from ih (zjS hg)]
def place:Nat→List Tok→List Pc
 | _,[]=>[]
 | i,t::ts=>⟨i,t.bs.length,t.r⟩::place (i+t.bs.length) ts
theorem zpC (l:List UInt8):∀ i,zdl i l=place i (zko l):=by
 induction l using zfy with
 | h0=>intro i; rw [zhJ,zc0]; rfl
 | h1 l hn ih =>
  intro i
  have hle:=zk5 l hn
  have e:(l.take (decodeL l).2).length=(decodeL l).2:=by simp; omega
  rw [zcr i l hn,zfH l hn,place,ih,e]
end Go.Proofs.YtbempdelckaccaaDoor

namespace Go.Proofs.YtbempdelckaccaaDoor
open Go.RowKit Go.Lib
set_option linter.unusedVariables false
set_option linter.unusedSimpArgs false
section
variable {R S:Type} {c:Prop} [Decidable c] {o x z:Option R} {p:Option S} {f:S→Option R} {b:Bool} {y:Option R}
theorem zbm (h:c) (ho:o=x):grd c o=x:=(zsR h).trans ho
theorem zaM {a:S} (h:p=some a) (hf:f a=x):zal p f=x:=(zrl h).trans hf
theorem zaz (hb:b=true) (h:x=z):zaw b x y=z:=(ztc hb).trans h
theorem zay (hb:b=false) (h:y=z):zaw b x y=z:=(ztd hb).trans h
theorem zbE {T:Type} {t:T→Option R} {k:T} (h:t k=x):zbl t k=x:=h
theorem zcv {T:Type} {bot:T} {step:T→T} {n:Nat}:zaF bot step (n+1)=step (zaF bot step n):=rfl
theorem zny (k:Nat) (h:k≤1000):∃ n,zbW=n+k∧18446744073709550000≤n:=⟨18446744073709551616 - k,by unfold zbW; omega,by omega⟩
end
def vr (r:Int):Prop:=(0≤r∧r<55296)∨(57343<r∧r≤1114111)
instance (r:Int):Decidable (vr r):=by unfold vr; infer_instance
def wd (r:Int):Int:=if vr r then (if r<128 then 1 else if r<2048 then 2 else if r<65536 then 3 else 4) else 0
end Go.Proofs.YtbempdelckaccaaDoor

namespace Go.Proofs.YtbempdelckaccaaDoor
open Go.RowKit Go.Lib
set_option linter.unusedVariables false
set_option linter.unusedSimpArgs false
section
variable {R X A B:Type} {xs:List X}
theorem zch {k:Nat} {x:X} (h:xs[k]?=some x):zbF xs (k:Int)=some x:=zfw h
theorem znw {k:Nat} {x:X} (h:xs[k]?=some x):decide ((k:Int)<(xs.length:Int))=true:=decide_eq_true (by have:=(List.getElem?_eq_some_iff.1 h).1; omega)
theorem zvg:decide ((xs.length:Int)<(xs.length:Int))=false:=decide_eq_false (by omega)
end
theorem zb5 {n:Nat} (h:n≤4611686018427387904):n<zbW:=by unfold zbW; omega
end Go.Proofs.YtbempdelckaccaaDoor

namespace Go.Proofs.YtbempdelckaccaaDoor
open Go.RowKit Go.Lib
set_option linter.unusedVariables false
set_option linter.unusedSimpArgs false
def byI (l:List UInt8) (i:Nat):Int:=((l.getD i 0).toNat:Int)
theorem zsS {s:ByteArray} {a i:Nat} (h:a+i<s.size):ziA s ((a:Int)+(i:Int))=some (byI (s.data.toList.drop a) i):=by
 rw [zlL (n:=a+i) (by omega) h]
 have e:(s.data.toList.drop a).getD i 0=s[a+i]:=by
  rw [List.getD_eq_getElem?_getD,List.getElem?_drop,List.getElem?_eq_getElem (by simpa using h)]
  simp; rfl
 unfold byI; rw [e]
def zwa (l:List UInt8):Nat→Int
 | 1=>byI l 0
 | 2=>(byI l 0 - 192)*64+byI l 1 - 128
 | 3=>((byI l 0 - 224)*64+byI l 1 - 128)*64+byI l 2 - 128
 | 4=>(((byI l 0 - 240)*64+byI l 1 - 128)*64+byI l 2 - 128)*64+byI l 3 - 128
 | _=>0
def acc (s:ByteArray) (a n:Nat):Prop:=vr (zwa (s.data.toList.drop a) n)∧wd (zwa (s.data.toList.drop a) n)=n∧Utf8.encode (zwa (s.data.toList.drop a) n)=zbT s a ((a:Int)+n)
theorem zgf (s:ByteArray) (a n:Nat):(zbT s a ((a:Int)+n)).data.toList=(s.data.toList.drop a).take n:=by
 unfold zbT
 rw [extract_data]
 simp only [Int.toNat_natCast,show ((a:Int)+(n:Int)).toNat=a+n by omega]
 rw [show a+n - a=n by omega]
def pcG (p:Pc):Gapi_Piece:=⟨p.i,p.w,p.r,p.broken⟩
end Go.Proofs.YtbempdelckaccaaDoor

namespace Go.Proofs.YtbempdelckaccaaDoor
open Go.RowKit Go.Lib
set_option linter.unusedVariables false
set_option linter.unusedSimpArgs false
def Rd (w:World) (K:Nat→Prop) (RD:List Asn):Prop:=∀ A∈RD,∃ C,A.P C w∧∀ k,C k→¬ K k
theorem Rd.nil {w:World} {K:Nat→Prop}:Rd w K []:=fun A h=>by cases h
theorem Rd.ext {w0 w:World} {K C:Nat→Prop} {RD:List Asn} (h:Rd w0 K RD) (hx:Ext K C w0 w):Rd w C RD:=fun A hA=>by
 obtain ⟨D,h1,h2⟩:=h A hA
 have hlt:=A.lt h1
 refine ⟨D,A.loc h1 hx.1.size (fun k hk=>hx.1.keep k (hlt k hk) (h2 k hk)),fun k hk hc => ?_⟩
 rcases hx.2 k hc with h | h
 ·exact h2 k hk h
 ·have:=hlt k hk; omega
theorem Rd.append {w:World} {K:Nat→Prop} {A B:List Asn} (h1:Rd w K A) (h2:Rd w K B):Rd w K (A++B):=fun X hX=>by
 rcases List.mem_append.1 hX with h | h
 ·exact h1 X h
 ·exact h2 X h
theorem Rd.at {w0 w:World} {K:Nat→Prop} {L RD:List Asn} {A:Asn} {i:Nat} (h:Rd w0 K RD) (hw:Holds w0 K L w) (hi:RD[i]?=some A):∃ C,A.P C w:=by
 obtain ⟨C,_,hx⟩:=hw
 obtain ⟨D,h1,_⟩:=h.ext hx A (List.mem_of_getElem? hi)
 exact ⟨D,h1⟩
theorem zmp {w:World}:∀ {L:List Asn} {C:Nat→Prop},sepL L C w→∀ B∈L,∃ D,B.P D w∧∀ k,D k→C k
 | [],_,_,B,hB=>by cases hB
 | A::L,C,⟨C1,C2,h1,h2,h3,h4⟩,B,hB=>by
  rcases List.mem_cons.1 hB with rfl | hB
  ·exact ⟨C1,h1,fun k hk=>(h4 k).2 (.inl hk)⟩
  ·obtain ⟨D,g1,g2⟩:=zmp h2 B hB
   exact ⟨D,g1,fun k hk=>(h4 k).2 (.inr (g2 k hk))⟩
inductive RdS (R RD0:List Asn):List Asn→Prop
 | nil:RdS R RD0 []
 | own {A:Asn} {As R' RD:List Asn} (hs:Splits R As R') (hE:∀ C w,sepL As C w→A.P C w) (h:RdS R RD0 RD):RdS R RD0 (A::RD)
 | ro {A:Asn} {RD:List Asn} (i:Nat) (hi:RD0[i]?=some A) (h:RdS R RD0 RD):RdS R RD0 (A::RD)
theorem RdS.rd {w0 w:World} {K C1 C2:Nat→Prop} {R RD0 RD:List Asn} (h:RdS R RD0 RD) (hR:sepL R C2 w) (hd:∀ k,C1 k→¬ C2 k) (h0:Rd w C1 RD0):Rd w C1 RD:=by
 induction h with
 | nil=>exact Rd.nil
 | @own A As R' RD hs hE h ih =>
  intro B hB
  rcases List.mem_cons.1 hB with rfl | hB
  ·obtain ⟨D1,D2,g1,g2,g3,g4⟩:=hs C2 w hR
   exact ⟨D1,hE D1 w g1,fun k hk hc=>hd k hc ((g4 k).2 (.inl hk))⟩
  ·exact ih B hB
 | @ro A RD i hi h ih =>
  intro B hB
  rcases List.mem_cons.1 hB with rfl | hB
  ·exact h0 _ (List.mem_of_getElem? hi)
  ·exact ih B hB
def FnR (P:Program) (f:FuncId) (vs:List Value) (RD As:List Asn) {β:Type} (V:β→Value) (Bs:β→List Asn):Prop :=
 ∀ w C,Rd w C RD→FnW P f vs As V Bs w C
section
variable {F:Fence} {P:Program} {w0:World} {K:Nat→Prop} {N:Nat} {dfs:List Deferred} {ops:Array Oper} {Q:Exit→Act→World→Prop} {rest:List Oper} {σ σ':List (Nat×Value)} {L L' R As Bs:List Asn} {o:Oper} {v:Value}
 {d:Nat} {t:TypeId} {op:Op} {ty:TypeId} {pos:String} {aft:Array Edge} {g:Option (Nat×Bool)} {x y z:Operand} {c c1 c2:Code} {k:Nat} {A B:Asn} {RO:List (Nat×Obj)} {RD RD0:List Asn} {e:TypeId} {ex:Exit}
theorem FnR.intro {f:FuncId} {fn:Func} {vs:List Value} {β:Type} {V:β→Value} {Bs:β→List Asn} (hf:P.funcs[f]?=some fn) (hb:fn.body=some c) (hn:fn.ntmps=N) (hN:vs.length≤N)
  (h:∀ w0 K,Rd w0 K RD→TC Fence.wide P w0 K N [] (bodyPostM Fence.wide 0 P fn (FR P V Bs w0 K)) c (zgx vs) As):FnR P f vs RD As V Bs :=
 fun w C hR=>FnW.intro hf hb hn hN (h w C hR)
theorem zki [WideF F] {xs:List Operand} {ats:Array TypeId} {f:FuncId} {first cap:Array Value} {vs vs':List Value} {β:Type} {V:β→Value} {Bs:β→List Asn} {dst:Option Nat} (hRd:Rd w0 K RD0)
  (hg:gd ops σ g=some true) (hx:ev σ x=some (.func (.func f) first cap)) (hxs:evL σ xs=some vs) (hv:first.toList++vs++cap.toList=vs')
  (hent:∀ args w,(callFunc f args).run P w=.ok (.enter f args) w) (hF:FnR P f vs' RD As V Bs) (hs:Splits L As R) (hS:RdS R RD0 RD)
  (h:∀ b a w a',a'=a.put dst (V b)→At N dfs σ a→Holds w0 K (R++Bs b) w→wpListIn F 0 P ops Q rest a' w) :
  TO F P w0 K N dfs ops Q (⟨dst,.call { callee:=.value x,args:=xs.toArray,argTypes:=ats },ty,pos,aft,g⟩::rest) σ L:=by
 intro a w ha hw
 simp only [wpListIn,zgd (o:=⟨dst,.call { callee:=.value x,args:=xs.toArray,argTypes:=ats },ty,pos,aft,g⟩) ha hg,if_true]
 refine ⟨fun f _=>WideF.fn f,?_⟩
 have h1:(execOp a.eval ⟨dst,.call { callee:=.value x,args:=xs.toArray,argTypes:=ats },ty,pos,aft,g⟩).run P w=.ok (.enter f vs'.toArray) w:=by
  have e:first++vs.toArray++cap=vs'.toArray:=by rw [← hv]; simp
  simp only [execOp,resolve,List.map_toArray,ha.evL hxs,ha.ev hx,Deferred.ofValue,Sem.run_bind,Sem.run_pure,Result.andThen_ok,invoke,e,hent]
 rw [Oper.semAt_plain F _ _ (by simp),h1]
 refine ⟨(fun h=>by rw [WideF.depth (F:=F)] at h; cases h),?_⟩
 obtain ⟨C1,C2,hA,g2,g3,hx0,hstep⟩:=hw.split2 hs
 have hRd1:Rd w C1 RD0:=hRd.ext hx0
 refine WideF.calls ((hF w C1 (hS.rd (w0:=w0) (K:=K) g2 g3 hRd1) hA).mono ?_)
 rintro e w' ⟨b,rfl,C',hB,hx'⟩
 exact h b a w' _ rfl ha (hstep _ _ _ hx' hB)
theorem zhc [WideF F] {xs:List Operand} {ats:Array TypeId} {f:FuncId} {first cap:Array Value} {vs vs':List Value} {β:Type} {V:β→Value} {Bs:β→List Asn} (hRd:Rd w0 K RD0)
  (hg:gd ops σ g=some true) (hd:d<N) (hx:ev σ x=some (.func (.func f) first cap)) (hxs:evL σ xs=some vs) (hv:first.toList++vs++cap.toList=vs')
  (hent:∀ args w,(callFunc f args).run P w=.ok (.enter f args) w) (hF:FnR P f vs' RD As V Bs) (hs:Splits L As R) (hS:RdS R RD0 RD)
  (h:∀ b,TO F P w0 K N dfs ops Q rest ((d,V b)::σ) (R++Bs b)) :
  TO F P w0 K N dfs ops Q (⟨some d,.call { callee:=.value x,args:=xs.toArray,argTypes:=ats },ty,pos,aft,g⟩::rest) σ L :=
 zki hRd hg hx hxs hv hent hF hs hS fun b a w a' ha' ha hw=>by subst ha'; exact h b _ _ (ha.put hd _) hw
theorem zco [WideF F] {xs:List Operand} {ats:Array TypeId} {f:FuncId} {first cap:Array Value} {vs vs':List Value} (hRd:Rd w0 K RD0)
  (hg:gd ops σ g=some true) (hd:d<N) (hx:ev σ x=some (.func (.func f) first cap)) (hxs:evL σ xs=some vs) (hv:first.toList++vs++cap.toList=vs')
  (hent:∀ args w,(callFunc f args).run P w=.ok (.enter f args) w) (hF:FnR P f vs' RD [] (fun _:Unit=>v) (fun _=>[])) (hS:RdS L RD0 RD)
  (h:TO F P w0 K N dfs ops Q rest ((d,v)::σ) L) :
  TO F P w0 K N dfs ops Q (⟨some d,.call { callee:=.value x,args:=xs.toArray,argTypes:=ats },ty,pos,aft,g⟩::rest) σ L :=
 zki hRd hg hx hxs hv hent hF Splits.nil hS fun b a w a' ha' ha hw=>by
  subst ha'
  rw [List.append_nil] at hw
  exact h _ _ (ha.put hd _) hw
section
variable {i:Nat}
theorem zbx [WideF F] {b j:Nat} {l:List Value} {e:TypeId} (hr:Rd w0 K RD) (hi:RD[i]?=some (cells b l e)) (hT:zcf P t) (hg:gd ops σ g=some true) (hd:d<N) (hx:ev σ x=some (.pointer (some ⟨b,j,none⟩))) (hj:l[j]?=some v)
  (h:TO F P w0 K N dfs ops Q rest ((d,v)::σ) L):TO F P w0 K N dfs ops Q (⟨some d,.load t x,ty,pos,aft,g⟩::rest) σ L:=by
 obtain ⟨dd,hu,hrow⟩:=hT
 exact zdk hg hd (by simp) (fun a w ha hw=>by
  obtain ⟨C,hC⟩:=hr.at hw hi
  have hc:w.cell? ⟨b,j,none⟩=some v:=zl5 hC.2 (by simpa using hj)
  cases dd <;> simp_all [execOp,ha.ev hx,Instr.loadAt,Instr.sureAddr,loadVar,isAgg,Sem.run_bind,run_underlying hu]) h
variable {α:Type} {enc:α→List Value} {size:Nat} {vv:Value} {xs:List α}
theorem zlj {w:World} {C:Nat→Prop} (h:(vec enc e size vv xs).P C w):Vw vv xs size 0 vv xs:=by
 have hw:Holds w (fun _=>False) [vec enc e size vv xs] w→Vw vv xs size 0 vv xs:=fun hh=>zju (k:=0) hh rfl
 have:Holds w C [vec enc e size vv xs] w:=⟨C,sepL.one h,Ext.refl _ _⟩
 exact zju (k:=0) this rfl
theorem Rd.vw {w:World} (hr:Rd w K RD) (hi:RD[i]?=some (vec enc e size vv xs)):Vw vv xs size 0 vv xs:=by
 obtain ⟨C,hC,_⟩:=hr _ (List.mem_of_getElem? hi)
 exact zlj hC
theorem zcu [WideF F] {n j off:Nat} {q:α} (hr:Rd w0 K RD) (hi:RD[i]?=some (vec enc e size vv xs)) (hT:zcf P t) (hz:∀ x,(enc x).length=size) (hg:gd ops σ g=some true) (hd:d<N) (hx:ev σ x=some (.pointer (some ⟨zb7 vv,off,none⟩)))
  (hq:xs[n]?=some q) (ho:off=n*size+j) (hj:j<size) (hv:(enc q)[j]?=some v) (h:TO F P w0 K N dfs ops Q rest ((d,v)::σ) L) :
  TO F P w0 K N dfs ops Q (⟨some d,.load t x,ty,pos,aft,g⟩::rest) σ L:=by
 subst ho
 obtain ⟨dd,hu,hr'⟩:=hT
 refine zdk hg hd (by simp) (fun a w ha hw => ?_) h
 obtain ⟨C,hC⟩:=hr.at hw hi
 have hV:Vec enc e size vv xs C w:=hC
 have hc:=hV.cellAt hz hq hj hv
 have h1:=ha.ev hx
 cases dd <;> simp_all [execOp,Instr.loadAt,Instr.sureAddr,loadVar,isAgg,Sem.run_bind,run_underlying hu]
theorem zeq [WideF F] {m j off n:Nat} {q:α} {cs:List Value} (hr:Rd w0 K RD) (hi:RD[i]?=some (vec enc e size vv xs)) (hT:zgZ P t n) (hz:∀ x,(enc x).length=size) (hg:gd ops σ g=some true) (hd:d<N) (hx:ev σ x=some (.pointer (some ⟨zb7 vv,off,none⟩)))
  (hq:xs[m]?=some q) (ho:off=m*size+j) (hcs:((enc q).drop j).take n=cs) (hn:cs.length=n)
  (h:TO F P w0 K N dfs ops Q rest ((d,.agg cs.toArray)::σ) L):TO F P w0 K N dfs ops Q (⟨some d,.load t x,ty,pos,aft,g⟩::rest) σ L:=by
 subst ho; subst hn
 obtain ⟨dd,hu,hr',hi'⟩:=hT
 refine zdk hg hd (by simp) (fun a w ha hw => ?_) h
 obtain ⟨C,hC⟩:=hr.at hw hi
 have hV:Vec enc e size vv xs C w:=hC
 have hc:w.rangeAt (zb7 vv) (m*size+j) cs:=fun n u hn=>by
  rw [← hcs] at hn
  rw [List.getElem?_take] at hn
  split at hn
  ·rw [List.getElem?_drop] at hn
   have hl:j+n<size:=by rw [← hz q]; exact (List.getElem?_eq_some_iff.1 hn).1
   have:=hV.cellAt hz hq hl hn
   rwa [← Nat.add_assoc] at this
  ·cases hn
 simp only [execOp,ha.ev hx,Sem.run_bind,run_loadAt_mid w _ _ t cs dd hc hu hr' hi']; rfl
end
end
section
variable {α η:Type} {enc:α×η→List Value} {nest:α×η→List Asn} {t:TypeId} {p:Value} {x:α}
def zi7 (enc:α×η→List Value) (nest:α×η→List Asn) (t:TypeId) (p:Value):Option α→Asn
 | none=>zud (p=.pointer none)
 | some x=>exA fun bh:Nat×η=>zkp (zud (p=.pointer (some ⟨bh.1,0,none⟩))::cells bh.1 (enc (x,bh.2)) t::nest (x,bh.2))
theorem fact_sep {q:Prop} {L:List Asn} {C:Nat→Prop} {w:World}:sepL (zud q::L) C w↔q∧sepL L C w:=by
 constructor
 ·rintro ⟨C1,C2,⟨h1,hq⟩,h2,h3,h4⟩
  have:C=C2:=funext fun k=>propext ⟨fun h=>((h4 k).1 h).resolve_left (h1 k),fun h=>(h4 k).2 (.inr h)⟩
  subst this
  exact ⟨hq,h2⟩
 ·rintro ⟨hq,h⟩
  exact ⟨fun _=>False,C,⟨fun _ h=>h,hq⟩,h,fun _ h=>h.elim,fun k=>by simp⟩
theorem pobj_some {C:Nat→Prop} {w:World}:(zi7 enc nest t p (some x)).P C w↔∃ b h,p=.pointer (some ⟨b,0,none⟩)∧sepL (cells b (enc (x,h)) t::nest (x,h)) C w:=by
 constructor
 ·rintro ⟨⟨b,h⟩,hh⟩
  obtain ⟨h1,h2⟩:=fact_sep.1 hh
  exact ⟨b,h,h1,h2⟩
 ·rintro ⟨b,h,h1,h2⟩
  exact ⟨⟨b,h⟩,fact_sep.2 ⟨h1,h2⟩⟩
theorem zsH {b:Nat} {hd:η} {w:World} {C:Nat→Prop} (h:sepL (cells b (enc (x,hd)) t::nest (x,hd)) C w):(zi7 enc nest t (.pointer (some ⟨b,0,none⟩)) (some x)).P C w:=pobj_some.2 ⟨b,hd,rfl,h⟩
theorem ziQ {b:Nat} {hd:η}:Entl (cells b (enc (x,hd)) t::nest (x,hd)) (fun _:Unit=>[zi7 enc nest t (.pointer (some ⟨b,0,none⟩)) (some x)]) (fun _=>True):=fun C w h=>⟨(),trivial,sepL.one1.2 (zsH h)⟩
theorem zkW {m:Option α} {C:Nat→Prop} {w:World} (h:(zi7 enc nest t p m).P C w):(m=none∧p=.pointer none)∨(∃ x b,m=some x∧p=.pointer (some ⟨b,0,none⟩)):=by
 cases m with
 | none=>exact .inl ⟨rfl,h.2⟩
 | some x=>obtain ⟨b,_,h2,_⟩:=pobj_some.1 h; exact .inr ⟨x,b,rfl,h2⟩
end
end Go.Proofs.YtbempdelckaccaaDoor

namespace Go.Proofs.YtbempdelckaccaaDoor
open Go.RowKit Go.Lib
set_option linter.unusedVariables false
set_option linter.unusedSimpArgs false
def zfv (s:ByteArray) (k:Nat):Nat:=match (pcs s.data.toList)[k]? with
 | some p=>p.i
 | none=>s.size
theorem zoF {s:ByteArray} {k:Nat} {p:Pc} (h:(pcs s.data.toList)[k]?=some p):zfv s k=p.i:=by simp [zfv,h]
theorem zoE (s:ByteArray):zfv s 0=0:=by
 unfold zfv
 by_cases h:s.data.toList=[]
 ·have:s.size=0:=by have:=congrArg List.length h; simpa using this
  simp [h,pcs,zc0,this]
 ·simp [pcs,zcr 0 _ h]
theorem zoG {s:ByteArray} {k:Nat} {p:Pc} (h:(pcs s.data.toList)[k]?=some p):zfv s (k+1)=p.i+p.w∧zdl p.i (s.data.toList.drop p.i)=p::(pcs s.data.toList).drop (k+1):=by
 have hk:k<(pcs s.data.toList).length:=(List.getElem?_eq_some_iff.1 h).1
 have he:pcs s.data.toList=(pcs s.data.toList).take k++p::(pcs s.data.toList).drop (k+1):=by
  have h1:=List.drop_eq_getElem_cons hk
  have h2:(pcs s.data.toList)[k]=p:=(List.getElem?_eq_some_iff.1 h).2
  rw [h2] at h1
  rw [← h1,List.take_append_drop]
 obtain ⟨q1,q2,q3,q4⟩:=zhW s.data.toList _ p _ he
 have hlen:s.data.toList.length=s.size:=by rw [Array.length_toList]; rfl
 refine ⟨?_,q3⟩
 unfold zfv
 have hget:(pcs s.data.toList)[k+1]?=((pcs s.data.toList).drop (k+1))[0]?:=by simp
 rw [hget,q4]
 by_cases hd':s.data.toList.drop (p.i+p.w)=[]
 ·rw [hd',zc0]
  have h5:=congrArg List.length hd'
  simp only [List.length_drop,List.length_nil,hlen] at h5
  obtain ⟨_,h6,_⟩:=zfN s.data.toList p (List.mem_of_getElem? h)
  simp; omega
 ·rw [zcr _ _ hd']; simp
section
variable {F:Fence} {P:Program} {w0:World} {K:Nat→Prop} {N:Nat} {dfs:List Deferred} {ops:Array Oper} {Q:Exit→Act→World→Prop} {rest:List Oper} {σ:List (Nat×Value)} {L:List Asn}
 {d:Nat} {t:TypeId} {ty:TypeId} {pos:String} {aft:Array Edge} {g:Option (Nat×Bool)} {x:Operand} {k:Nat} {s:ByteArray}
theorem zfd [WideF F] (ht:P.underlying t=some .string) (hg:gd ops σ g=some true) (hd:d<N) (hx:ev σ x=some (.string s))
  (h:∀ b,TO F P w0 K N dfs ops Q rest ((d,.pointer (some ⟨b,0,none⟩))::σ) (L++[obj b (.stringIter s (zfv s 0))])):TO F P w0 K N dfs ops Q (⟨some d,.range t x,ty,pos,aft,g⟩::rest) σ L :=
 zgz hg (by simp) fun a w ha hw=>⟨.pointer (some ⟨w.heap.size,0,none⟩),w.alloc (.stringIter s 0),by simp [execOp,ha.ev hx,Instr.range,run_underlying ht,Sem.run_bind],h _ _ _ (ha.put hd _) (by rw [zoE]; exact hw.alloc _)⟩
theorem zfE [WideF F] {it m:Nat} {p:Pc} (hg:gd ops σ g=some true) (hd:d<N) (hx:ev σ x=some (.pointer (some ⟨it,0,none⟩))) (hk:L[k]?=some (obj it (.stringIter s (zfv s m)))) (hp:(pcs s.data.toList)[m]?=some p)
  (h:TO F P w0 K N dfs ops Q rest ((d,.tuple #[.bool true,.int .i64 p.i,.int .i32 p.r])::σ) (L.set k (obj it (.stringIter s (zfv s (m+1)))))):TO F P w0 K N dfs ops Q (⟨some d,.next x true,ty,pos,aft,g⟩::rest) σ L:=by
 refine zgz hg (by simp) fun a w ha hw => ?_
 have hit:=hw.obj hk
 rw [zoF hp] at hit
 obtain ⟨h1,h2⟩:=zoG hp
 have hmem:=List.mem_of_getElem? hp
 obtain ⟨g1,g2,_⟩:=zfN s.data.toList p hmem
 have hlen:s.data.toList.length=s.size:=by rw [Array.length_toList]; rfl
 obtain ⟨r,wd,W1,e1,e2,e3,e4,e5,e6,e7,e8⟩:=zmI P w it s p.i hit (by omega)
 rw [h2] at e6
 have hpe:p=⟨p.i,wd,r⟩:=(List.cons.inj e6).1
 have hw':p.w=wd:=congrArg Pc.w hpe
 have hr:p.r=r:=congrArg Pc.r hpe
 obtain ⟨C1,c1,c2⟩:=hw.focus hk
 refine ⟨.tuple #[.bool true,.int .i64 p.i,.int .i32 p.r],W1,by rw [hr]; simp [execOp,ha.ev hx,e1,Sem.run_bind],h _ _ (ha.put hd _) (c2 _ C1 W1 ⟨?_,fun j hj=>.inl hj⟩ ⟨c1.1,by rw [h1,hw']; exact e3⟩)⟩
 exact e2.weaken (fun i _ hi=>by subst hi; exact (c1.1 _).2 rfl)
theorem zfF [WideF F] {it m:Nat} (hg:gd ops σ g=some true) (hd:d<N) (hx:ev σ x=some (.pointer (some ⟨it,0,none⟩))) (hk:L[k]?=some (obj it (.stringIter s (zfv s m)))) (hm:(pcs s.data.toList).length≤m)
  (h:TO F P w0 K N dfs ops Q rest ((d,.tuple #[.bool false])::σ) L):TO F P w0 K N dfs ops Q (⟨some d,.next x true,ty,pos,aft,g⟩::rest) σ L:=by
 refine zgz hg (by simp) fun a w ha hw => ?_
 have hit:=hw.obj hk
 have e:zfv s m=s.size:=by simp [zfv,List.getElem?_eq_none hm]
 rw [e] at hit
 exact ⟨_,w,by simp [execOp,ha.ev hx,(zmJ P w it s s.size hit (by omega)).1,Sem.run_bind],h _ _ (ha.put hd _) hw⟩
end
end Go.Proofs.YtbempdelckaccaaDoor

namespace Go.Proofs.YtbempdelckaccaaDoor
open Go.RowKit Go.Lib Go.Shelf
attribute [local go_sem] Oper.semAt_some zo2 zkL zkM
set_option linter.unusedVariables false
theorem zfg {a b:Bool} (h:a=b):Ending.returned (.bool a)=.returned (.bool b):=by rw [h]
theorem zly {k:IntKind} {a b:Int} (h:a=b):Ending.returned (.int k a)=.returned (.int k b):=by rw [h]
end Go.Proofs.YtbempdelckaccaaDoor

namespace Go.Proofs.YtbempdelckaccaaDoor
open Go.RowKit Go.Lib
def zp1 (r:Int):Bool:=decide (r % 2=0)
def ziZ (r:Int):Prop :=
 (65≤r∧r≤90)∨(0xC0≤r∧r≤0xDE∧r≠0xD7)∨(((0x100≤r∧r≤0x137)∨(0x14A≤r∧r≤0x177))∧r % 2=0)∨(0x139≤r∧r≤0x148∧r % 2=1)∨r=0x178 ∨
 (0x179≤r∧r≤0x17D∧r % 2=1)∨(0x386≤r∧r≤0x38F∧r≠0x387∧r≠0x38B∧r≠0x38D)∨(0x391≤r∧r≤0x3AB∧r≠0x3A2)∨(0x400≤r∧r≤0x42F)
instance (r:Int):Decidable (ziZ r):=by unfold ziZ; infer_instance
def zoK (r:Int):Bool:=decide (ziZ r)
def ziT (r:Int):Prop :=
 (97≤r∧r≤122)∨(0xDF≤r∧r≤0xFF∧r≠0xF7)∨(((0x100≤r∧r≤0x137)∨(0x14A≤r∧r≤0x177))∧r % 2=1)∨r=0x138∨r=0x149∨r=0x17F∨r=0x390 ∨
 (0x139≤r∧r≤0x148∧r % 2=0)∨(0x17A≤r∧r≤0x17E∧r % 2=0)∨(0x3AC≤r∧r≤0x3CE)∨(0x430≤r∧r≤0x45F)
instance (r:Int):Decidable (ziT r):=by unfold ziT; infer_instance
def zou (r:Int):Bool:=decide (ziT r)
def zn9 (r:Int):Bool:=zoK r||zou r
def zwG (r:Int):Int :=
 if r=0xFF then 0xFF - 0x178
 else if r<0x100∨(0x3B1≤r∧r≤0x3CB)∨(0x430≤r∧r≤0x44F) then 0x20
 else if r≤0x17F then 1
 else if r=0x3AC then 0x3AC - 0x386
 else if 0x3AD≤r∧r≤0x3AF then 0x25
 else if r=0x3CC then 0x40
 else if r=0x3CD∨r=0x3CE then 0x3F
 else 0x50
def zq8 (r:Int):Int :=
 if r<0∨(0xD800≤r∧r≤0xDFFF)∨0x10FFFF<r then 0
 else if zn9 r then 1
 else if 0x300≤r∧r≤0x36F then 2
 else if 48≤r∧r≤57 then 3
 else if r=10∨r=13 then 4
 else if r=9∨r=32∨r=0xA0∨r=0x202F∨r=0x205F∨r=0x3000 then 5
 else if r=45∨(0x2010≤r∧r≤0x2015) then 6
 else if r=34∨r=39∨r=0xAB∨r=0xBB∨r=0x2039∨r=0x203A then 7
 else if r=33∨r=44∨r=46∨r=58∨r=59∨r=63∨r=0xA1∨r=0xB7∨r=0xBF∨r=0x2026 then 8
 else if 0x2000≤r∧r≤0x200A then 5
 else if 0x2018≤r∧r≤0x201F then 7
 else if r<0x20∨(0x7F≤r∧r≤0x9F)∨(0x200B≤r∧r≤0x200F)∨r=0xFEFF then 9
 else 10
def kind (r:Int):Int:=zq8 r
theorem zh3 (r:Int):zoK r=true↔ziZ r:=by simp [zoK]
theorem zhM (r:Int):zou r=true↔ziT r:=by simp [zou]
end Go.Proofs.YtbempdelckaccaaDoor

namespace Go.Proofs.YtbempdelckaccaaDoor
open Go.RowKit Go.Lib Go.Shelf
set_option linter.unusedVariables false
set_option linter.unusedSimpArgs false
theorem zwH (r:Int) (h0 : -2147483648≤r) (h1:r≤2147483647):(bits BinOp.and IntKind.i32 r 1==0)=zp1 r:=by
 have hk:bits .and .i32 r 1=r % 2:=by
  have h1:(BitVec.ofInt 32 1).toNat=2 ^ 1 - 1:=by decide
  have key:(BitVec.ofInt 32 r &&& BitVec.ofInt 32 1).toNat=(r % ((2 ^ 32:Nat):Int)).toNat % 2 ^ 1:=by
   rw [BitVec.toNat_and,BitVec.toNat_ofInt,h1,Nat.and_two_pow_sub_one_eq_mod]
  show IntKind.i32.wrap ((BitVec.ofInt 32 r &&& BitVec.ofInt 32 1).toNat:Nat)=r % 2
  rw [key,IntKind.wrap_i32]
  omega
 rw [hk,zp1,Bool.eq_iff_iff]
 simp
theorem zoh (r:Int) (w:World) (h0 : -2147483648≤r) (h1:r≤2147483647) :
  Calls Tryd.prog 123 #[.int .i32 r] w fun e w'=>e=.returned (.bool (zp1 r))∧w=w':=by
 go_enter Tryd.func123,Tryd.ntmps123
 go_wp2
 go_ret
 exact ⟨zfg (zwH r h0 h1),rfl⟩
set_option maxHeartbeats 1000000 in
theorem zpQ (r:Int) (w:World) (h0 : -2147483648≤r) (h1:r≤2147483647) :
  Calls Tryd.prog 121 #[.int .i32 r] w fun e w'=>e=.returned (.bool (zoK r))∧w=w':=by
 go_enter Tryd.func121,Tryd.ntmps121
 go_wp2_with (go_at_call 123; refine (zoh _ _ (by omega) (by omega)).mono ?_; rintro e w' ⟨rfl,rfl⟩)
 all_goals
  go_ret
  refine ⟨zfg ?_,rfl⟩
  (go_light; rw [Bool.eq_iff_iff]; (try simp only [zh3,ziZ,zp1,decide_eq_true_eq,bne_iff_ne,ne_eq,Bool.not_eq_true',decide_eq_false_iff_not,Bool.and_eq_true,Bool.or_eq_true,Bool.or_eq_false_iff,Bool.and_eq_false_iff,bne_eq_false_iff_eq,beq_iff_eq,beq_eq_false_iff_ne,Bool.false_eq_true,false_iff,true_iff,iff_true,iff_false,Bool.not_eq_false',Bool.not_true,Bool.not_false] at *); omega)
set_option maxHeartbeats 1000000 in
theorem zpj (r:Int) (w:World) (h0 : -2147483648≤r) (h1:r≤2147483647) :
  Calls Tryd.prog 122 #[.int .i32 r] w fun e w'=>e=.returned (.bool (zou r))∧w=w':=by
 go_enter Tryd.func122,Tryd.ntmps122
 go_wp2_with (go_at_call 123; refine (zoh _ _ (by omega) (by omega)).mono ?_; rintro e w' ⟨rfl,rfl⟩)
 all_goals
  go_ret
  refine ⟨zfg ?_,rfl⟩
  (go_light; rw [Bool.eq_iff_iff]; (try simp only [zhM,ziT,zp1,decide_eq_true_eq,bne_iff_ne,ne_eq,Bool.not_eq_true',decide_eq_false_iff_not,Bool.and_eq_true,Bool.or_eq_true,Bool.or_eq_false_iff,Bool.and_eq_false_iff,bne_eq_false_iff_eq,beq_iff_eq,beq_eq_false_iff_ne,Bool.false_eq_true,false_iff,true_iff,iff_true,iff_false,Bool.not_eq_false',Bool.not_true,Bool.not_false] at *); omega)
theorem zoI (r:Int) (w:World) (h0 : -2147483648≤r) (h1:r≤2147483647) :
  Calls Tryd.prog 118 #[.int .i32 r] w fun e w'=>e=.returned (.bool (zn9 r))∧w=w':=by
 go_enter Tryd.func118,Tryd.ntmps118
 go_wp2_with (first | (go_at_call 121; refine (zpQ _ _ (by omega) (by omega)).mono ?_; rintro e w' ⟨rfl,rfl⟩) | (go_at_call 122; refine (zpj _ _ (by omega) (by omega)).mono ?_; rintro e w' ⟨rfl,rfl⟩))
 all_goals
  go_ret
  refine ⟨zfg ?_,rfl⟩
  go_light
  simp_all [zn9]
theorem zq5 (r:Int) (w:World) (h0 : -2147483648≤r) (h1:r≤2147483647) :
  Calls Tryd.prog 119 #[.int .i32 r] w fun e w'=>e=.returned (.bool (decide (0x300≤r∧r≤0x36F)))∧w=w':=by
 go_enter Tryd.func119,Tryd.ntmps119
 go_wp2
 all_goals
  go_ret
  refine ⟨zfg ?_,rfl⟩
  (go_light; rw [Bool.eq_iff_iff]; simp only [decide_eq_true_eq,bne_iff_ne,ne_eq,Bool.not_eq_true',decide_eq_false_iff_not,Bool.and_eq_true,Bool.or_eq_true,Bool.or_eq_false_iff,Bool.and_eq_false_iff,bne_eq_false_iff_eq,beq_iff_eq,beq_eq_false_iff_ne,Bool.false_eq_true,false_iff,true_iff,iff_true,iff_false,Bool.not_eq_false',Bool.not_true,Bool.not_false] at *; omega)
end Go.Proofs.YtbempdelckaccaaDoor

namespace Go.Proofs.YtbempdelckaccaaDoor
open Go.RowKit Go.Lib Go.Shelf
set_option linter.unusedVariables false
set_option linter.unusedSimpArgs false
theorem zoa (r:Int) (w:World) (h0 : -2147483648≤r) (h1:r≤2147483647) :
  Calls Tryd.prog 114 #[.int .i32 r] w fun e w'=>e=.returned (.int .i64 (kind r))∧w=w':=by
 go_enter Tryd.func114,Tryd.ntmps114
 go_wp2_with (first | (go_at_call 118; refine (zoI _ _ (by omega) (by omega)).mono ?_; rintro e w' ⟨rfl,rfl⟩) | (go_at_call 119; refine (zq5 _ _ (by omega) (by omega)).mono ?_; rintro e w' ⟨rfl,rfl⟩))
 all_goals
  go_ret
  refine ⟨zly ?_,rfl⟩
  go_light
  try simp only [decide_eq_true_eq,bne_iff_ne,ne_eq,Bool.not_eq_true',decide_eq_false_iff_not,Bool.and_eq_true,Bool.or_eq_true,Bool.or_eq_false_iff,Bool.and_eq_false_iff,bne_eq_false_iff_eq,beq_iff_eq,beq_eq_false_iff_ne,Bool.false_eq_true,false_iff,true_iff,iff_true,iff_false,Bool.not_eq_false',Bool.not_true,Bool.not_false] at *
  grind [kind,zq8]
def zdd (b:Bool) (r:Int):Int:=if b then 11 else kind r
theorem zt7 (i wd r:Int) (b:Bool) (w:World) (h0 : -2147483648≤r) (h1:r≤2147483647) :
  Calls Tryd.prog 100 #[.agg #[.int .i64 i,.int .i64 wd,.int .i32 r,.bool b]] w fun e w'=>e=.returned (.int .i64 (zdd b r))∧Below w.heap.size w w':=by
 cases b
 ·go_enter Tryd.func100,Tryd.ntmps100
  go_wp2_with (go_at_call 114; refine (zoa _ _ (by omega) (by omega)).mono ?_; rintro e w' ⟨rfl,rfl⟩)
  go_ret
  exact ⟨zly (by simp [zdd]),(Below.refl _ _).alloc (Nat.le_refl _) _⟩
 ·go_enter Tryd.func100,Tryd.ntmps100
  go_wp2_with (go_at_call 114; refine (zoa _ _ (by omega) (by omega)).mono ?_; rintro e w' ⟨rfl,rfl⟩)
  go_ret
  exact ⟨zly (by simp [zdd]),(Below.refl _ _).alloc (Nat.le_refl _) _⟩
end Go.Proofs.YtbempdelckaccaaDoor

namespace Go.Proofs.YtbempdelckaccaaDoor
open Go.RowKit Go.Lib Go.Shelf
attribute [local go_sem] Oper.semAt_some zo2 zkL zkM
set_option linter.unusedVariables false
set_option linter.unusedSimpArgs false
end Go.Proofs.YtbempdelckaccaaDoor

namespace Go.Proofs.YtbempdelckaccaaDoor
open Go.RowKit Go.Lib Go.Shelf
attribute [local go_sem] Oper.semAt_some
set_option linter.unusedVariables false
set_option linter.unusedSimpArgs false
theorem zgc (l:List UInt8):∀ (n:Nat) (D:List Pc) (p:Pc) (B:List Pc),D.length≤n→pcs l=D++p::B→D.length≤p.i
 | 0,D,p,B,hn,h=>by omega
 | n+1,D,p,B,hn,h=>by
  rcases List.eq_nil_or_concat D with rfl | ⟨D,q,rfl⟩
  ·simp
  ·rw [List.concat_eq_append] at h hn ⊢
   have h1:=zgc l n D q (p::B) (by simp at hn; omega) (by rw [h]; simp)
   obtain ⟨_,hok,_,h4⟩:=zhW l D q (p::B) (by rw [h]; simp)
   have:=hok.pos
   have h5:p.i=q.i+q.w:=by
    by_cases hd:l.drop (q.i+q.w)=[]
    ·rw [hd,zc0] at h4; simp at h4
    ·rw [zcr _ _ hd] at h4
     simp only [List.cons.injEq] at h4
     rw [h4.1]
   rw [List.length_append,h5]
   simp only [List.length_singleton]; omega
end Go.Proofs.YtbempdelckaccaaDoor

namespace Go.Proofs.YtbempdelckaccaaDoor
open Go.RowKit Go.Lib
structure Rn where
 f:Nat
 t:Nat
 k:Int
 deriving DecidableEq
end Go.Proofs.YtbempdelckaccaaDoor

namespace Go.Proofs.YtbempdelckaccaaDoor
open Go.RowKit Go.Lib
set_option linter.unusedVariables false
theorem zvc (i wd r:Int) (b:Bool) (h0 : -2147483648≤r) (h1:r≤2147483647):FnP Tryd.prog 100 [.agg #[.int .i64 i,.int .i64 wd,.int .i32 r,.bool b]] (.int .i64 (zdd b r)):=fun w=>zt7 i wd r b w h0 h1
theorem Rw.vec {α:Type} {enc:α→List Value} {e:TypeId} {size:Nat} {v:Value} {L:List α} {w w':World} (h:Rw enc w' w.heap.size e size v L) (hb:Below w.heap.size w w') :
  ∃ C',sepL [vec enc e size v L] C' w'∧Ext (fun _=>False) C' w w':=by
 refine ⟨fun k=>v.ownBlock=some k,sepL.one ⟨ztg h (Nat.zero_le _),rfl⟩,(znT hb).weaken (fun i hi h=>by omega),fun k hk=>.inr ?_⟩
 rcases h.shape with ⟨rfl,_⟩ | ⟨g,cap,rfl,h1,h2,_⟩
 ·simp [Value.ownBlock] at hk
 ·simp [Value.ownBlock] at hk; omega
end Go.Proofs.YtbempdelckaccaaDoor

namespace Go.Proofs.YtbempdelckaccaaDoor
open Go.RowKit Go.Lib Go.Shelf
set_option linter.unusedVariables false
set_option linter.unusedSimpArgs false
def vowelRunes:List Int:=[0x101,0x103,0x105,0x113,0x115,0x117,0x119,0x11b,0x129,0x12b,0x12d,0x12f,0x131,0x14d,0x14f,0x151,0x153,0x169,0x16b,0x16d,0x16f,0x171,0x173,0x177,
 0x390,0x3ac,0x3ad,0x3ae,0x3af,0x3b0,0x3b1,0x3b5,0x3b7,0x3b9,0x3bf,0x3c5,0x3c9,0x3ca,0x3cb,0x3cc,0x3cd,0x3ce,
 0x430,0x435,0x438,0x43e,0x443,0x44b,0x44d,0x44e,0x44f,0x450,0x451,0x454,0x456,0x457,0x45d]
def vowelS:ByteArray:=⟨#[196,129,196,131,196,133,196,147,196,149,196,151,196,153,196,155,196,169,196,171,196,173,196,175,196,177,197,141,197,143,197,145,197,147,197,169,197,171,197,173,197,175,197,177,197,179,197,183,206,144,206,172,206,173,206,174,206,175,206,176,206,177,206,181,206,183,206,185,206,191,207,133,207,137,207,138,207,139,207,140,207,141,207,142,208,176,208,181,208,184,208,190,209,131,209,139,209,141,209,142,209,143,209,144,209,145,209,148,209,150,209,151,209,157]⟩
theorem ziR:(pcs vowelS.data.toList).map (fun p=>(p.r:Int))=vowelRunes:=by decide +kernel
def VowRel (w:World) (x:Int) (wr:World):Prop :=
 ∃ pre pos,pcs vowelS.data.toList=pre++zdl pos (vowelS.data.toList.drop pos)∧pos≤vowelS.size∧(∀ p∈pre,(Pc.r p:Int)≠x)∧Below w.heap.size w wr∧wr.heap[w.heap.size]?=some (.stringIter vowelS pos)
theorem VowRel.start (w:World) (x:Int):VowRel w x (w.iter vowelS 0) :=
 ⟨[],0,rfl,Nat.zero_le _,by simp,(Below.refl _ _).alloc (Nat.le_refl _) _,World.iter_heap w vowelS 0⟩
theorem VowRel.round {P:Program} {w wr:World} {x:Int} (h:VowRel w x wr) :
  (∃ (pos r:Nat) (W1:World),(∀ ty,(Instr.next (.pointer (some ⟨w.heap.size,0,none⟩)) true ty).run P wr=.ok (.tuple #[.bool true,.int .i64 pos,.int .i32 r]) W1)∧Below w.heap.size w W1 ∧
   (((r:Int)=x∧vowelRunes.contains x=true)∨((r:Int)≠x∧VowRel w x W1∧vowelS.size - W1.iterPos w.heap.size<vowelS.size - wr.iterPos w.heap.size))) ∨
  ((∀ ty,(Instr.next (.pointer (some ⟨w.heap.size,0,none⟩)) true ty).run P wr=.ok (.tuple #[.bool false]) wr)∧Below w.heap.size w wr∧vowelRunes.contains x=false):=by
 obtain ⟨pre,pos,hx,hpos,hpre,hb,hit⟩:=h
 by_cases hlt:pos<vowelS.size
 ·obtain ⟨r,wd,W1,hn,hf,hit1,hsz,hok,hp,hle,h1⟩:=zmI P wr w.heap.size vowelS pos hit hlt
  have hb1:Below w.heap.size w W1:=hb.trans (hf.toBelow hb.size (by intro k hk; omega))
  refine .inl ⟨pos,r,W1,hn,hb1,?_⟩
  rw [hp] at hx
  by_cases he:(r:Int)=x
  ·refine .inl ⟨he,?_⟩
   rw [← ziR,hx,List.contains_iff_mem,List.mem_map]
   exact ⟨⟨pos,wd,r⟩,by simp,he⟩
  ·refine .inr ⟨he,⟨pre++[⟨pos,wd,r⟩],pos+wd,by rw [hx]; simp,hle,?_,hb1,hit1⟩,?_⟩
   ·intro p hp
    rcases List.mem_append.1 hp with h | h
    ·exact hpre p h
    ·simp at h; subst h; exact he
   ·rw [zkZ hit,zkZ hit1]; omega
 ·obtain ⟨hn,hp⟩:=zmJ P wr w.heap.size vowelS pos hit hlt
  refine .inr ⟨hn,hb,?_⟩
  rw [hp,List.append_nil] at hx
  rw [← ziR,hx,← Bool.not_eq_true,List.contains_iff_mem,List.mem_map]
  rintro ⟨p,hm,he⟩
  exact hpre p hm he
end Go.Proofs.YtbempdelckaccaaDoor

namespace Go.Proofs.YtbempdelckaccaaDoor
open Go.RowKit Go.Lib Go.Shelf
set_option linter.unusedVariables false
set_option linter.unusedSimpArgs false
def inB (r a b:Int):Bool:=decide (a≤r∧r≤b)
theorem zjF (r a b:Int) (w:World) :
  Calls Tryd.prog 103 #[.int .i32 r,.int .i32 a,.int .i32 b] w fun e w'=>e=.returned (.bool (inB r a b))∧w=w':=by
 go_enter Tryd.func103,Tryd.ntmps103
 go_wp2
 all_goals
  go_ret
  refine ⟨zfg ?_,rfl⟩
  (go_light; rw [Bool.eq_iff_iff]; simp only [inB,decide_eq_true_eq,bne_iff_ne,ne_eq,Bool.not_eq_true',decide_eq_false_iff_not,Bool.and_eq_true,Bool.or_eq_true,Bool.or_eq_false_iff,Bool.and_eq_false_iff,bne_eq_false_iff_eq,beq_iff_eq,beq_eq_false_iff_ne,Bool.false_eq_true,false_iff,true_iff,iff_true,iff_false,Bool.not_eq_false',Bool.not_true,Bool.not_false] at *; omega)
theorem zoz (r:Int) (w:World) (h0 : -2147483648≤r) (h1:r≤2147483647) :
  Calls Tryd.prog 104 #[.int .i32 r] w fun e w'=>e=.returned (.bool (zoK r))∧w=w':=by
 by_cases hn:0≤r
 ·go_enter Tryd.func104,Tryd.ntmps104
  go_wp2_with (first | (go_at_call 103; refine (zjF _ _ _ _).mono ?_; rintro e w' ⟨rfl,rfl⟩))
  all_goals
   go_ret
   refine ⟨zfg ?_,rfl⟩
   (go_light; rw [Bool.eq_iff_iff,zh3]; simp only [inB,ziZ,decide_eq_true_eq,bne_iff_ne,ne_eq,Bool.not_eq_true',decide_eq_false_iff_not,Bool.and_eq_true,Bool.or_eq_true,Bool.or_eq_false_iff,Bool.and_eq_false_iff,bne_eq_false_iff_eq,beq_iff_eq,beq_eq_false_iff_ne,Bool.false_eq_true,false_iff,true_iff,iff_true,iff_false,Bool.not_eq_false',Bool.not_true,Bool.not_false] at *; omega)
 ·have i1:∀ a b:Int,0≤a→inB r a b=false:=by intro a b ha; simp [inB]; omega
  have hm:zoK r=false:=by rw [Bool.eq_false_iff]; intro h; rw [zh3] at h; unfold ziZ at h; omega
  go_enter Tryd.func104,Tryd.ntmps104
  go_wp2_with (first | (go_at_call 103; refine (zjF _ _ _ _).mono ?_; rintro e w' ⟨rfl,rfl⟩))
  all_goals
   go_ret
   refine ⟨zfg ?_,rfl⟩
   (go_light; rw [Bool.eq_iff_iff,zh3]; simp only [inB,ziZ,decide_eq_true_eq,bne_iff_ne,ne_eq,Bool.not_eq_true',decide_eq_false_iff_not,Bool.and_eq_true,Bool.or_eq_true,Bool.or_eq_false_iff,Bool.and_eq_false_iff,bne_eq_false_iff_eq,beq_iff_eq,beq_eq_false_iff_ne,Bool.false_eq_true,false_iff,true_iff,iff_true,iff_false,Bool.not_eq_false',Bool.not_true,Bool.not_false] at *; omega)
theorem zox (r:Int) (w:World) (h0 : -2147483648≤r) (h1:r≤2147483647) :
  Calls Tryd.prog 105 #[.int .i32 r] w fun e w'=>e=.returned (.bool (zou r))∧w=w':=by
 by_cases hn:0≤r
 ·go_enter Tryd.func105,Tryd.ntmps105
  go_wp2_with (first | (go_at_call 103; refine (zjF _ _ _ _).mono ?_; rintro e w' ⟨rfl,rfl⟩))
  all_goals
   go_ret
   refine ⟨zfg ?_,rfl⟩
   (go_light; rw [Bool.eq_iff_iff,zhM]; simp only [inB,ziT,decide_eq_true_eq,bne_iff_ne,ne_eq,Bool.not_eq_true',decide_eq_false_iff_not,Bool.and_eq_true,Bool.or_eq_true,Bool.or_eq_false_iff,Bool.and_eq_false_iff,bne_eq_false_iff_eq,beq_iff_eq,beq_eq_false_iff_ne,Bool.false_eq_true,false_iff,true_iff,iff_true,iff_false,Bool.not_eq_false',Bool.not_true,Bool.not_false] at *; omega)
 ·have i1:∀ a b:Int,0≤a→inB r a b=false:=by intro a b ha; simp [inB]; omega
  have hm:zou r=false:=by rw [Bool.eq_false_iff]; intro h; rw [zhM] at h; unfold ziT at h; omega
  go_enter Tryd.func105,Tryd.ntmps105
  go_wp2_with (first | (go_at_call 103; refine (zjF _ _ _ _).mono ?_; rintro e w' ⟨rfl,rfl⟩))
  all_goals
   go_ret
   refine ⟨zfg ?_,rfl⟩
   (go_light; rw [Bool.eq_iff_iff,zhM]; simp only [inB,ziT,decide_eq_true_eq,bne_iff_ne,ne_eq,Bool.not_eq_true',decide_eq_false_iff_not,Bool.and_eq_true,Bool.or_eq_true,Bool.or_eq_false_iff,Bool.and_eq_false_iff,bne_eq_false_iff_eq,beq_iff_eq,beq_eq_false_iff_ne,Bool.false_eq_true,false_iff,true_iff,iff_true,iff_false,Bool.not_eq_false',Bool.not_true,Bool.not_false] at *; omega)
end Go.Proofs.YtbempdelckaccaaDoor

namespace Go.Proofs.YtbempdelckaccaaDoor
open Go.RowKit Go.Lib Go.Shelf
set_option linter.unusedVariables false
set_option linter.unusedSimpArgs false
set_option maxRecDepth 20000 in
theorem zmw (r:Int) (w:World) (h0 : -2147483648≤r) (h1:r≤2147483647) :
  Calls Tryd.prog 88 #[.int .i32 r] w fun e w'=>e=.returned (.int .i64 (kind r))∧w=w':=by
 go_enter Tryd.func88,Tryd.ntmps88
 go_wp2_with (first | (go_at_call 103; refine (zjF _ _ _ _).mono ?_; rintro e w' ⟨rfl,rfl⟩) | (go_at_call 104; refine (zoz _ _ (by omega) (by omega)).mono ?_; rintro e w' ⟨rfl,rfl⟩) | (go_at_call 105; refine (zox _ _ (by omega) (by omega)).mono ?_; rintro e w' ⟨rfl,rfl⟩))
 all_goals
  go_ret
  refine ⟨zly ?_,rfl⟩
  go_light
  try simp only [inB,decide_eq_true_eq,bne_iff_ne,ne_eq,Bool.not_eq_true',decide_eq_false_iff_not,Bool.and_eq_true,Bool.or_eq_true,Bool.or_eq_false_iff,Bool.and_eq_false_iff,bne_eq_false_iff_eq,beq_iff_eq,beq_eq_false_iff_ne,Bool.false_eq_true,false_iff,true_iff,iff_true,iff_false,Bool.not_eq_false',Bool.not_true,Bool.not_false] at *
  grind (splits:=60) [kind,zq8,zn9]
end Go.Proofs.YtbempdelckaccaaDoor

namespace Go.Proofs.YtbempdelckaccaaDoor
open Go.RowKit Go.Lib
set_option linter.unusedVariables false
set_option linter.unusedSimpArgs false
section
variable {α:Type} {enc:α→List Value} {size k:Nat} {vv:Value} {xs:List α}
def zhS (enc:α→List Value) (size:Nat) (vv:Value) (k:Nat) (xs:List α):Asn :=
  ⟨fun C w=>(∀ b,C b→b<w.heap.size)∧∀ i x j v,k≤i→xs[i]?=some x→(enc x)[j]?=some v→C (zb7 vv)∧w.cell? ⟨zb7 vv,i*size+j,none⟩=some v,
   fun h b hb=>h.1 b hb,
   fun {C w w'} h hs hk=>⟨fun b hb=>Nat.lt_of_lt_of_le (h.1 b hb) hs,fun i x j v hi hx hv=>by
     obtain ⟨h1,h2⟩:=h.2 i x j v hi hx hv
     refine ⟨h1,?_⟩
     rw [← h2]
     unfold World.cell?
     simp only [hk _ h1]⟩⟩
theorem zgb {e:TypeId} (hz:∀ x,(enc x).length=size) {C:Nat→Prop} {w:World} (h:(vec enc e size vv xs).P C w):(zhS enc size vv 0 xs).P C w:=by
 have hV:Vec enc e size vv xs C w:=h
 refine ⟨(vec enc e size vv xs).lt h,fun i x j v _ hx hv => ?_⟩
 have hj:j<size:=by rw [← hz x]; exact (List.getElem?_eq_some_iff.1 hv).1
 refine ⟨?_,hV.cellAt hz hx hj hv⟩
 rcases hV.shape with ⟨_,h2,_⟩ | ⟨g,cap,rfl,_⟩
 ·rw [h2] at hx; simp at hx
 ·rw [hV.2]; rfl
variable {F:Fence} {P:Program} {w0:World} {K:Nat→Prop} {N:Nat} {dfs:List Deferred} {ops:Array Oper} {Q:Exit→Act→World→Prop} {rest:List Oper} {σ:List (Nat×Value)} {L RD:List Asn} {v:Value}
 {d i:Nat} {t ty:TypeId} {pos:String} {aft:Array Edge} {g:Option (Nat×Bool)} {x:Operand}
theorem zci [WideF F] {n j off:Nat} {q:α} (hr:Rd w0 K RD) (hi:RD[i]?=some (zhS enc size vv k xs)) (hle:k≤n) (hT:zcf P t) (hg:gd ops σ g=some true) (hd:d<N) (hx:ev σ x=some (.pointer (some ⟨zb7 vv,off,none⟩)))
  (hq:xs[n]?=some q) (ho:off=n*size+j) (hv:(enc q)[j]?=some v) (h:TO F P w0 K N dfs ops Q rest ((d,v)::σ) L) :
  TO F P w0 K N dfs ops Q (⟨some d,.load t x,ty,pos,aft,g⟩::rest) σ L:=by
 subst ho
 obtain ⟨dd,hu,hr'⟩:=hT
 refine zdk hg hd (by simp) (fun a w ha hw => ?_) h
 obtain ⟨C,hC⟩:=hr.at hw hi
 have hc:=(hC.2 n q j v hle hq hv).2
 have h1:=ha.ev hx
 cases dd <;> simp_all [execOp,Instr.loadAt,Instr.sureAddr,loadVar,isAgg,Sem.run_bind,run_underlying hu]
theorem zio [WideF F] {m j off n:Nat} {q:α} {cs:List Value} (hr:Rd w0 K RD) (hi:RD[i]?=some (zhS enc size vv k xs)) (hle:k≤m) (hT:zgZ P t n) (hg:gd ops σ g=some true) (hd:d<N) (hx:ev σ x=some (.pointer (some ⟨zb7 vv,off,none⟩)))
  (hq:xs[m]?=some q) (ho:off=m*size+j) (hcs:((enc q).drop j).take n=cs) (hn:cs.length=n)
  (h:TO F P w0 K N dfs ops Q rest ((d,.agg cs.toArray)::σ) L):TO F P w0 K N dfs ops Q (⟨some d,.load t x,ty,pos,aft,g⟩::rest) σ L:=by
 subst ho; subst hn
 obtain ⟨dd,hu,hr',hi'⟩:=hT
 refine zdk hg hd (by simp) (fun a w ha hw => ?_) h
 obtain ⟨C,hC⟩:=hr.at hw hi
 have hc:w.rangeAt (zb7 vv) (m*size+j) cs:=fun n u hn=>by
  rw [← hcs] at hn
  rw [List.getElem?_take] at hn
  split at hn
  ·rw [List.getElem?_drop] at hn
   have:=(hC.2 m q (j+n) u hle hq hn).2
   rwa [← Nat.add_assoc] at this
  ·cases hn
 simp only [execOp,ha.ev hx,Sem.run_bind,run_loadAt_mid w _ _ t cs dd hc hu hr' hi']; rfl
end
end Go.Proofs.YtbempdelckaccaaDoor

namespace Go.Proofs
open Go.Shelf
def zjc:Go.Shelf.Ren:=⟨fun | 160=>51 | 232=>73 | 231=>72 | 227=>74 | 234=>76 | 233=>75 | 236=>78 | 235=>77 | 228=>94 | 271=>97 | 151=>96 | 197=>95 | 120=>111 | 152=>92 | 260=>110 | 137=>106 | 119=>107 | 224=>108 | 225=>109 | 217=>116 | 266=>120 | n=>n,fun | 9=>9 | 4=>4 | 3=>3 | 5=>5 | 117=>158 | 116=>157 | 0=>0 | 124=>161 | 21=>21 | 105=>181 | 46=>107 | 119=>200 | 139=>203 | 138=>202 | n=>n,fun | 3=>1 | 4=>2 | n=>n⟩
theorem znc:Go.Proofs.Lays.n160 Tryd.prog zjc:={
 mixed:=by kernel_rfl
 f119:=Tryd.func107.trans (congrArg some (by kernel_rfl))
 f120:=Tryd.func111.trans (congrArg some (by kernel_rfl))
 f137:=Tryd.func106.trans (congrArg some (by kernel_rfl))
 f151:=Tryd.func96.trans (congrArg some (by kernel_rfl))
 f152:=Tryd.func92.trans (congrArg some (by kernel_rfl))
 f160:=Tryd.func51.trans (congrArg some (by kernel_rfl))
 f197:=Tryd.func95.trans (congrArg some (by kernel_rfl))
 f217:=Tryd.func116.trans (congrArg some (by kernel_rfl))
 f224:=Tryd.func108.trans (congrArg some (by kernel_rfl))
 f225:=Tryd.func109.trans (congrArg some (by kernel_rfl))
 f227:=Tryd.func74.trans (congrArg some (by kernel_rfl))
 f228:=Tryd.func94.trans (congrArg some (by kernel_rfl))
 f231:=Tryd.func72.trans (congrArg some (by kernel_rfl))
 f232:=Tryd.func73.trans (congrArg some (by kernel_rfl))
 f233:=Tryd.func75.trans (congrArg some (by kernel_rfl))
 f234:=Tryd.func76.trans (congrArg some (by kernel_rfl))
 f235:=Tryd.func77.trans (congrArg some (by kernel_rfl))
 f236:=Tryd.func78.trans (congrArg some (by kernel_rfl))
 f260:=Tryd.func110.trans (congrArg some (by kernel_rfl))
 f266:=Tryd.func120.trans (congrArg some (by kernel_rfl))
 f271:=Tryd.func97.trans (congrArg some (by kernel_rfl))
 t0:=Tryd.underlying0
 a0:=Tryd.isAgg0
 z0:=Tryd.sizeOf0
 v0:=Tryd.zeroValue0
 t3:=Tryd.underlying3
 a3:=Tryd.isAgg3
 z3:=Tryd.sizeOf3
 v3:=Tryd.zeroValue3
 t4:=Tryd.underlying4
 a4:=Tryd.isAgg4
 z4:=Tryd.sizeOf4
 v4:=Tryd.zeroValue4
 t5:=Tryd.underlying5
 a5:=Tryd.isAgg5
 z5:=Tryd.sizeOf5
 v5:=Tryd.zeroValue5
 t9:=Tryd.underlying9
 a9:=Tryd.isAgg9
 z9:=Tryd.sizeOf9
 v9:=Tryd.zeroValue9
 t21:=Tryd.underlying21
 a21:=Tryd.isAgg21
 z21:=Tryd.sizeOf21
 v21:=Tryd.zeroValue21
 t46:=Tryd.underlying107
 a46:=Tryd.isAgg107
 z46:=Tryd.sizeOf107
 v46:=Tryd.zeroValue107
 t105:=Tryd.underlying181
 a105:=Tryd.isAgg181
 z105:=Tryd.sizeOf181
 v105:=Tryd.zeroValue181
 t116:=Tryd.underlying157
 a116:=Tryd.isAgg157
 z116:=Tryd.sizeOf157
 t117:=Tryd.underlying158
 a117:=Tryd.isAgg158
 z117:=Tryd.sizeOf158
 v117:=Tryd.zeroValue158
 t119:=Tryd.underlying200
 a119:=Tryd.isAgg200
 z119:=Tryd.sizeOf200
 t124:=Tryd.underlying161
 a124:=Tryd.isAgg161
 z124:=Tryd.sizeOf161
 v124:=Tryd.zeroValue161
 t138:=Tryd.underlying202
 a138:=Tryd.isAgg202
 z138:=Tryd.sizeOf202
 v138:=Tryd.zeroValue202
 t139:=Tryd.underlying203
 a139:=Tryd.isAgg203
 z139:=Tryd.sizeOf203
 v139:=Tryd.zeroValue203
 g3:=by kernel_rfl
 g4:=by kernel_rfl }
end Go.Proofs

namespace Go.Proofs.YtbempdelckaccaaDoor
open Go.RowKit Go.Lib Go.Shelf
set_option linter.unusedVariables false
set_option linter.unusedSimpArgs false
def znV (s:ByteArray):ByteArray:=⟨(Lib.trimS s.data.toList [32,9]).toArray⟩
theorem ztE (s:ByteArray) (hs:s.size≤9223372036854775807):FnP Tryd.prog 51 [.string s,.string ⟨#[32,9]⟩] (.string (znV s)):=fun w =>
 Any.strings_Trim_laid znc (by kernel_rfl) s ⟨#[32,9]⟩ w hs (by decide) (ascii_of_all (by decide))
end Go.Proofs.YtbempdelckaccaaDoor

namespace Go.Proofs.YtbempdelckaccaaDoor
open Go.RowKit Go.Lib
set_option linter.unusedVariables false
set_option linter.unusedSimpArgs false
section
variable {F:Fence} {P:Program} {w0:World} {K:Nat→Prop} {N:Nat} {dfs:List Deferred} {ops:Array Oper} {Q:Exit→Act→World→Prop} {rest:List Oper} {σ:List (Nat×Value)} {L:List Asn} {c:Code} {ex:Exit} {k:Nat}
 {α η:Type} {enc:α×η→List Value} {nest:α×η→List Asn} {t:TypeId} {p:Value} {m:Option α} {x:α}
theorem zdO (enc:α×η→List Value) (nest:α×η→List Asn) (t:TypeId) (h:TX w0 K N dfs Q ex σ (L++[zi7 enc nest t (.pointer none) none])):TX w0 K N dfs Q ex σ L:=fun a w ha hw =>
 h a w ha (hw.grow (C':=fun _=>False) (Ext.refl _ _) (sepL.one (A:=zi7 enc nest t (.pointer none) none) ⟨fun _ h=>h,rfl⟩))
theorem zg0 (h:m=some x):Entl [zi7 enc nest t p m] (fun bh:Nat×η=>cells bh.1 (enc (x,bh.2)) t::nest (x,bh.2)) (fun bh=>p=.pointer (some ⟨bh.1,0,none⟩)):=fun C w hh=>by
 subst h
 obtain ⟨b,hd,h2,h3⟩:=pobj_some.1 (sepL.one1.1 hh)
 exact ⟨(b,hd),h2,h3⟩
def zuI (p:Value) (m:Option α):Prop:=(m.isNone=true∧p=.pointer none)∨(m.isNone=false∧∃ b,p=.pointer (some ⟨b,0,none⟩))
theorem zke (hk:L[k]?=some (zi7 enc nest t p m)) (h:zuI p m→TO F P w0 K N dfs ops Q rest σ L):TO F P w0 K N dfs ops Q rest σ L:=fun a w ha hw=>by
 obtain ⟨C1,h1,_⟩:=hw.focus hk
 refine h ?_ a w ha hw
 rcases zkW h1 with ⟨rfl,h2⟩ | ⟨x,b,rfl,h2⟩
 ·exact .inl ⟨rfl,h2⟩
 ·exact .inr ⟨rfl,b,h2⟩
theorem zk2 {ty e':TypeId} {w:World} (ht:P.underlying ty=some (.pointer e')):(Op.equal ty (.pointer none) (.pointer none)).run P w=.ok true w:=by
 have h:∀ d,(Op.equalIn (d+1) ty (.pointer none) (.pointer none)).run P w=.ok true w:=fun d=>by simp [Op.equalIn,run_underlying ht]
 exact h 9999
theorem zk9 {ty e':TypeId} {y z:Operand} (ht:P.underlying ty=some (.pointer e')) (hv:zuI p m) (w:World):(do eqGuard .eql ty y z p (.pointer none); binOp .eql ty p (.pointer none):Sem Value).run P w=.ok (.bool m.isNone) w:=by
 rcases hv with ⟨h1,rfl⟩ | ⟨h1,b,rfl⟩
 ·rw [h1]; simp [eqGuard,binOp,Sem.run_bind,zk2 ht]
 ·rw [h1]; exact zdE ht w
theorem zoR {ty e':TypeId} {y z:Operand} (ht:P.underlying ty=some (.pointer e')) (hv:zuI p m) (w:World):(do eqGuard .neq ty y z p (.pointer none); binOp .neq ty p (.pointer none):Sem Value).run P w=.ok (.bool (!m.isNone)) w:=by
 rcases hv with ⟨h1,rfl⟩ | ⟨h1,b,rfl⟩
 ·rw [h1]; simp [eqGuard,binOp,Sem.run_bind,zk2 ht]
 ·rw [h1]; exact zkI ht w
end
end Go.Proofs.YtbempdelckaccaaDoor

namespace Go.Proofs.YtbempdelckaccaaDoor
open Go.RowKit Go.Lib
set_option linter.unusedVariables false
set_option linter.unusedSimpArgs false
section
variable {F:Fence} {P:Program} {w0:World} {K:Nat→Prop} {N:Nat} {dfs:List Deferred} {ops:Array Oper} {Q:Exit→Act→World→Prop} {rest:List Oper} {σ σ':List (Nat×Value)} {L L' R As Bs:List Asn} {o:Oper} {v:Value}
 {d:Nat} {t:TypeId} {op:Op} {ty:TypeId} {pos:String} {aft:Array Edge} {g:Option (Nat×Bool)} {x y z:Operand} {c c1 c2:Code} {k:Nat} {A B:Asn} {RO:List (Nat×Obj)} {RD RD0:List Asn}
def ItrR (P:Program) (gf:FuncId) (caps:List Value) {α:Type} (enc:α→List Value) (xs:List α) (RD:List Asn):Prop :=
 ∀ (w:World) (D:Nat→Prop),(∀ A∈RD,∃ C,A.P C w∧∀ k,C k→D k)→(∀ k,D k→k<w.heap.size)→Yields P gf caps.toArray (fun x=>(enc x).toArray) xs D w
theorem ItrR.intro {gf:FuncId} {fn:Func} {caps:List Value} {α:Type} {enc:α→List Value} {xs:List α} (hf:P.funcs[gf]?=some fn) (hb:fn.body=some c) (hn:fn.ntmps=N) (hN:caps.length+1≤N)
  (h:∀ l w0 K (I X:List α→Asn),Rd w0 K RD→YC P l enc xs I X w0 K →
   TC Fence.wide P w0 K N [] (bodyPostM Fence.wide 0 P fn (FY xs I X w0 K)) c (zgx (.func (.yield l) #[] #[]::caps)) [I []]):ItrR P gf caps enc xs RD:=by
 subst hn
 intro w D hRD hDlt l I X C0 W hD hsz hC0 hIl hXl hy h0
 have hRo:Rd W C0 RD:=fun A hA=>by
  obtain ⟨C,h1,h2⟩:=hRD A hA
  exact ⟨C,A.loc h1 hsz (fun k hk=>(hD k (h2 k hk)).2),fun k hk hc=>(hC0 k hc).2 (h2 k hk)⟩
 have:=h l W C0 (fun pre=>zuK (I pre) (fun C W W'=>hIl pre C W W')) (fun pre=>zuK (X pre) (fun C W W'=>hXl pre C W W')) hRo (fun pre x post C W1 hxs he hi=>by
  obtain ⟨f1,t1,a1,b1,hr1,hr2⟩:=hy pre x post C W1 hxs he hi.1
  refine ⟨f1,t1,a1,b1,hr1,hr2.mono ?_⟩
  rintro e w2 ⟨b,rfl,C',hx,hc⟩
  have hlt:∀ k,C' k→k<w2.heap.size:=fun k hk=>by
   have:=hx.1.size
   rcases hx.2 k hk with h | h
   ·have:=hi.2 k h; omega
   ·exact h.2
  exact ⟨b,rfl,C',hx,hc.imp (fun h=>⟨h.1,h.2,hlt⟩) (fun h=>⟨h.1,h.2,hlt⟩)⟩)
 have hs:(Value.func (.yield l) #[] #[]::caps).toArray=#[.func (.yield l) #[] #[]]++caps.toArray:=by simp
 rw [← hs]
 refine (zfz hf hb (this _ W (At.start _ (by simpa using hN)) ⟨C0,sepL.one ⟨h0,fun k hk=>(hC0 k hk).1⟩,Ext.refl _ _⟩)).mono ?_
 rintro e w' ⟨he,hh⟩
 refine ⟨he,?_⟩
 rcases hh with ⟨C',hh,hx⟩ | ⟨pre,x,post,hxs,C',hh,hx⟩
 ·obtain ⟨C1,C2,g1,g2,_,g4⟩:=hh
  have:C'=C1:=funext fun k=>propext (by rw [g4]; exact ⟨fun h=>h.resolve_right (g2 k),.inl⟩)
  subst this
  exact ⟨C',hx,.inl g1.1⟩
 ·obtain ⟨C1,C2,g1,g2,_,g4⟩:=hh
  have:C'=C1:=funext fun k=>propext (by rw [g4]; exact ⟨fun h=>h.resolve_right (g2 k),.inl⟩)
  subst this
  exact ⟨C',hx,.inr ⟨pre,x,post,hxs,g1.1⟩⟩
section
variable {α β γ δ:Type}
theorem zqp {gf:FuncId} {caps:List Value} {enc:α→List Value} {xs:List α} {ps:List Nat} {assign body:Code} (hRd:Rd w0 K RD0) (hRo:Ro w0 K RO)
  (hg:ev σ x=some (.func (.func gf) #[] caps.toArray)) (hent:∀ args w,(callFunc gf args).run P w=.ok (.enter gf args) w) (hY:ItrR P gf caps enc xs RD)
  (Inv:List α→β→Prop) (LI:List α→β→List Asn) (X:Code→List α→γ→Prop) (LX:Code→List α→γ→List Asn) (σJ:List α→α→β→δ→List (Nat×Value)) (LJ:List α→α→β→δ→List Asn) (b0:β)
  (h0:Inv [] b0) (hs:Splits L (LI [] b0) R) (hS:RdS R RD0 RD) (hps:∀ x,(enc x).length=ps.length) (hpN:∀ p∈ps,p<N)
  (hassign:∀ l r pre e post b w1 K1,xs=pre++e::post→Ext K K1 w0 w1→Ro w1 K1 (RO++[(l,.loop r)])→Inv pre b →
   TC (Fence.wide.inRound l) P w1 K1 N [] (Exit.then (fun a w=>∃ j,St w1 K1 N [] (σJ pre e b j) (LJ pre e b j) a w) (fun _ _ _=>False)) assign (zje ps (enc e) σ) (LI pre b))
  (hbody:∀ l r pre e post b j w1 K1,xs=pre++e::post→Ext K K1 w0 w1→Ro w1 K1 (RO++[(l,.loop r)])→Inv pre b→TC (Fence.wide.inRound l) P w1 K1 N [] (RQ Inv LI X LX (pre++[e]) w1 K1) body (σJ pre e b j) (LJ pre e b j))
  (hdone:∀ d b,Inv xs b→TX w0 K N ({ target:=.collected d,args:=#[] }::dfs) Q .normal σ (R++(LI xs b++[zn8 d])))
  (hstop:∀ d c pre e post b,xs=pre++e::post→X c (pre++[e]) b→TC Fence.wide P w0 K N ({ target:=.collected d,args:=#[] }::dfs) Q c σ (R++(LX c (pre++[e]) b++[zn8 d]))) :
  TC Fence.wide P w0 K N dfs Q (.rangeFunc x ps.toArray assign body) σ L:=by
 intro a w ha hw
 obtain ⟨C1,C2,g1,g2,g3,gx,hstep⟩:=hw.split2 hs
 have hDh:Rd w C1 RD:=hS.rd (w0:=w0) (K:=K) g2 g3 (hRd.ext gx)
 have hlt1:=g1.lt
 have hro1:∀ {C:Nat→Prop} {W:World},Ext K C w0 W→Ro W C RO:=fun {C W} hx p hp=>by
  obtain ⟨h1,h2⟩:=hRo p hp
  refine ⟨hx.1.at h1 h2,fun h => ?_⟩
  rcases hx.2 _ h with h | h
  ·exact h2 h
  ·have:=zcB h1; omega
 refine znU (gf:=gf) (lb:=caps.toArray) (ha.ev hg) hent (hY w (fun k=>k<w.heap.size∧¬ C1 k) (fun A hA=>by
  obtain ⟨C,h1,h2⟩:=hDh A hA
  exact ⟨C,h1,fun k hk=>⟨A.lt h1 k hk,h2 k hk⟩⟩) (fun k h=>h.1)) (fun k h=>⟨h.1,rfl⟩) (Nat.le_refl _) (fun e=>by simp [hps])
  (fun pre C W=>∃ b,Inv pre b∧sepL (LI pre b) C W) (fun c pre C W=>∃ b,X c pre b∧sepL (LX c pre b) C W)
  (fun pre e a1 C W=>∃ b j,Inv pre b∧At N [] (σJ pre e b j) a1∧sepL (LJ pre e b j) C W) ?_ ?_ ?_ C1 (fun k hk=>⟨hlt1 k hk,fun h=>h.2 hk⟩) ⟨b0,h0,g1⟩ ?_ ?_ ?_ ?_
 ·rintro pre C W W' ⟨b,h1,h2⟩ hs hk; exact ⟨b,h1,h2.loc hs hk⟩
 ·rintro c pre C W W' ⟨b,h1,h2⟩ hs hk; exact ⟨b,h1,h2.loc hs hk⟩
 ·rintro pre e a1 _ C W W' ⟨b,j,h1,h2,h3⟩ hs hk; exact ⟨b,j,h1,h2,h3.loc hs hk⟩
 ·rintro l pre e post C W1 hxs hext ⟨b,hb,hi⟩ hn hl ⟨r,hr⟩
  have hx1:Ext K C w0 W1:=gx.trans hext
  refine wpIn_mono (hassign l r pre e post b W1 C hxs hx1 ((hro1 hx1).snoc hr hn) hb _ W1 (ha.zip ps (enc e) hpN) ⟨C,hi,Ext.refl _ _⟩) ?_
  rintro ex a' w' hq
  cases ex with
  | normal =>
   obtain ⟨j,hj,C',hL',hx'⟩:=hq
   exact ⟨C',hx',b,j,hb,hj,hL'⟩
  | _=>exact hq
 ·rintro l pre e post C W1 a1 hxs hext ⟨b,j,hb,hat,hi⟩ hn hl ⟨r,hr⟩
  have hx1:Ext K C w0 W1:=gx.trans hext
  refine wpIn_mono (hbody l r pre e post b j W1 C hxs hx1 ((hro1 hx1).snoc hr hn) hb a1 W1 hat ⟨C,hi,Ext.refl _ _⟩) ?_
  rintro ex a' w' hq
  cases ex with
  | normal=>obtain ⟨b',h1,C',h2,h3⟩:=hq; exact ⟨C',h3,b',h1,h2⟩
  | ret=>obtain ⟨b',h1,C',h2,h3⟩:=hq; exact ⟨C',h3,b',h1,h2⟩
  | exit id=>obtain ⟨b',h1,C',h2,h3⟩:=hq; exact ⟨C',h3,b',h1,h2⟩
  | goto id=>obtain ⟨b',h1,C',h2,h3⟩:=hq; exact ⟨C',h3,b',h1,h2⟩
  | panic _=>exact hq
  | outgrown=>exact hq
 ·rintro d C W hext ⟨b,hb,hi⟩ hd hCd hdef
  refine hdone d b hb _ W ⟨ha.1,by rw [← ha.2.1],ha.2.2⟩ (hstep _ (fun k=>C k∨k=d) W ⟨hext.1,fun k hk => ?_⟩ ?_)
  ·rcases hk with hk | rfl
   ·exact hext.2 k hk
   ·exact .inr ⟨hd,zcB hdef⟩
  ·exact hi.append (sepL.one ⟨fun k=>Iff.rfl,hdef⟩) (fun k hk e=>hCd (e ▸ hk))
 ·rintro d c pre e post C W hxs hext ⟨b,hb,hi⟩ hd hCd hdef
  refine hstop d c pre e post b hxs hb _ W ⟨ha.1,by rw [← ha.2.1],ha.2.2⟩ (hstep _ (fun k=>C k∨k=d) W ⟨hext.1,fun k hk => ?_⟩ ?_)
  ·rcases hk with hk | rfl
   ·exact hext.2 k hk
   ·exact .inr ⟨hd,zcB hdef⟩
  ·exact hi.append (sepL.one ⟨fun k=>Iff.rfl,hdef⟩) (fun k hk e=>hCd (e ▸ hk))
end
end
end Go.Proofs.YtbempdelckaccaaDoor

namespace Go.Proofs.YtbempdelckaccaaDoor
open Go.RowKit Go.Lib
set_option linter.unusedVariables false
set_option linter.unusedSimpArgs false
theorem zoy {α:Type} {enc:α→List Value} {size k:Nat} {vv:Value} {xs:List α} {e:TypeId} (hz:∀ x,(enc x).length=size) {C:Nat→Prop} {w:World} (h:(vec enc e size vv xs).P C w):(zhS enc size vv k xs).P C w :=
 ⟨(zgb hz h).1,fun i x j v h1 h2 h3=>(zgb hz h).2 i x j v (Nat.zero_le _) h2 h3⟩
structure Seat (α:Type) where
 vv:Value
 k:Nat
 L:List α
def zwn {α:Type} (enc:α→List Value) (size:Nat) (hd:Hd) (xs:List α):Asn :=
 exA fun b:{b:Seat α // Vw b.vv b.L size b.k hd.v xs}=>zhS enc size b.1.vv b.1.k b.1.L
theorem zqW {α:Type} {enc:α→List Value} {size:Nat} {e:TypeId} {hd:Hd} {xs:List α} (hlen:∀ x,(enc x).length=size) {C:Nat→Prop} {w:World} (h:(vec enc e size hd.v xs).P C w):(zwn enc size hd xs).P C w :=
 ⟨⟨⟨hd.v,0,xs⟩,zlj h⟩,zgb hlen h⟩
section
variable {α η:Type} {enc:α×η→List Value} {nest nestR:α×η→List Asn} {e:TypeId} {size:Nat} {v:Value} {xs:List α} {zs:List (α×η)} {z:α×η}
def zsA (nestR:α×η→List Asn) (zs:List (α×η)):Asn :=
  ⟨fun C w=>(∀ k,C k→k<w.heap.size)∧∀ z∈zs,∀ A∈nestR z,∃ D,A.P D w∧∀ k,D k→C k,
   fun h k hk=>h.1 k hk,
   fun {C w w'} h hs hk=>⟨fun k hC=>Nat.lt_of_lt_of_le (h.1 k hC) hs,fun z hz A hA=>by
     obtain ⟨D,h1,h2⟩:=h.2 z hz A hA
     exact ⟨D,A.loc h1 hs (fun k hD=>hk k (h2 k hD)),h2⟩⟩⟩
def zti (nest nestR:α×η→List Asn):Prop:=∀ z C w,sepL (nest z) C w→∀ A∈nestR z,∃ D,A.P D w∧∀ k,D k→C k
theorem zpV {C:Nat→Prop} {w:World} (h:sepL (zs.flatMap nest) C w) (hz:z∈zs):∃ D,sepL (nest z) D w∧∀ k,D k→C k:=by
 obtain ⟨i,hi⟩:=List.getElem?_of_mem hz
 obtain ⟨C1,C2,h1,_,_,h4⟩:=(zjD hi).1 h
 exact ⟨C1,h1,fun k hk=>(h4 k).2 (.inl hk)⟩
theorem zpz (hG:zti nest nestR) {C:Nat→Prop} {w:World} (h:(own nest zs).P C w):(zsA nestR zs).P C w :=
 ⟨(own nest zs).lt h,fun z hz A hA=>by
  obtain ⟨D,h1,h2⟩:=zpV (show sepL (zs.flatMap nest) C w from h) hz
  obtain ⟨E,h3,h4⟩:=hG z D w h1 A hA
  exact ⟨E,h3,fun k hk=>h2 k (h4 k hk)⟩⟩
variable {w0:World} {K:Nat→Prop} {RD:List Asn} {i j:Nat}
theorem Rd.openN (hr:Rd w0 K RD) (hi:RD[i]?=some (zhH enc nest e size v xs)) (hlen:∀ z,(enc z).length=size) (hG:zti nest nestR) :
  ∃ zs:List (α×η),zs.map Prod.fst=xs∧Vw v zs size 0 v zs∧Rd w0 K (RD++[zhS enc size v 0 zs,zsA nestR zs]):=by
 obtain ⟨C,h,hk⟩:=hr _ (List.mem_of_getElem? hi)
 obtain ⟨zs,hz,h1⟩:=zqZ C w0 h
 obtain ⟨C1,C2,g1,g2,_,g4⟩:=zkS h1
 refine ⟨zs,hz,zlj g1,hr.append fun B hB => ?_⟩
 rcases List.mem_cons.1 hB with rfl | hB
 ·exact ⟨C1,zgb hlen g1,fun k h=>hk k ((g4 k).2 (.inl h))⟩
 ·rw [List.mem_singleton] at hB
  subst hB
  exact ⟨C2,zpz hG g2,fun k h=>hk k ((g4 k).2 (.inr h))⟩
end
section
variable {α η:Type} {nest:α×η→List Asn} {zs ys:List (α×η)}
end
section
variable {F:Fence} {P:Program} {w0:World} {K:Nat→Prop} {N:Nat} {dfs:List Deferred} {Q:Exit→Act→World→Prop} {σ:List (Nat×Value)} {L:List Asn} {c:Code} {k:Nat} {α η:Type} {enc:α×η→List Value} {nest:α×η→List Asn} {t:TypeId} {p:Value} {m:Option α}
theorem zuw (hk:L[k]?=some (zi7 enc nest t p m)) (h:zuI p m→TC F P w0 K N dfs Q c σ L):TC F P w0 K N dfs Q c σ L:=fun a w ha hw=>by
 obtain ⟨C1,h1,_⟩:=hw.focus hk
 refine h ?_ a w ha hw
 rcases zkW h1 with ⟨rfl,h2⟩ | ⟨x,b,rfl,h2⟩
 ·exact .inl ⟨rfl,h2⟩
 ·exact .inr ⟨rfl,b,h2⟩
end
end Go.Proofs.YtbempdelckaccaaDoor

namespace Go.Proofs.YtbempdelckaccaaDoor
open Go.RowKit Go.Lib
def zfP (z:(List Gapi_Row)×Hd):List Asn:=[zwn zcT 6 z.2 z.1]
theorem zjT:zti zbJ zfP:=by
 intro z C w h A hA
 simp only [zfP,List.mem_cons,List.not_mem_nil,or_false] at hA
 rcases hA with rfl
 ·obtain ⟨D,h1,h2⟩:=zmp h _ (List.mem_of_getElem? (i:=0) rfl); exact ⟨D,zqW zbQ h1,h2⟩
end Go.Proofs.YtbempdelckaccaaDoor

namespace Go.Proofs.YtbempdelckaccaaDoor
open Go.RowKit Go.Lib
def Br (w:World) (base:Nat) (e:TypeId) (v:Value) (b:ByteArray):Prop:=w.ownsRow base e 1 v b.size (strCells b)
theorem Br.nil (w:World) (base:Nat) (e:TypeId):Br w base e (.slice none 0 0) ⟨#[]⟩:=World.ownsRow_nil w base e 1
theorem Br.below {w w':World} {base:Nat} {e:TypeId} {v:Value} {b:ByteArray} (h:Br w base e v b) (hb:Below w.heap.size w w'):Br w' base e v b:=by
 refine ⟨h.1,?_⟩
 rcases h.2 with hn | ⟨g,cap,cur,rfl,h2,h3,rest⟩
 ·exact .inl hn
 ·exact .inr ⟨g,cap,cur,rfl,h2,zpi h3 hb,rest⟩
theorem Br.lt {w:World} {base:Nat} {e:TypeId} {v:Value} {b:ByteArray} (h:Br w base e v b):∀ k,v.ownBlock=some k→base≤k∧k<w.heap.size:=World.ownsRow.lt h
theorem Br.conv {P:Program} {w:World} {base:Nat} {el:TypeId} {v:Value} {b:ByteArray} (h:Br w base el v b) (src dst e:TypeId) (hs:P.underlying src=some (.slice e)) (he:P.underlying e=some (.int .u8)) (hd:P.underlying dst=some .string) :
  (convert src dst v).run P w=.ok (.string b) w:=by
 rcases h.2 with ⟨rfl,h2⟩ | ⟨g,cap,cur,rfl,_,_,_⟩
 ·have hb:b=⟨#[]⟩:=by
   apply ByteArray.ext; exact Array.eq_empty_of_size_eq_zero h2
  rw [hb]; exact run_convert_nil_bytes w src dst e 0 hs he hd
 ·have hl:b.data.toList.length=b.size:=by rw [Array.length_toList]; rfl
  have:=run_convert_bytes_back (P:=P) w src dst e ⟨g,0,none⟩ cap b.data.toList hs he hd (fun j hj=>by
   refine World.ownsRow.cells h rfl j _ ?_
   unfold strCells; rw [List.getElem?_map,List.getElem?_eq_getElem hj]; rfl)
  rw [hl] at this
  rw [this]
end Go.Proofs.YtbempdelckaccaaDoor

namespace Go.Proofs.YtbempdelckaccaaDoor
open Go.RowKit Go.Lib Go.Shelf
attribute [local go_sem] Oper.semAt_some
set_option linter.unusedVariables false
set_option linter.unusedSimpArgs false
def Bld (b:Nat) (bs:ByteArray) (C:Nat→Prop) (w:World):Prop :=
 ∃ p v D,w.heap[b]?=some (.cells #[p,v] 113 (0,0))∧(p=.pointer none∨p=.pointer (some ⟨b,0,none⟩))∧Byt 5 v bs D w∧¬ D b∧C=(fun k=>k=b∨D k)
theorem Bld.local {b:Nat} {bs:ByteArray} {C:Nat→Prop} {w w':World} (h:Bld b bs C w) (hk:∀ k,C k→w'.heap[k]?=w.heap[k]?):Bld b bs C w':=by
 obtain ⟨p,v,D,h1,h2,h3,h4,rfl⟩:=h
 exact ⟨p,v,D,(hk b (.inl rfl)).trans h1,h2,h3.local (fun k h=>hk k (.inr h)),h4,rfl⟩
theorem Bld.lt {b:Nat} {bs:ByteArray} {C:Nat→Prop} {w:World} (h:Bld b bs C w):∀ k,C k→k<w.heap.size:=by
 obtain ⟨p,v,D,h1,h2,h3,h4,rfl⟩:=h
 rintro k (rfl | hk)
 ·exact zcB h1
 ·exact h3.lt k hk
theorem Bld.ext {b:Nat} {bs:ByteArray} {C D D':Nat→Prop} {w w':World} (h:Bld b bs C w) (hx:Ext D D' w w') (hd:∀ k,C k→¬ D k):Bld b bs C w' :=
 h.local (fun k hk=>hx.1.keep k (h.lt k hk) (hd k hk))
theorem Bld.new (w:World):Bld w.heap.size ⟨#[]⟩ (fun k=>k=w.heap.size) (w.alloc (.cells #[.pointer none,.slice none 0 0] 113)) :=
 ⟨_,_,_,World.alloc_heap_new w _,.inl rfl,Byt.nil,by simp,by funext k; simp⟩
end Go.Proofs.YtbempdelckaccaaDoor

namespace Go.Proofs.YtbempdelckaccaaDoor
open Go.RowKit Go.Lib Go.Shelf
attribute [local go_sem] Oper.semAt_some
set_option linter.unusedVariables false
set_option linter.unusedSimpArgs false
theorem Bld.drew {b:Nat} {bs:ByteArray} {C:Nat→Prop} {w:World} (h:Bld b bs C w):Bld b bs C w.drew:=h.local (fun _ _=>rfl)
end Go.Proofs.YtbempdelckaccaaDoor

namespace Go.Proofs.YtbempdelckaccaaDoor
open Go.RowKit Go.Lib Go.Shelf
set_option linter.unusedVariables false
set_option linter.unusedSimpArgs false
end Go.Proofs.YtbempdelckaccaaDoor

namespace Go.Proofs.YtbempdelckaccaaDoor
open Go.RowKit Go.Lib Go.ChangeShapes Go.WideShapes
set_option linter.unusedVariables false
set_option linter.unusedSimpArgs false
theorem FnR.p {P:Program} {f:FuncId} {vs:List Value} {RD:List Asn} {v:Value} (h:FnR P f vs RD [] (fun _:Unit=>v) (fun _=>[])) (w:World) (hr:Rd w (fun _=>False) RD):Calls P f vs.toArray w fun e w'=>e=.returned v∧Below w.heap.size w w' :=
 (h w (fun _=>False) hr (fun _ h=>h)).mono fun e w' ⟨_,h1,C',h2,h3⟩=>⟨h1,h3.toBelow (Nat.le_refl _) (fun _ _ h=>h)⟩
theorem zta {w:World} {b j:Nat} {v:Value} (h:w.cell? ⟨b,j,none⟩=some v):b<w.heap.size:=by
 rcases Nat.lt_or_ge b w.heap.size with h1 | h1
 ·exact h1
 ·have:w.heap[b]?=none:=Array.getElem?_eq_none h1
  simp [World.cell?,this] at h
theorem zsp {α:Type} {enc:α→List Value} {m:α→Value} (hm:∀ x,enc x=[m x]) {w:World} {a:Addr} {ys:List α} {cap:Nat} (hl:ys.length≤cap) (hc:∀ i y,ys[i]?=some y→w.cell? (a.add i)=some (m y)) :
  ∃ vv k L,Vw vv L 1 k (.slice (some a) ys.length cap) ys∧(zhS enc 1 vv k L).P (fun b=>b<w.heap.size) w:=by
 cases ys with
 | nil =>
  refine ⟨.slice none 0 0,0,[],⟨Nat.le_refl _,rfl,_,_,rfl,hl,fun h=>absurd rfl h⟩,fun b hb=>hb,fun i x j v hi hx=>by simp at hx⟩
 | cons y ys =>
  obtain ⟨b,off,spot⟩:=a
  have hspot:spot=none:=by simpa [Addr.add] using World.cell?_spot (hc 0 y rfl)
  subst hspot
  refine ⟨.slice (some ⟨b,0,none⟩) 0 0,off,List.replicate off y++(y::ys),⟨by simp,?_,_,_,rfl,hl,fun _=>by simp [zb7]⟩,fun b hb=>hb,fun i x j v hi hx hv => ?_⟩
  ·rw [List.drop_left' (by simp),List.take_length]
  ·rw [List.getElem?_append_right (by simpa using hi),List.length_replicate] at hx
   have h1:=hc _ _ hx
   rw [add_plain,show off+(i - off)=i by omega] at h1
   rw [hm] at hv
   have hj:j=0:=by
    cases j with
    | zero=>rfl
    | succ j=>simp at hv
   subst hj
   have hv':m x=v:=by simpa using hv
   subst hv'
   show b<w.heap.size∧w.cell? ⟨b,i*1+0,none⟩=some (m x)
   rw [Nat.mul_one,Nat.add_zero]
   exact ⟨zta h1,h1⟩
section
variable {H:Type} {enc:TypeId×Value→H} {P:Program} {w:World} {base:Nat} {held:Bool} {zbW:Nat} {t e:TypeId} {cs:List Value} {x:DataW H×List MemPlace}
theorem see_ints {q:IntKind} (ht:P.underlying t=some (.slice e)) (he:P.underlying e=some (.int q)) (hc:P.cellsOf e=1) (h:DataW.trod enc P w base (fun _=>true) held zbW t cs=some x) :
  ∃ (hd:Hd) (zs:List Int) (vv:Value) (k:Nat) (L:List Int),cs=[hd.v]∧Vw vv L 1 k hd.v zs∧(zhS (znE q) 1 vv k L).P (fun b=>b<w.heap.size) w∧(∀ n∈zs,(Lit.int q n).wf=true)∧((x.1=.nil∧zs=[])∨∃ A B,x.1=.slice A B∧A.length=zs.length):=by
 rcases open_ints ht he hc h with ⟨rfl,rfl⟩ | ⟨a,len,cap,zs,rfl,hb,hl,hm,hz,rfl,hcell,hw⟩
 ·exact ⟨Hd.nil,[],.slice none 0 0,0,[],rfl,⟨Nat.le_refl _,rfl,none,0,rfl,Nat.le_refl _,fun h=>absurd rfl h⟩,⟨fun b hb=>hb,fun i x j v hi hx=>by simp at hx⟩,fun n hn=>(by cases hn),.inl ⟨rfl,rfl⟩⟩
 ·rw [if_pos rfl] at hz
  have hlen:(zs.take len).length=len:=by rw [List.length_take]; omega
  have hr:=zsp (enc:=znE q) (m:=fun x=>.int q x) (fun _=>rfl) (w:=w) (a:=a) (ys:=zs.take len) (cap:=cap) (by omega) (fun i y hy=>by
   rw [List.getElem?_take] at hy
   split at hy
   ·have hi:i<zs.length:=(List.getElem?_eq_some_iff.1 hy).1
    rw [hcell i hi,List.getD,hy]; rfl
   ·cases hy)
  obtain ⟨vv,k,L,h1,h2⟩:=hr
  rw [hlen] at h1
  exact ⟨⟨some a,len,cap⟩,zs.take len,vv,k,L,rfl,h1,h2,fun n hn=>hw n (List.mem_of_mem_take hn),.inr ⟨_,_,rfl,by simp [lits]⟩⟩
theorem zqP {q:IntKind} {fs:Array Field} (ht:P.underlying t=some (.struct fs)) (hfs:fs.toList.map (fun f=>(f.type,f.offset))=[(e,0),(e,1),(e,2),(e,3)]) (hsz:P.cellsOf t=4) (h1:P.cellsOf e=1) (he:P.underlying e=some (.int q)) {sp:Nat→Bool} (h:DataW.trod enc P w base sp held zbW t cs=some x) :
  ∃ a b c d:Int,cs=[.int q a,.int q b,.int q c,.int q d]∧(Lit.int q a).wf=true∧(Lit.int q b).wf=true∧(Lit.int q c).wf=true∧(Lit.int q d).wf=true:=by
 obtain ⟨xs,n,rfl,rfl,hl,hx,hf⟩:=DataW.trod_struct ht h
 rw [hsz] at hl
 have key:∀ i,i<4→∃ z,DataW.trod enc P w base sp held n e ((cs.drop i).take 1)=some z:=by
  intro i hi
  have hg:(fs.toList.map (fun f=>(f.type,f.offset)))[i]?=some (e,i):=by
   rw [hfs]
   have:i=0∨i=1∨i=2∨i=3:=by omega
   rcases this with rfl | rfl | rfl | rfl <;> rfl
  rw [List.getElem?_map] at hg
  cases hq:fs.toList[i]? with
  | none=>rw [hq] at hg; cases hg
  | some f =>
   rw [hq] at hg
   have hfe:(f.type,f.offset)=(e,i):=Option.some.inj hg
   have h2:=hf i f (by rw [← Array.getElem?_toList]; exact hq)
   rw [(Prod.mk.inj hfe).1,(Prod.mk.inj hfe).2,h1] at h2
   have hsz4:fs.size=4:=by have:=congrArg List.length hfs; simpa using this
   rw [List.getElem?_eq_getElem (by omega)] at h2
   exact ⟨_,h2⟩
 match cs,hl with
 | [c0,c1,c2,c3],_ =>
  obtain ⟨z0,k0⟩:=key 0 (by decide)
  obtain ⟨z1,k1⟩:=key 1 (by decide)
  obtain ⟨z2,k2⟩:=key 2 (by decide)
  obtain ⟨z3,k3⟩:=key 3 (by decide)
  obtain ⟨a,ea,_,wa⟩:=DataW.trod_int he k0
  obtain ⟨b,eb,_,wb⟩:=DataW.trod_int he k1
  obtain ⟨c,ec,_,wc⟩:=DataW.trod_int he k2
  obtain ⟨d,ed,_,wd⟩:=DataW.trod_int he k3
  simp at ea eb ec ed
  exact ⟨a,b,c,d,by rw [ea,eb,ec,ed],wa,wb,wc,wd⟩
theorem see_layout {q:IntKind} {fs:Array Field} {v:Value} {d:DataW H} {ps:List MemPlace} {r:Reach} {b0:Nat} {sp:Nat→Bool} (ht:P.underlying t=some (.struct fs)) (hfs:fs.toList.map (fun f=>(f.type,f.offset))=[(e,0),(e,1),(e,2),(e,3)]) (hsz:P.cellsOf t=4) (h1:P.cellsOf e=1) (he:P.underlying e=some (.int q)) (hval:Value.okWide P w r b0 t v) (h:DataW.Trod enc P w base sp held t v d ps) :
  ∃ a b c g:Int,v=.agg #[.int q a,.int q b,.int q c,.int q g]:=by
 obtain ⟨cs,rfl,hcs⟩:=okWide_struct ht hval
 obtain ⟨zbW,h⟩:=h
 have h:DataW.trod enc P w base sp held zbW t cs.toList=some (d,ps):=h
 obtain ⟨a,b,c,g,h2,_⟩:=zqP ht hfs hsz h1 he h
 exact ⟨a,b,c,g,by rw [← h2]⟩
end
end Go.Proofs.YtbempdelckaccaaDoor
