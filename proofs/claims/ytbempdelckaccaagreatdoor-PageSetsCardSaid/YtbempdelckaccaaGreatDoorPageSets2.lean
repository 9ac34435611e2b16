/-
  Texts laid together: Lt, Pcs, Tok, PlA, Ql, PlB, Ob, Vs, PcW, Cls, ClsW, ClsW2, SeqW, RefPcs, Runs, C0, Vow, RefW, RefW3, Ro, Shf, Sf, Op, Ir, Rq, Lr, Bytes, Bld, Gr, Bn, Ar, Cr, Rw, Sh. Nothing is assumed.
-/
import Derived.Test.YtbempdelckaccaaGreatDoorPageSets1
import Derived.Test.YtbempdelckaccaaGreatDoorProg
import Derived.Shelf.Strings.Builder1
import Derived.Shelf.Strings.Builder2
import Derived.Shelf.Strings.Trim
import Derived.Shelf.Small.Utf8
import Derived.Shelf.Small.Strs
import Derived.Shelf.Strings.BuilderF
import Derived.Shelf.Strings.Search1
import Derived.Shelf.Strings.Prefix
import Derived.Shelf.Strings.Runes
import Derived.Shelf.Strings.IndexAny
import Derived.Shelf.Strings.AsciiSet
import Derived.Shelf.Strings.IndexAnyAll
import Derived.Shelf.Bits.Mul64
import Derived.Shelf.Strings.Repeat
import Derived.Shelf.Unicode.DecodeSlow
import Derived.Shelf.Strings.SlTrimAscii
import Derived.Lib.AppendStr
import Derived.Laws.IdiomStrings
import Derived.Lib.BufferRead
import Derived.Lib.Builder
import Derived.Outline
import Derived.Lib.UnsafeStr
import Derived.Lib.MakeNoZero
import Derived.OpenShut
import Derived.SliceStrings
import Derived.ProofKit
set_option maxRecDepth 100000
set_option maxHeartbeats 4000000

namespace Go.Proofs.YtbempdelckaccaaGreatDoor
open Go.RowKit Go.Lib
set_option linter.unusedSimpArgs false
@[ext] structure Gapi_Layout where
 Width:Int
 Height:Int
 Turn:Int
 Every:Int
def zh5 (a b:Gapi_Layout):Bool:=(a.Width==b.Width)&&(a.Height==b.Height)&&(a.Turn==b.Turn)&&(a.Every==b.Every)
theorem ziW (a b:Gapi_Layout):zh5 a b=true↔a=b:=by
 rcases a with ⟨a0,a1,a2,a3⟩
 rcases b with ⟨b0,b1,b2,b3⟩
 simp [zh5,Bool.and_eq_true,and_assoc]
instance:DecidableEq Gapi_Layout:=fun a b=>decidable_of_iff _ (ziW a b)
@[ext] structure Gapi_Row where
 Line:Int
 Stanza:Int
 Part:Int
 Indent:Int
 Number:Int
 Text:ByteArray
def zbf (x:Gapi_Row):List Value:=[.int .i64 x.Line,.int .i64 x.Stanza,.int .i64 x.Part,.int .i64 x.Indent,.int .i64 x.Number,.string x.Text]
theorem za8 (x:Gapi_Row):(zbf x).length=6:=rfl
theorem zdm (x:Gapi_Row):∀ u∈zbf x,u.oneCell'=true:=by
 intro u hu
 simp only [zbf,List.mem_cons,List.not_mem_nil,or_false] at hu
 rcases hu with rfl | rfl | rfl | rfl | rfl | rfl <;> rfl
def zdl (a b:Gapi_Row):Bool:=(a.Line==b.Line)&&(a.Stanza==b.Stanza)&&(a.Part==b.Part)&&(a.Indent==b.Indent)&&(a.Number==b.Number)&&decide (a.Text=b.Text)
theorem zkU (a b:Gapi_Row):zdl a b=true↔a=b:=by
 rcases a with ⟨a0,a1,a2,a3,a4,a5⟩
 rcases b with ⟨b0,b1,b2,b3,b4,b5⟩
 simp [zdl,Bool.and_eq_true,and_assoc]
instance:DecidableEq Gapi_Row:=fun a b=>decidable_of_iff _ (zkU a b)
@[ext] structure Gapi_Span where
 From:Int
 To:Int
def zdS (x:Gapi_Span):List Value:=[.int .i64 x.From,.int .i64 x.To]
theorem zbB (x:Gapi_Span):(zdS x).length=2:=rfl
theorem zcp (x:Gapi_Span):∀ u∈zdS x,u.oneCell'=true:=by
 intro u hu
 simp only [zdS,List.mem_cons,List.not_mem_nil,or_false] at hu
 rcases hu with rfl | rfl <;> rfl
def zjK (a b:Gapi_Span):Bool:=(a.From==b.From)&&(a.To==b.To)
theorem zjT (a b:Gapi_Span):zjK a b=true↔a=b:=by
 rcases a with ⟨a0,a1⟩
 rcases b with ⟨b0,b1⟩
 simp [zjK,Bool.and_eq_true,and_assoc]
instance:DecidableEq Gapi_Span:=fun a b=>decidable_of_iff _ (zjT a b)
@[ext] structure Gapi_Cell where
 Span_From:Int
 Span_To:Int
 Columns:Int
def zeL (x:Gapi_Cell):List Value:=[.int .i64 x.Span_From,.int .i64 x.Span_To,.int .i64 x.Columns]
theorem zbC (x:Gapi_Cell):(zeL x).length=3:=rfl
theorem zgT (x:Gapi_Cell):∀ u∈zeL x,u.oneCell'=true:=by
 intro u hu
 simp only [zeL,List.mem_cons,List.not_mem_nil,or_false] at hu
 rcases hu with rfl | rfl | rfl <;> rfl
def zjL (a b:Gapi_Cell):Bool:=(a.Span_From==b.Span_From)&&(a.Span_To==b.Span_To)&&(a.Columns==b.Columns)
theorem zjU (a b:Gapi_Cell):zjL a b=true↔a=b:=by
 rcases a with ⟨a0,a1,a2⟩
 rcases b with ⟨b0,b1,b2⟩
 simp [zjL,Bool.and_eq_true,and_assoc]
instance:DecidableEq Gapi_Cell:=fun a b=>decidable_of_iff _ (zjU a b)
@[ext] structure Gapi_Spot where
 Err:Int
 At:Int
def zjJ (a b:Gapi_Spot):Bool:=(a.Err==b.Err)&&(a.At==b.At)
theorem zjS (a b:Gapi_Spot):zjJ a b=true↔a=b:=by
 rcases a with ⟨a0,a1⟩
 rcases b with ⟨b0,b1⟩
 simp [zjJ,Bool.and_eq_true,and_assoc]
instance:DecidableEq Gapi_Spot:=fun a b=>decidable_of_iff _ (zjS a b)
@[ext] structure Gapi_Verse where
 Text:ByteArray
 Indent:Int
 Stanza:Int
 In:Int
 Span_From:Int
 Span_To:Int
def zbF (x:Gapi_Verse):List Value:=[.string x.Text,.int .i64 x.Indent,.int .i64 x.Stanza,.int .i64 x.In,.int .i64 x.Span_From,.int .i64 x.Span_To]
theorem zdR (x:Gapi_Verse):(zbF x).length=6:=rfl
theorem zgz (x:Gapi_Verse):∀ u∈zbF x,u.oneCell'=true:=by
 intro u hu
 simp only [zbF,List.mem_cons,List.not_mem_nil,or_false] at hu
 rcases hu with rfl | rfl | rfl | rfl | rfl | rfl <;> rfl
def ziT (a b:Gapi_Verse):Bool:=decide (a.Text=b.Text)&&(a.Indent==b.Indent)&&(a.Stanza==b.Stanza)&&(a.In==b.In)&&(a.Span_From==b.Span_From)&&(a.Span_To==b.Span_To)
theorem zjm (a b:Gapi_Verse):ziT a b=true↔a=b:=by
 rcases a with ⟨a0,a1,a2,a3,a4,a5⟩
 rcases b with ⟨b0,b1,b2,b3,b4,b5⟩
 simp [ziT,Bool.and_eq_true,and_assoc]
instance:DecidableEq Gapi_Verse:=fun a b=>decidable_of_iff _ (zjm a b)
@[ext] structure Gapi_Piece where
 At:Int
 Width:Int
 Rune:Int
 Broken:Bool
def ziV (a b:Gapi_Piece):Bool:=(a.At==b.At)&&(a.Width==b.Width)&&(a.Rune==b.Rune)&&(a.Broken==b.Broken)
theorem zjo (a b:Gapi_Piece):ziV a b=true↔a=b:=by
 rcases a with ⟨a0,a1,a2,a3⟩
 rcases b with ⟨b0,b1,b2,b3⟩
 simp [ziV,Bool.and_eq_true,and_assoc]
instance:DecidableEq Gapi_Piece:=fun a b=>decidable_of_iff _ (zjo a b)
@[ext] structure Gref05_Piece where
 Span_From:Int
 Span_To:Int
 Kind:Int
 Joiner:Bool
 Columns:Int
def zej (x:Gref05_Piece):List Value:=[.int .i64 x.Span_From,.int .i64 x.Span_To,.int .i64 x.Kind,.bool x.Joiner,.int .i64 x.Columns]
theorem zaZ (x:Gref05_Piece):(zej x).length=5:=rfl
theorem zh1 (x:Gref05_Piece):∀ u∈zej x,u.oneCell'=true:=by
 intro u hu
 simp only [zej,List.mem_cons,List.not_mem_nil,or_false] at hu
 rcases hu with rfl | rfl | rfl | rfl | rfl <;> rfl
def zhB (a b:Gref05_Piece):Bool:=(a.Span_From==b.Span_From)&&(a.Span_To==b.Span_To)&&(a.Kind==b.Kind)&&(a.Joiner==b.Joiner)&&(a.Columns==b.Columns)
theorem zij (a b:Gref05_Piece):zhB a b=true↔a=b:=by
 rcases a with ⟨a0,a1,a2,a3,a4⟩
 rcases b with ⟨b0,b1,b2,b3,b4⟩
 simp [zhB,Bool.and_eq_true,and_assoc]
instance:DecidableEq Gref05_Piece:=fun a b=>decidable_of_iff _ (zij a b)
@[ext] structure Gapi_Place where
 Byte:Int
 Rune:Int
 Unit:Int
 Line:Int
 Col:Int
def zen (x:Gapi_Place):List Value:=[.int .i64 x.Byte,.int .i64 x.Rune,.int .i64 x.Unit,.int .i64 x.Line,.int .i64 x.Col]
theorem zgB (x:Gapi_Place):(zen x).length=5:=rfl
theorem zgA (x:Gapi_Place):∀ u∈zen x,u.oneCell'=true:=by
 intro u hu
 simp only [zen,List.mem_cons,List.not_mem_nil,or_false] at hu
 rcases hu with rfl | rfl | rfl | rfl | rfl <;> rfl
def ziU (a b:Gapi_Place):Bool:=(a.Byte==b.Byte)&&(a.Rune==b.Rune)&&(a.Unit==b.Unit)&&(a.Line==b.Line)&&(a.Col==b.Col)
theorem zjn (a b:Gapi_Place):ziU a b=true↔a=b:=by
 rcases a with ⟨a0,a1,a2,a3,a4⟩
 rcases b with ⟨b0,b1,b2,b3,b4⟩
 simp [ziU,Bool.and_eq_true,and_assoc]
instance:DecidableEq Gapi_Place:=fun a b=>decidable_of_iff _ (zjn a b)
@[ext] structure Gplace_ended where
 span_From:Int
 span_To:Int
 end_:Int
 first:Int
def zdL (x:Gplace_ended):List Value:=[.int .i64 x.span_From,.int .i64 x.span_To,.int .i64 x.end_,.int .i64 x.first]
theorem zcT (x:Gplace_ended):(zdL x).length=4:=rfl
theorem zfV (x:Gplace_ended):∀ u∈zdL x,u.oneCell'=true:=by
 intro u hu
 simp only [zdL,List.mem_cons,List.not_mem_nil,or_false] at hu
 rcases hu with rfl | rfl | rfl | rfl <;> rfl
def zhD (a b:Gplace_ended):Bool:=(a.span_From==b.span_From)&&(a.span_To==b.span_To)&&(a.end_==b.end_)&&(a.first==b.first)
theorem zil (a b:Gplace_ended):zhD a b=true↔a=b:=by
 rcases a with ⟨a0,a1,a2,a3⟩
 rcases b with ⟨b0,b1,b2,b3⟩
 simp [zhD,Bool.and_eq_true,and_assoc]
instance:DecidableEq Gplace_ended:=fun a b=>decidable_of_iff _ (zil a b)
@[ext] structure Gpage_best where
 cost:Int
 rows:Int
 to_:Int
def zh7 (x:Gpage_best):List Value:=[.int .i64 x.cost,.int .i64 x.rows,.int .i64 x.to_]
theorem za2 (x:Gpage_best):(zh7 x).length=3:=rfl
def ziS (a b:Gpage_best):Bool:=(a.cost==b.cost)&&(a.rows==b.rows)&&(a.to_==b.to_)
theorem zjl (a b:Gpage_best):ziS a b=true↔a=b:=by
 rcases a with ⟨a0,a1,a2⟩
 rcases b with ⟨b0,b1,b2⟩
 simp [ziS,Bool.and_eq_true,and_assoc]
instance:DecidableEq Gpage_best:=fun a b=>decidable_of_iff _ (zjl a b)
@[ext] structure Gref02_Piece where
 At:Int
 Width:Int
 Rune:Int
def zek (x:Gref02_Piece):List Value:=[.int .i64 x.At,.int .i64 x.Width,.int .i32 x.Rune]
theorem za7 (x:Gref02_Piece):(zek x).length=3:=rfl
theorem zh2 (x:Gref02_Piece):∀ u∈zek x,u.oneCell'=true:=by
 intro u hu
 simp only [zek,List.mem_cons,List.not_mem_nil,or_false] at hu
 rcases hu with rfl | rfl | rfl <;> rfl
def zhC (a b:Gref02_Piece):Bool:=(a.At==b.At)&&(a.Width==b.Width)&&(a.Rune==b.Rune)
theorem zik (a b:Gref02_Piece):zhC a b=true↔a=b:=by
 rcases a with ⟨a0,a1,a2⟩
 rcases b with ⟨b0,b1,b2⟩
 simp [zhC,Bool.and_eq_true,and_assoc]
instance:DecidableEq Gref02_Piece:=fun a b=>decidable_of_iff _ (zik a b)
@[ext] structure T_12_int32 where
 e0:Int
 e1:Int
 e2:Int
 e3:Int
 e4:Int
 e5:Int
 e6:Int
 e7:Int
 e8:Int
 e9:Int
 e10:Int
 e11:Int
def ziR (a b:T_12_int32):Bool:=(a.e0==b.e0)&&(a.e1==b.e1)&&(a.e2==b.e2)&&(a.e3==b.e3)&&(a.e4==b.e4)&&(a.e5==b.e5)&&(a.e6==b.e6)&&(a.e7==b.e7)&&(a.e8==b.e8)&&(a.e9==b.e9)&&(a.e10==b.e10)&&(a.e11==b.e11)
theorem zjk (a b:T_12_int32):ziR a b=true↔a=b:=by
 rcases a with ⟨a0,a1,a2,a3,a4,a5,a6,a7,a8,a9,a10,a11⟩
 rcases b with ⟨b0,b1,b2,b3,b4,b5,b6,b7,b8,b9,b10,b11⟩
 simp [ziR,Bool.and_eq_true,and_assoc]
instance:DecidableEq T_12_int32:=fun a b=>decidable_of_iff _ (zjk a b)
@[ext] structure T_24_uint8 where
 e0:Int
 e1:Int
 e2:Int
 e3:Int
 e4:Int
 e5:Int
 e6:Int
 e7:Int
 e8:Int
 e9:Int
 e10:Int
 e11:Int
 e12:Int
 e13:Int
 e14:Int
 e15:Int
 e16:Int
 e17:Int
 e18:Int
 e19:Int
 e20:Int
 e21:Int
 e22:Int
 e23:Int
@[ext] structure T_20_uint64 where
 e0:Int
 e1:Int
 e2:Int
 e3:Int
 e4:Int
 e5:Int
 e6:Int
 e7:Int
 e8:Int
 e9:Int
 e10:Int
 e11:Int
 e12:Int
 e13:Int
 e14:Int
 e15:Int
 e16:Int
 e17:Int
 e18:Int
 e19:Int
@[ext] structure T_16_utf8_acceptRange where
 e0_lo:Int
 e0_hi:Int
 e1_lo:Int
 e1_hi:Int
 e2_lo:Int
 e2_hi:Int
 e3_lo:Int
 e3_hi:Int
 e4_lo:Int
 e4_hi:Int
 e5_lo:Int
 e5_hi:Int
 e6_lo:Int
 e6_hi:Int
 e7_lo:Int
 e7_hi:Int
 e8_lo:Int
 e8_hi:Int
 e9_lo:Int
 e9_hi:Int
 e10_lo:Int
 e10_hi:Int
 e11_lo:Int
 e11_hi:Int
 e12_lo:Int
 e12_hi:Int
 e13_lo:Int
 e13_hi:Int
 e14_lo:Int
 e14_hi:Int
 e15_lo:Int
 e15_hi:Int
@[ext] structure T_32_uint8 where
 e0:Int
 e1:Int
 e2:Int
 e3:Int
 e4:Int
 e5:Int
 e6:Int
 e7:Int
 e8:Int
 e9:Int
 e10:Int
 e11:Int
 e12:Int
 e13:Int
 e14:Int
 e15:Int
 e16:Int
 e17:Int
 e18:Int
 e19:Int
 e20:Int
 e21:Int
 e22:Int
 e23:Int
 e24:Int
 e25:Int
 e26:Int
 e27:Int
 e28:Int
 e29:Int
 e30:Int
 e31:Int
theorem zjv {x y:Operand} (a b:Gapi_Row) (w:World):(do eqGuard .neq 33 x y (.agg #[.int .i64 a.Line,.int .i64 a.Stanza,.int .i64 a.Part,.int .i64 a.Indent,.int .i64 a.Number,.string a.Text]) (.agg #[.int .i64 b.Line,.int .i64 b.Stanza,.int .i64 b.Part,.int .i64 b.Indent,.int .i64 b.Number,.string b.Text]); binOp .neq 33 (.agg #[.int .i64 a.Line,.int .i64 a.Stanza,.int .i64 a.Part,.int .i64 a.Indent,.int .i64 a.Number,.string a.Text]) (.agg #[.int .i64 b.Line,.int .i64 b.Stanza,.int .i64 b.Part,.int .i64 b.Indent,.int .i64 b.Number,.string b.Text]):Sem Value).run Tryz.prog w=.ok (.bool (!zdl a b)) w :=
 zsT (by as_aux_lemma=>kernel_rfl) (show ((a.Line==b.Line)&&((a.Stanza==b.Stanza)&&((a.Part==b.Part)&&((a.Indent==b.Indent)&&((a.Number==b.Number)&&(decide (a.Text=b.Text)&&true))))))=zdl a b by simp [zdl,Bool.and_assoc]) (zuv (dd:=9999) (by as_aux_lemma=>kernel_rfl) (by as_aux_lemma=>kernel_rfl) (zl5 (ft:=3) (off:=0) (a:=.int .i64 a.Line) (b:=.int .i64 b.Line) (by as_aux_lemma=>kernel_rfl) (fun _=>by kernel_rfl) (fun _=>by kernel_rfl) (zkV Tryz.underlying3) (zl5 (ft:=3) (off:=1) (a:=.int .i64 a.Stanza) (b:=.int .i64 b.Stanza) (by as_aux_lemma=>kernel_rfl) (fun _=>by kernel_rfl) (fun _=>by kernel_rfl) (zkV Tryz.underlying3) (zl5 (ft:=3) (off:=2) (a:=.int .i64 a.Part) (b:=.int .i64 b.Part) (by as_aux_lemma=>kernel_rfl) (fun _=>by kernel_rfl) (fun _=>by kernel_rfl) (zkV Tryz.underlying3) (zl5 (ft:=3) (off:=3) (a:=.int .i64 a.Indent) (b:=.int .i64 b.Indent) (by as_aux_lemma=>kernel_rfl) (fun _=>by kernel_rfl) (fun _=>by kernel_rfl) (zkV Tryz.underlying3) (zl5 (ft:=3) (off:=4) (a:=.int .i64 a.Number) (b:=.int .i64 b.Number) (by as_aux_lemma=>kernel_rfl) (fun _=>by kernel_rfl) (fun _=>by kernel_rfl) (zkV Tryz.underlying3) (zl5 (ft:=9) (off:=5) (a:=.string a.Text) (b:=.string b.Text) (by as_aux_lemma=>kernel_rfl) (fun _=>by kernel_rfl) (fun _=>by kernel_rfl) (zut Tryz.underlying9) (zuu (n:=6) (by as_aux_lemma=>kernel_rfl))))))))) w
def zaP (z:(List Gapi_Row)×Hd):List Value:=[z.2.v]
def zaY (z:(List Gapi_Row)×Hd):List Asn:=[vec zbf 33 6 z.2.v z.1]
theorem zew (z:(List Gapi_Row)×Hd):(zaP z).length=1:=rfl
theorem ziY (z:(List Gapi_Row)×Hd):∀ u∈zaP z,u.oneCell'=true:=by
 intro u hu
 simp only [zaP,List.mem_cons,List.not_mem_nil,or_false] at hu
 rcases hu with rfl <;> rfl
def zbL (z:(List ByteArray)×Hd):List Value:=[z.2.v]
def zbK (z:(List ByteArray)×Hd):List Asn:=[vec zqa 9 1 z.2.v z.1]
theorem zd7 (z:(List ByteArray)×Hd):(zbL z).length=1:=rfl
theorem zjr (z:(List ByteArray)×Hd):∀ u∈zbL z,u.oneCell'=true:=by
 intro u hu
 simp only [zbL,List.mem_cons,List.not_mem_nil,or_false] at hu
 rcases hu with rfl <;> rfl
structure Gpage_Book where
 layout_Width:Int
 layout_Height:Int
 layout_Turn:Int
 layout_Every:Int
 pages:List (List Gapi_Row)
 cost:Int
def zb6 (z:Gpage_Book×Hd):List Value:=[.int .i64 z.1.layout_Width,.int .i64 z.1.layout_Height,.int .i64 z.1.layout_Turn,.int .i64 z.1.layout_Every,z.2.v,.int .i64 z.1.cost]
def zb4 (z:Gpage_Book×Hd):List Asn:=[zgc zaP zaY 43 1 z.2.v z.1.pages]
structure Gpoem_told where
 title:ByteArray
 lines:List Gapi_Verse
 stanzas:List Gapi_Span
structure Gpoem_Poem where
 told_title:ByteArray
 told_lines:List Gapi_Verse
 told_stanzas:List Gapi_Span
 source:ByteArray
def zdc (z:Gpoem_Poem×Hd×Hd):List Value:=[.string z.1.told_title,z.2.1.v,z.2.2.v,.string z.1.source]
def zdb (z:Gpoem_Poem×Hd×Hd):List Asn:=[vec zbF 76 6 z.2.1.v z.1.told_lines,vec zdS 38 2 z.2.2.v z.1.told_stanzas]
structure Gpage_parter where
 rows:List Gapi_Row
 blanks:List Int
 firsts:List Int
 lasts:List Int
 heights:Int
structure Gref17_Poem where
 Title:ByteArray
 Stanzas:List (List ByteArray)
structure Gplace_Map where
 text:ByteArray
 places:List Gapi_Place
 lines:List Gplace_ended
def zeB (z:Gplace_Map×Hd×Hd):List Value:=[.string z.1.text,z.2.1.v,z.2.2.v]
def zez (z:Gplace_Map×Hd×Hd):List Asn:=[vec zen 155 5 z.2.1.v z.1.places,vec zdL 157 4 z.2.2.v z.1.lines]
structure Gpage_turner where
 s:ByteArray
 cells:List Gapi_Cell
 wide:List Int
 ends:List Int
 first:Int
 rest:Int
end Go.Proofs.YtbempdelckaccaaGreatDoor

namespace Go.Proofs.YtbempdelckaccaaGreatDoor
open Go.RowKit Go.Lib
theorem ziD:∀ (P:List Pc) (i:Nat) (l:List UInt8) (x:Pc) (B:List Pc),zdI i l=P++x::B →
  ∃ n,x.i=i+n∧n+x.w≤l.length∧DecOk (l.drop n) x.r x.w∧zdI (i+n) (l.drop n)=x::B∧B=zdI (x.i+x.w) (l.drop (n+x.w))
 | [],i,l,x,B,h=>by
  by_cases hl:l=[]
  ·subst hl; simp [zdi] at h
  ·have hok:=zsP l hl
   have h':=h
   rw [zcF i l hl] at h
   simp only [List.nil_append,List.cons.injEq] at h
   obtain ⟨rfl,hB⟩:=h
   exact ⟨0,by simp,by simpa using hok.le,by simpa using hok,by simpa using h',by simpa using hB.symm⟩
 | p::P,i,l,x,B,h=>by
  by_cases hl:l=[]
  ·subst hl; simp [zdi] at h
  ·have hle:=zl8 l hl
   rw [zcF i l hl] at h
   simp only [List.cons_append,List.cons.injEq] at h
   obtain ⟨n,h1,h2,h3,h4,h5⟩:=ziD P _ _ x B h.2
   refine ⟨(decodeL l).2+n,by omega,by simp at h2; omega,by rw [← List.drop_drop]; exact h3,by rw [← List.drop_drop,← Nat.add_assoc]; exact h4,?_⟩
   rw [h5,List.drop_drop,Nat.add_assoc]
theorem ziC (l:List UInt8) (P:List Pc) (x:Pc) (B:List Pc) (h:pcs l=P++x::B) :
  x.i+x.w≤l.length∧DecOk (l.drop x.i) x.r x.w∧zdI x.i (l.drop x.i)=x::B∧B=zdI (x.i+x.w) (l.drop (x.i+x.w)):=by
 obtain ⟨n,h1,h2,h3,h4,h5⟩:=ziD P 0 l x B h
 have:x.i=n:=by omega
 subst this
 exact ⟨h2,h3,by simpa using h4,h5⟩
theorem zgk (l:List UInt8) (x:Pc) (h:x∈pcs l):1≤x.w∧x.i+x.w≤l.length∧DecOk (l.drop x.i) x.r x.w:=by
 obtain ⟨P,B,hs⟩:=List.append_of_mem h
 obtain ⟨h1,h2,_⟩:=ziC l P x B hs
 exact ⟨h2.pos,h1,h2⟩
end Go.Proofs.YtbempdelckaccaaGreatDoor

namespace Go.Proofs.YtbempdelckaccaaGreatDoor
open Go.RowKit Go.Lib
structure Tok where
 r:Nat
 bs:List UInt8
 deriving DecidableEq
def Tok.broken (t:Tok):Bool:=t.r==65533&&t.bs.length==1
def Tok.valid (t:Tok):Prop:=(t.r<55296∨(57343<t.r∧t.r≤1114111))∧t.bs=encodeRune t.r
def zhl (ts:List Tok):List UInt8:=ts.flatMap Tok.bs
def zlp:Nat→List UInt8→List Tok
 | 0,_=>[]
 | f+1,l=>if l=[] then [] else ⟨(decodeL l).1,l.take (decodeL l).2⟩::zlp f (l.drop (decodeL l).2)
def zli (l:List UInt8):List Tok:=zlp l.length l
theorem zhy (t:Tok) (ts:List Tok):zhl (t::ts)=t.bs++zhl ts:=by simp [zhl]
theorem ze5 (a b:List Tok):zhl (a++b)=zhl a++zhl b:=by simp [zhl]
theorem znm:∀ (f g:Nat) (l:List UInt8),l.length≤f→l.length≤g→zlp f l=zlp g l:=by
 intro f
 induction f with
 | zero =>
  intro g l h1 h2
  have:l=[]:=List.eq_nil_of_length_eq_zero (by omega)
  subst this
  cases g <;> simp [zlp]
 | succ f ih =>
  intro g l h1 h2
  cases g with
  | zero =>
   have:l=[]:=List.eq_nil_of_length_eq_zero (by omega)
   subst this
   simp [zlp]
  | succ g =>
   by_cases hl:l=[]
   ·simp [zlp,hl]
   ·simp only [zlp,hl,if_false]
    have:=zha l
    have hlen:0<l.length:=List.length_pos_iff.2 hl
    rw [ih g _ (by simp; omega) (by simp; omega)]
theorem zir:zli []=[]:=by simp [zli,zlp]
theorem zgd (l:List UInt8) (h:l≠[]):zli l=⟨(decodeL l).1,l.take (decodeL l).2⟩::zli (l.drop (decodeL l).2):=by
 have hlen:0<l.length:=List.length_pos_iff.2 h
 unfold zli
 obtain ⟨n,hn⟩:∃ n,l.length=n+1:=⟨l.length - 1,by omega⟩
 rw [hn]
 simp only [zlp,h,if_false]
 have:=zha l
 rw [znm n (l.drop (decodeL l).2).length _ (by simp; omega) (Nat.le_refl _)]
theorem zfZ {P:List UInt8→Prop} (h0:P []) (h1:∀ l,l≠[]→P (l.drop (decodeL l).2)→P l):∀ l,P l:=by
 have key:∀ (n:Nat) (l:List UInt8),l.length≤n→P l:=by
  intro n
  induction n with
  | zero=>intro l hl; rw [List.eq_nil_of_length_eq_zero (by omega:l.length=0)]; exact h0
  | succ n ih =>
   intro l hl
   by_cases hn:l=[]
   ·rw [hn]; exact h0
   ·have:=zha l
    exact h1 l hn (ih _ (by simp; omega))
 exact fun l=>key l.length l (Nat.le_refl _)
theorem zrg (l:List UInt8):zhl (zli l)=l:=by
 induction l using zfZ with
 | h0=>rw [zir]; rfl
 | h1 l hn ih=>rw [zgd l hn,zhy,ih]; exact List.take_append_drop _ _
theorem zvd (l:List UInt8) (h:l≠[]):(⟨(decodeL l).1,l.take (decodeL l).2⟩:Tok).valid∨(⟨(decodeL l).1,l.take (decodeL l).2⟩:Tok).broken=true:=by
 by_cases hb:(decodeL l).1=65533∧(decodeL l).2=1
 ·right
  have hlen:0<l.length:=List.length_pos_iff.2 h
  simp [Tok.broken,hb.1,hb.2]; omega
 ·left
  exact ⟨zn3 l,(encode_decode l h hb).symm⟩
theorem ztM (l:List UInt8):∀ t∈zli l,t.valid∨t.broken=true:=by
 induction l using zfZ with
 | h0=>rw [zir]; simp
 | h1 l hn ih =>
  rw [zgd l hn]
  intro t ht
  rcases List.mem_cons.1 ht with rfl | ht
  ·exact zvd l hn
  ·exact ih t ht
theorem zuH {t:Tok} (h:t.valid∨t.broken=true):t.bs≠[]:=by
 rcases h with h | h
 ·rw [h.2]; intro e; have:=(zh6 (t.r:Int)).1; rw [e] at this; simp at this
 ·intro e; unfold Tok.broken at h; rw [e] at h; simp at h
def zuF (b:UInt8):Bool:=b.toNat / 64==2
def zsZ:List UInt8→Prop
 | []=>True
 | b::_=>zuF b=false
theorem zm6 {n b0 b1 b2 b3 c1 c2 c3 m:Nat} (h1:n≤1∨b1 / 64≠2) (h2:m≤1∨c1 / 64≠2):decodeN n b0 b1 b2 b3=decodeN m b0 c1 c2 c3:=by
 unfold decodeN
 have e1:¬ (1<n∧b1 / 64=2):=by omega
 have e2:¬ (1<m∧c1 / 64=2):=by omega
 simp only [e1,e2,and_false,false_and,if_false]
theorem zm5 {n b0 b1 b2 b3 c2 c3 m:Nat} (hn:1<n) (hm:1<m) (h1:n≤2∨b2 / 64≠2) (h2:m≤2∨c2 / 64≠2):decodeN n b0 b1 b2 b3=decodeN m b0 b1 c2 c3:=by
 unfold decodeN
 have e1:¬ (2<n∧b2 / 64=2):=by omega
 have e2:¬ (2<m∧c2 / 64=2):=by omega
 simp only [e1,e2,and_false,false_and,if_false,hn,hm,true_and]
theorem zm4 {n b0 b1 b2 b3 c3 m:Nat} (hn:2<n) (hm:2<m) (h1:n≤3∨b3 / 64≠2) (h2:m≤3∨c3 / 64≠2):decodeN n b0 b1 b2 b3=decodeN m b0 b1 b2 c3:=by
 unfold decodeN
 have e1:¬ (3<n∧b3 / 64=2):=by omega
 have e2:¬ (3<m∧c3 / 64=2):=by omega
 have h1n:1<n:=by omega
 have h1m:1<m:=by omega
 simp only [e1,e2,and_false,if_false,hn,hm,h1n,h1m,true_and]
theorem zm3 {n b0 b1 b2 b3 m:Nat} (hn:3<n) (hm:3<m):decodeN n b0 b1 b2 b3=decodeN m b0 b1 b2 b3:=by
 unfold decodeN
 have h1n:1<n:=by omega
 have h1m:1<m:=by omega
 have h2n:2<n:=by omega
 have h2m:2<m:=by omega
 simp only [hn,hm,h1n,h1m,h2n,h2m,true_and]
theorem zmu {x:List UInt8} (h:zsZ x) (n:Nat):n+x.length≤n∨(x.getD 0 0).toNat / 64≠2:=by
 cases x with
 | nil=>simp
 | cons b x=>right; simpa [zsZ,zuF] using h
theorem zsO (l x:List UInt8) (hl:l≠[]) (hx:zsZ x):decodeL (l++x)=decodeL l:=by
 rw [decodeL_N,decodeL_N]
 rcases l with _ | ⟨a,_ | ⟨b,_ | ⟨c,_ | ⟨d,l⟩⟩⟩⟩
 ·exact absurd rfl hl
 ·refine zm6 ?_ (.inl (by simp))
  rcases zmu hx 1 with h | h
  ·left; simp only [List.length_append,List.length_cons,List.length_nil]; omega
  ·right; simpa using h
 ·refine zm5 (by simp) (by simp) ?_ (.inl (by simp))
  rcases zmu hx 2 with h | h
  ·left; simp only [List.length_append,List.length_cons,List.length_nil]; omega
  ·right; simpa using h
 ·refine zm4 (by simp) (by simp) ?_ (.inl (by simp))
  rcases zmu hx 3 with h | h
  ·left; simp only [List.length_append,List.length_cons,List.length_nil]; omega
  ·right; simpa using h
 ·exact zm3 (by simp) (by simp)
theorem zge (l x:List UInt8) (hx:zsZ x):zli (l++x)=zli l++zli x:=by
 induction l using zfZ with
 | h0=>rw [zir]; rfl
 | h1 l hn ih =>
  have hle:=zl8 l hn
  have hne:l++x≠[]:=by simp [hn]
  rw [zgd _ hne,zgd l hn,zsO l x hn hx,List.drop_append_of_le_length hle,ih,List.take_append_of_le_length hle]
  rfl
theorem zjq (r:Nat) (hv:r<55296∨(57343<r∧r≤1114111)) :
  (r≤127∧encodeRuneZ r=[(r:Int)])∨(128≤r∧r≤2047∧encodeRuneZ r=[192+(r:Int) / 64,128+(r:Int) % 64]) ∨
  (2048≤r∧r≤65535∧encodeRuneZ r=[224+(r:Int) / 4096,128+(r:Int) / 64 % 64,128+(r:Int) % 64]) ∨
  (65536≤r∧r≤1114111∧encodeRuneZ r=[240+(r:Int) / 262144,128+(r:Int) / 4096 % 64,128+(r:Int) / 64 % 64,128+(r:Int) % 64]):=by
 by_cases h1:r≤127
 ·exact .inl ⟨h1,encodeRuneZ_one (by omega) (by omega)⟩
 ·by_cases h2:r≤2047
  ·exact .inr (.inl ⟨by omega,h2,encodeRuneZ_two (by omega) (by omega)⟩)
  ·by_cases h3:r≤65535
   ·exact .inr (.inr (.inl ⟨by omega,h3,encodeRuneZ_three (by omega)⟩))
   ·exact .inr (.inr (.inr ⟨by omega,by omega,encodeRuneZ_four (by omega) (by omega)⟩))
theorem zeu (z:Int) (_h0:0≤z) (h1:z<256):(z.toNat.toUInt8).toNat=z.toNat:=by
 simp; omega
theorem zm7 (r:Nat) (hv:r<55296∨(57343<r∧r≤1114111)) (x:List UInt8):decodeL (encodeRune r++x)=(r,(encodeRune r).length):=by
 rw [decodeL_N]
 rcases zjq r hv with ⟨h,e⟩ | ⟨h,h',e⟩ | ⟨h,h',e⟩ | ⟨h,h',e⟩
 ·have hl:encodeRune r=[((r:Int).toNat.toUInt8)]:=by simp only [encodeRune,e,List.map_cons,List.map_nil]
  rw [hl]
  simp only [List.cons_append,List.nil_append,List.getD_cons_zero,List.length_cons]
  rw [zeu _ (by omega) (by omega)]
  unfold decodeN
  simp only [Int.toNat_natCast]
  rw [if_pos (by omega)]
  simp
 ·have hl:encodeRune r=[((192+(r:Int) / 64).toNat.toUInt8),((128+(r:Int) % 64).toNat.toUInt8)]:=by simp only [encodeRune,e,List.map_cons,List.map_nil]
  rw [hl]
  simp only [List.cons_append,List.nil_append,List.getD_cons_zero,List.getD_cons_succ,List.length_cons]
  rw [zeu _ (by omega) (by omega),zeu _ (by omega) (by omega)]
  have a1:(192+(r:Int) / 64).toNat=192+r / 64:=by omega
  have a2:(128+(r:Int) % 64).toNat=128+r % 64:=by omega
  rw [a1,a2]
  unfold decodeN
  have c1:¬ 192+r / 64<128:=by omega
  have c2:(192+r / 64) / 32=6:=by omega
  have c3:(128+r % 64) / 64=2:=by omega
  have c4:(192+r / 64) % 32*64+(128+r % 64) % 64=r:=by omega
  have c5:128≤r:=by omega
  rw [if_neg c1,if_pos ⟨c2,by omega,c3⟩,c4,if_pos c5]
  rfl
 ·have hl:encodeRune r=[((224+(r:Int) / 4096).toNat.toUInt8),((128+(r:Int) / 64 % 64).toNat.toUInt8),((128+(r:Int) % 64).toNat.toUInt8)]:=by simp only [encodeRune,e,List.map_cons,List.map_nil]
  rw [hl]
  simp only [List.cons_append,List.nil_append,List.getD_cons_zero,List.getD_cons_succ,List.length_cons]
  rw [zeu _ (by omega) (by omega),zeu _ (by omega) (by omega),zeu _ (by omega) (by omega)]
  have a1:(224+(r:Int) / 4096).toNat=224+r / 4096:=by omega
  have a2:(128+(r:Int) / 64 % 64).toNat=128+r / 64 % 64:=by omega
  have a3:(128+(r:Int) % 64).toNat=128+r % 64:=by omega
  rw [a1,a2,a3]
  unfold decodeN
  have c1:¬ 224+r / 4096<128:=by omega
  have c2:(224+r / 4096) / 32≠6:=by omega
  have c2':(224+r / 4096) / 16=14:=by omega
  have c3:(128+r / 64 % 64) / 64=2:=by omega
  have c3':(128+r % 64) / 64=2:=by omega
  have c4:(224+r / 4096) % 16*4096+(128+r / 64 % 64) % 64*64+(128+r % 64) % 64=r:=by omega
  have c5:2048≤r:=by omega
  rw [if_neg c1,if_neg (fun h=>c2 h.1),if_pos ⟨c2',⟨by omega,c3⟩,⟨by omega,c3'⟩⟩,c4,if_pos ⟨c5,by omega⟩]
  rfl
 ·have hl:encodeRune r=[((240+(r:Int) / 262144).toNat.toUInt8),((128+(r:Int) / 4096 % 64).toNat.toUInt8),((128+(r:Int) / 64 % 64).toNat.toUInt8),((128+(r:Int) % 64).toNat.toUInt8)]:=by simp only [encodeRune,e,List.map_cons,List.map_nil]
  rw [hl]
  simp only [List.cons_append,List.nil_append,List.getD_cons_zero,List.getD_cons_succ,List.length_cons]
  rw [zeu _ (by omega) (by omega),zeu _ (by omega) (by omega),zeu _ (by omega) (by omega),zeu _ (by omega) (by omega)]
  have a1:(240+(r:Int) / 262144).toNat=240+r / 262144:=by omega
  have a2:(128+(r:Int) / 4096 % 64).toNat=128+r / 4096 % 64:=by omega
  have a2':(128+(r:Int) / 64 % 64).toNat=128+r / 64 % 64:=by omega
  have a3:(128+(r:Int) % 64).toNat=128+r % 64:=by omega
  rw [a1,a2,a2',a3]
  unfold decodeN
  have c1:¬ 240+r / 262144<128:=by omega
  have c2:(240+r / 262144) / 32≠6:=by omega
  have c2':(240+r / 262144) / 16≠14:=by omega
  have c2'':(240+r / 262144) / 8=30:=by omega
  have c3:(128+r / 4096 % 64) / 64=2:=by omega
  have c3':(128+r / 64 % 64) / 64=2:=by omega
  have c3'':(128+r % 64) / 64=2:=by omega
  have c4:(240+r / 262144) % 8*262144+(128+r / 4096 % 64) % 64*4096+(128+r / 64 % 64) % 64*64+(128+r % 64) % 64=r:=by omega
  have c5:65536≤r:=by omega
  rw [if_neg c1,if_neg (fun h=>c2 h.1),if_neg (fun h=>c2' h.1),if_pos ⟨c2'',⟨by omega,c3⟩,⟨by omega,c3'⟩,⟨by omega,c3''⟩⟩,c4,if_pos ⟨c5,by omega⟩]
  rfl
theorem zsf (r:Nat) (hv:r<55296∨(57343<r∧r≤1114111)) (x:List UInt8):zsZ (encodeRune r++x):=by
 rcases zjq r hv with ⟨h,e⟩ | ⟨h,h',e⟩ | ⟨h,h',e⟩ | ⟨h,h',e⟩ <;>
 ·simp only [encodeRune,e,List.map_cons,List.map_nil,List.cons_append,zsZ,zuF,beq_eq_false_iff_ne,ne_eq]
  rw [zeu _ (by omega) (by omega)]
  omega
theorem zpE {t:Tok} (h:t.valid) (x:List UInt8):zli (t.bs++x)=t::zli x:=by
 have hne:t.bs++x≠[]:=by simp [zuH (.inl h)]
 rw [zgd _ hne]
 rw [h.2,zm7 t.r h.1 x,← h.2]
 simp
theorem zol {vs:List Tok} (h:∀ t∈vs,t.valid) (x:List UInt8):zli (zhl vs++x)=vs++zli x:=by
 induction vs with
 | nil=>rfl
 | cons t vs ih =>
  rw [zhy,List.append_assoc,zpE (h t (List.mem_cons_self ..)),ih (fun q hq=>h q (List.mem_cons_of_mem _ hq))]
  rfl
theorem zko {vs:List Tok} (hne:vs≠[]) (h:∀ t∈vs,t.valid) (x:List UInt8):zsZ (zhl vs++x):=by
 cases vs with
 | nil=>exact absurd rfl hne
 | cons t vs =>
  have:=h t (List.mem_cons_self ..)
  rw [zhy,List.append_assoc,this.2]
  exact zsf t.r this.1 _
def zqe (ts:List Tok):Prop:=zli (zhl ts)=ts
theorem zkL {t:Tok} {ts:List Tok} (h:zqe (t::ts)):zqe ts:=by
 unfold zqe at *
 by_cases hn:zhl (t::ts)=[]
 ·rw [hn,zir] at h; cases h
 ·rw [zgd _ hn] at h
  have h1:(⟨(decodeL (zhl (t::ts))).1,(zhl (t::ts)).take (decodeL (zhl (t::ts))).2⟩:Tok)=t:=by injection h
  have h2:zli ((zhl (t::ts)).drop (decodeL (zhl (t::ts))).2)=ts:=by injection h
  have h3:(zhl (t::ts)).take (decodeL (zhl (t::ts))).2=t.bs:=congrArg Tok.bs h1
  have h4:=List.take_append_drop (decodeL (zhl (t::ts))).2 (zhl (t::ts))
  rw [h3] at h4
  have h5:(zhl (t::ts)).drop (decodeL (zhl (t::ts))).2=zhl ts:=by
   rw [zhy] at h4 ⊢
   exact List.append_cancel_left h4
  rw [← h5]; exact h2
theorem zkM {a ts:List Tok} (h:zqe (a++ts)):zqe ts:=by
 induction a with
 | nil=>exact h
 | cons t a ih=>exact ih (zkL h)
inductive Sub:List Tok→List Tok→Prop
 | nil:Sub [] []
 | brk {b:Tok} {ts us:List Tok}:b.broken=true→Sub ts us→Sub (b::ts) (b::us)
 | val {gs vs ts us:List Tok}:gs≠[]→vs≠[]→(∀ t∈gs,t.valid)→(∀ t∈vs,t.valid)→Sub ts us→Sub (gs++ts) (vs++us)
theorem Sub.one {t:Tok} {vs ts us:List Tok} (ht:t.valid) (hn:vs≠[]) (hv:∀ t∈vs,t.valid) (h:Sub ts us):Sub (t::ts) (vs++us) :=
 Sub.val (gs:=[t]) (by simp) hn (by simpa using ht) hv h
theorem Sub.head {ts us:List Tok} (h:Sub ts us):∃ B ts' us',(∀ b∈B,b.broken=true)∧ts=B++ts'∧us=B++us'∧zsZ (zhl ts')∧zsZ (zhl us'):=by
 induction h with
 | nil=>exact ⟨[],[],[],by simp,rfl,rfl,trivial,trivial⟩
 | brk hb _ ih =>
  obtain ⟨B,ts',us',h1,rfl,rfl,h4,h5⟩:=ih
  exact ⟨_::B,ts',us',by simpa [hb] using h1,rfl,rfl,h4,h5⟩
 | @val gs vs ts us h1 h2 h3 h4 _ ih =>
  exact ⟨[],gs++ts,vs++us,by simp,rfl,rfl,by rw [ze5]; exact zko h1 h3 _,by rw [ze5]; exact zko h2 h4 _⟩
theorem Sub.good {ts us:List Tok} (h:Sub ts us) (hg:zqe ts):zqe us:=by
 induction h with
 | nil=>exact hg
 | @brk b ts us hb hs ih =>
  have ih':=ih (zkL hg)
  obtain ⟨B,ts',us',h1,rfl,rfl,h4,h5⟩:=hs.head
  unfold zqe at *
  have hne:b.bs≠[]:=zuH (.inr hb)
  have e1:zhl (b::(B++ts'))=zhl (b::B)++zhl ts':=by rw [← List.cons_append,ze5]
  have e2:zhl (b::(B++us'))=zhl (b::B)++zhl us':=by rw [← List.cons_append,ze5]
  rw [e1,zge _ _ h4] at hg
  rw [e2,zge _ _ h5]
  have g1:zli (zhl ts')=ts':=by
   have:=zkM (a:=B) (ts:=ts') (by
    have hh:zqe (b::(B++ts')):=by unfold zqe; rw [e1,zge _ _ h4]; exact hg
    exact zkL hh)
   exact this
  rw [ze5,zge _ _ h5] at ih'
  have g2:zli (zhl us')=us':=zkM (a:=B) (by unfold zqe; rw [ze5,zge _ _ h5]; exact ih')
  rw [g1,← List.cons_append] at hg
  rw [g2,← List.cons_append]
  rw [List.append_cancel_right hg]
 | @val gs vs ts us h1 h2 h3 h4 _ ih =>
  unfold zqe
  rw [ze5,zol h4,show zli (zhl us)=us from ih (zkM hg)]
def place:Nat→List Tok→List Pc
 | _,[]=>[]
 | i,t::ts=>⟨i,t.bs.length,t.r⟩::place (i+t.bs.length) ts
theorem zqY (l:List UInt8):∀ i,zdI i l=place i (zli l):=by
 induction l using zfZ with
 | h0=>intro i; rw [zir,zdi]; rfl
 | h1 l hn ih =>
  intro i
  have hle:=zl8 l hn
  have e:(l.take (decodeL l).2).length=(decodeL l).2:=by simp; omega
  rw [zcF i l hn,zgd l hn,place,ih,e]
end Go.Proofs.YtbempdelckaccaaGreatDoor

namespace Go.Proofs.YtbempdelckaccaaGreatDoor
open Go.RowKit Go.Lib
set_option linter.unusedVariables false
set_option linter.unusedSimpArgs false
section
variable {R S:Type} {c:Prop} [Decidable c] {o x z:Option R} {p:Option S} {f:S→Option R} {b:Bool} {y:Option R}
theorem zbl (h:c) (ho:o=x):grd c o=x:=(zun h).trans ho
theorem zaJ {a:S} (h:p=some a) (hf:f a=x):zah p f=x:=(zsU h).trans hf
theorem zaC (hb:b=true) (h:x=z):zay b x y=z:=(zuJ hb).trans h
theorem zaw (hb:b=false) (h:y=z):zay b x y=z:=(zuK hb).trans h
theorem zbs {T:Type} {t:T→Option R} {k:T} (h:t k=x):zbk t k=x:=h
theorem zb5 {T:Type} {bot:T} {step:T→T} {n:Nat}:zaE bot step (n+1)=step (zaE bot step n):=rfl
theorem zoz (k:Nat) (h:k≤1000):∃ n,zbN=n+k∧18446744073709550000≤n:=⟨18446744073709551616 - k,by unfold zbN; omega,by omega⟩
end
def vr (r:Int):Prop:=(0≤r∧r<55296)∨(57343<r∧r≤1114111)
instance (r:Int):Decidable (vr r):=by unfold vr; infer_instance
def wd (r:Int):Int:=if vr r then (if r<128 then 1 else if r<2048 then 2 else if r<65536 then 3 else 4) else 0
end Go.Proofs.YtbempdelckaccaaGreatDoor

namespace Go.Proofs.YtbempdelckaccaaGreatDoor
open Go.RowKit Go.Lib
set_option linter.unusedVariables false
set_option linter.unusedSimpArgs false
section
variable {R X A B:Type} {xs:List X}
theorem zcj {k:Nat} {x:X} (h:xs[k]?=some x):zbm xs (k:Int)=some x:=zcv h
theorem zow {k:Nat} {x:X} (h:xs[k]?=some x):decide ((k:Int)<(xs.length:Int))=true:=decide_eq_true (by have:=(List.getElem?_eq_some_iff.1 h).1; omega)
theorem zw3:decide ((xs.length:Int)<(xs.length:Int))=false:=decide_eq_false (by omega)
end
theorem zbM {n:Nat} (h:n≤4611686018427387904):n<zbN:=by unfold zbN; omega
end Go.Proofs.YtbempdelckaccaaGreatDoor

namespace Go.Proofs.YtbempdelckaccaaGreatDoor
open Go.RowKit Go.Lib
set_option linter.unusedVariables false
set_option linter.unusedSimpArgs false
def byI (l:List UInt8) (i:Nat):Int:=((l.getD i 0).toNat:Int)
theorem zuo {s:ByteArray} {a i:Nat} (h:a+i<s.size):zjg s ((a:Int)+(i:Int))=some (byI (s.data.toList.drop a) i):=by
 rw [zmT (n:=a+i) (by omega) h]
 have e:(s.data.toList.drop a).getD i 0=s[a+i]:=by
  rw [List.getD_eq_getElem?_getD,List.getElem?_drop,List.getElem?_eq_getElem (by simpa using h)]
  simp; rfl
 unfold byI; rw [e]
def zxR (l:List UInt8):Nat→Int
 | 1=>byI l 0
 | 2=>(byI l 0 - 192)*64+byI l 1 - 128
 | 3=>((byI l 0 - 224)*64+byI l 1 - 128)*64+byI l 2 - 128
 | 4=>(((byI l 0 - 240)*64+byI l 1 - 128)*64+byI l 2 - 128)*64+byI l 3 - 128
 | _=>0
def acc (s:ByteArray) (a n:Nat):Prop:=vr (zxR (s.data.toList.drop a) n)∧wd (zxR (s.data.toList.drop a) n)=n∧Utf8.encode (zxR (s.data.toList.drop a) n)=zb8 s a ((a:Int)+n)
theorem zgU (s:ByteArray) (a n:Nat):(zb8 s a ((a:Int)+n)).data.toList=(s.data.toList.drop a).take n:=by
 unfold zb8
 rw [extract_data]
 simp only [Int.toNat_natCast,show ((a:Int)+(n:Int)).toNat=a+n by omega]
 rw [show a+n - a=n by omega]
def pcG (p:Pc):Gapi_Piece:=⟨p.i,p.w,p.r,p.broken⟩
end Go.Proofs.YtbempdelckaccaaGreatDoor

namespace Go.Proofs.YtbempdelckaccaaGreatDoor
open Go.RowKit Go.Lib
set_option linter.unusedVariables false
set_option linter.unusedSimpArgs false
def Rd (w:World) (K:Nat→Prop) (RD:List Asn):Prop:=∀ A∈RD,∃ C,A.P C w∧∀ k,C k→¬ K k
theorem Rd.nil {w:World} {K:Nat→Prop}:Rd w K []:=fun A h=>by cases h
theorem Rd.ext {w0 w:World} {K C:Nat→Prop} {RD:List Asn} (h:Rd w0 K RD) (hx:Ext K C w0 w):Rd w C RD:=fun A hA=>by
 obtain ⟨D,h1,h2⟩:=h A hA
 have hlt:=A.lt h1
 refine ⟨D,A.loc h1 hx.1.size (fun k hk=>hx.1.keep k (hlt k hk) (h2 k hk)),fun k hk hc => ?_⟩
 rcases hx.2 k hc with h | h
 ·exact h2 k hk h
 ·have:=hlt k hk; omega
theorem Rd.append {w:World} {K:Nat→Prop} {A B:List Asn} (h1:Rd w K A) (h2:Rd w K B):Rd w K (A++B):=fun X hX=>by
 rcases List.mem_append.1 hX with h | h
 ·exact h1 X h
 ·exact h2 X h
theorem Rd.at {w0 w:World} {K:Nat→Prop} {L RD:List Asn} {A:Asn} {i:Nat} (h:Rd w0 K RD) (hw:Holds w0 K L w) (hi:RD[i]?=some A):∃ C,A.P C w:=by
 obtain ⟨C,_,hx⟩:=hw
 obtain ⟨D,h1,_⟩:=h.ext hx A (List.mem_of_getElem? hi)
 exact ⟨D,h1⟩
theorem Rd.more {w:World} {K:Nat→Prop} {RD As:List Asn} {A:Asn} {i:Nat} (h:Rd w K RD) (hi:RD[i]?=some A) (hE:∀ C,A.P C w→∀ B∈As,∃ D,B.P D w∧∀ k,D k→C k):Rd w K (RD++As):=by
 refine h.append fun B hB => ?_
 obtain ⟨C,h1,h2⟩:=h A (List.mem_of_getElem? hi)
 obtain ⟨D,h3,h4⟩:=hE C h1 B hB
 exact ⟨D,h3,fun k hk=>h2 k (h4 k hk)⟩
theorem znu {w:World}:∀ {L:List Asn} {C:Nat→Prop},sepL L C w→∀ B∈L,∃ D,B.P D w∧∀ k,D k→C k
 | [],_,_,B,hB=>by cases hB
 | A::L,C,⟨C1,C2,h1,h2,h3,h4⟩,B,hB=>by
  rcases List.mem_cons.1 hB with rfl | hB
  ·exact ⟨C1,h1,fun k hk=>(h4 k).2 (.inl hk)⟩
  ·obtain ⟨D,g1,g2⟩:=znu h2 B hB
   exact ⟨D,g1,fun k hk=>(h4 k).2 (.inr (g2 k hk))⟩
inductive RdS (R RD0:List Asn):List Asn→Prop
 | nil:RdS R RD0 []
 | own {A:Asn} {As R' RD:List Asn} (hs:Splits R As R') (hE:∀ C w,sepL As C w→A.P C w) (h:RdS R RD0 RD):RdS R RD0 (A::RD)
 | ro {A:Asn} {RD:List Asn} (i:Nat) (hi:RD0[i]?=some A) (h:RdS R RD0 RD):RdS R RD0 (A::RD)
theorem RdS.rd {w0 w:World} {K C1 C2:Nat→Prop} {R RD0 RD:List Asn} (h:RdS R RD0 RD) (hR:sepL R C2 w) (hd:∀ k,C1 k→¬ C2 k) (h0:Rd w C1 RD0):Rd w C1 RD:=by
 induction h with
 | nil=>exact Rd.nil
 | @own A As R' RD hs hE h ih =>
  intro B hB
  rcases List.mem_cons.1 hB with rfl | hB
  ·obtain ⟨D1,D2,g1,g2,g3,g4⟩:=hs C2 w hR
   exact ⟨D1,hE D1 w g1,fun k hk hc=>hd k hc ((g4 k).2 (.inl hk))⟩
  ·exact ih B hB
 | @ro A RD i hi h ih =>
  intro B hB
  rcases List.mem_cons.1 hB with rfl | hB
  ·exact h0 _ (List.mem_of_getElem? hi)
  ·exact ih B hB
def FnR (P:Program) (f:FuncId) (vs:List Value) (RD As:List Asn) {β:Type} (V:β→Value) (Bs:β→List Asn):Prop :=
 ∀ w C,Rd w C RD→FnW P f vs As V Bs w C
section
variable {F:Fence} {P:Program} {w0:World} {K:Nat→Prop} {N:Nat} {dfs:List Deferred} {ops:Array Oper} {Q:Exit→Act→World→Prop} {rest:List Oper} {σ σ':List (Nat×Value)} {L L' R As Bs:List Asn} {o:Oper} {v:Value}
 {d:Nat} {t:TypeId} {op:Op} {ty:TypeId} {pos:String} {aft:Array Edge} {g:Option (Nat×Bool)} {x y z:Operand} {c c1 c2:Code} {k:Nat} {A B:Asn} {RO:List (Nat×Obj)} {RD RD0:List Asn} {e:TypeId} {ex:Exit}
theorem FnR.intro {f:FuncId} {fn:Func} {vs:List Value} {β:Type} {V:β→Value} {Bs:β→List Asn} (hf:P.funcs[f]?=some fn) (hb:fn.body=some c) (hn:fn.ntmps=N) (hN:vs.length≤N)
  (h:∀ w0 K,Rd w0 K RD→TC Fence.wide P w0 K N [] (bodyPostM Fence.wide 0 P fn (FR P V Bs w0 K)) c (zhc vs) As):FnR P f vs RD As V Bs :=
 fun w C hR=>FnW.intro hf hb hn hN (h w C hR)
theorem zlc [WideF F] {xs:List Operand} {ats:Array TypeId} {f:FuncId} {first cap:Array Value} {vs vs':List Value} {β:Type} {V:β→Value} {Bs:β→List Asn} {dst:Option Nat} (hRd:Rd w0 K RD0)
  (hg:gd ops σ g=some true) (hx:ev σ x=some (.func (.func f) first cap)) (hxs:evL σ xs=some vs) (hv:first.toList++vs++cap.toList=vs')
  (hent:∀ args w,(callFunc f args).run P w=.ok (.enter f args) w) (hF:FnR P f vs' RD As V Bs) (hs:Splits L As R) (hS:RdS R RD0 RD)
  (h:∀ b a w a',a'=a.put dst (V b)→At N dfs σ a→Holds w0 K (R++Bs b) w→wpListIn F 0 P ops Q rest a' w) :
  TO F P w0 K N dfs ops Q (⟨dst,.call { callee:=.value x,args:=xs.toArray,argTypes:=ats },ty,pos,aft,g⟩::rest) σ L:=by
 intro a w ha hw
 simp only [wpListIn,zgR (o:=⟨dst,.call { callee:=.value x,args:=xs.toArray,argTypes:=ats },ty,pos,aft,g⟩) ha hg,if_true]
 refine ⟨fun f _=>WideF.fn f,?_⟩
 have h1:(execOp a.eval ⟨dst,.call { callee:=.value x,args:=xs.toArray,argTypes:=ats },ty,pos,aft,g⟩).run P w=.ok (.enter f vs'.toArray) w:=by
  have e:first++vs.toArray++cap=vs'.toArray:=by rw [← hv]; simp
  simp only [execOp,resolve,List.map_toArray,ha.evL hxs,ha.ev hx,Deferred.ofValue,Sem.run_bind,Sem.run_pure,Result.andThen_ok,invoke,e,hent]
 rw [Oper.semAt_plain F _ _ (by simp),h1]
 refine ⟨(fun h=>by rw [WideF.depth (F:=F)] at h; cases h),?_⟩
 obtain ⟨C1,C2,hA,g2,g3,hx0,hstep⟩:=hw.split2 hs
 have hRd1:Rd w C1 RD0:=hRd.ext hx0
 refine WideF.calls ((hF w C1 (hS.rd (w0:=w0) (K:=K) g2 g3 hRd1) hA).mono ?_)
 rintro e w' ⟨b,rfl,C',hB,hx'⟩
 exact h b a w' _ rfl ha (hstep _ _ _ hx' hB)
theorem zft [WideF F] {xs:List Operand} {ats:Array TypeId} {f:FuncId} {first cap:Array Value} {vs vs':List Value} {β:Type} {V:β→Value} {Bs:β→List Asn} (hRd:Rd w0 K RD0)
  (hg:gd ops σ g=some true) (hd:d<N) (hx:ev σ x=some (.func (.func f) first cap)) (hxs:evL σ xs=some vs) (hv:first.toList++vs++cap.toList=vs')
  (hent:∀ args w,(callFunc f args).run P w=.ok (.enter f args) w) (hF:FnR P f vs' RD As V Bs) (hs:Splits L As R) (hS:RdS R RD0 RD)
  (h:∀ b,TO F P w0 K N dfs ops Q rest ((d,V b)::σ) (R++Bs b)) :
  TO F P w0 K N dfs ops Q (⟨some d,.call { callee:=.value x,args:=xs.toArray,argTypes:=ats },ty,pos,aft,g⟩::rest) σ L :=
 zlc hRd hg hx hxs hv hent hF hs hS fun b a w a' ha' ha hw=>by subst ha'; exact h b _ _ (ha.put hd _) hw
theorem zch [WideF F] {xs:List Operand} {ats:Array TypeId} {f:FuncId} {first cap:Array Value} {vs vs':List Value} (hRd:Rd w0 K RD0)
  (hg:gd ops σ g=some true) (hd:d<N) (hx:ev σ x=some (.func (.func f) first cap)) (hxs:evL σ xs=some vs) (hv:first.toList++vs++cap.toList=vs')
  (hent:∀ args w,(callFunc f args).run P w=.ok (.enter f args) w) (hF:FnR P f vs' RD [] (fun _:Unit=>v) (fun _=>[])) (hS:RdS L RD0 RD)
  (h:TO F P w0 K N dfs ops Q rest ((d,v)::σ) L) :
  TO F P w0 K N dfs ops Q (⟨some d,.call { callee:=.value x,args:=xs.toArray,argTypes:=ats },ty,pos,aft,g⟩::rest) σ L :=
 zlc hRd hg hx hxs hv hent hF Splits.nil hS fun b a w a' ha' ha hw=>by
  subst ha'
  rw [List.append_nil] at hw
  exact h _ _ (ha.put hd _) hw
section
variable {i:Nat}
theorem zbw [WideF F] {b j:Nat} {l:List Value} {e:TypeId} (hr:Rd w0 K RD) (hi:RD[i]?=some (cells b l e)) (hT:zcr P t) (hg:gd ops σ g=some true) (hd:d<N) (hx:ev σ x=some (.pointer (some ⟨b,j,none⟩))) (hj:l[j]?=some v)
  (h:TO F P w0 K N dfs ops Q rest ((d,v)::σ) L):TO F P w0 K N dfs ops Q (⟨some d,.load t x,ty,pos,aft,g⟩::rest) σ L:=by
 obtain ⟨dd,hu,hrow⟩:=hT
 exact zdB hg hd (by simp) (fun a w ha hw=>by
  obtain ⟨C,hC⟩:=hr.at hw hi
  have hc:w.cell? ⟨b,j,none⟩=some v:=znb hC.2 (by simpa using hj)
  cases dd <;> simp_all [execOp,ha.ev hx,Instr.loadAt,Instr.sureAddr,loadVar,isAgg,Sem.run_bind,run_underlying hu]) h
variable {α:Type} {enc:α→List Value} {size:Nat} {vv:Value} {xs:List α}
theorem zmn {w:World} {C:Nat→Prop} (h:(vec enc e size vv xs).P C w):Vw vv xs size 0 vv xs:=by
 have hw:Holds w (fun _=>False) [vec enc e size vv xs] w→Vw vv xs size 0 vv xs:=fun hh=>zki (k:=0) hh rfl
 have:Holds w C [vec enc e size vv xs] w:=⟨C,sepL.one h,Ext.refl _ _⟩
 exact zki (k:=0) this rfl
theorem Rd.vw {w:World} (hr:Rd w K RD) (hi:RD[i]?=some (vec enc e size vv xs)):Vw vv xs size 0 vv xs:=by
 obtain ⟨C,hC,_⟩:=hr _ (List.mem_of_getElem? hi)
 exact zmn hC
theorem zcI [WideF F] {n j off:Nat} {q:α} (hr:Rd w0 K RD) (hi:RD[i]?=some (vec enc e size vv xs)) (hT:zcr P t) (hz:∀ x,(enc x).length=size) (hg:gd ops σ g=some true) (hd:d<N) (hx:ev σ x=some (.pointer (some ⟨zbY vv,off,none⟩)))
  (hq:xs[n]?=some q) (ho:off=n*size+j) (hj:j<size) (hv:(enc q)[j]?=some v) (h:TO F P w0 K N dfs ops Q rest ((d,v)::σ) L) :
  TO F P w0 K N dfs ops Q (⟨some d,.load t x,ty,pos,aft,g⟩::rest) σ L:=by
 subst ho
 obtain ⟨dd,hu,hr'⟩:=hT
 refine zdB hg hd (by simp) (fun a w ha hw => ?_) h
 obtain ⟨C,hC⟩:=hr.at hw hi
 have hV:Vec enc e size vv xs C w:=hC
 have hc:=hV.cellAt hz hq hj hv
 have h1:=ha.ev hx
 cases dd <;> simp_all [execOp,Instr.loadAt,Instr.sureAddr,loadVar,isAgg,Sem.run_bind,run_underlying hu]
theorem zeN [WideF F] {m j off n:Nat} {q:α} {cs:List Value} (hr:Rd w0 K RD) (hi:RD[i]?=some (vec enc e size vv xs)) (hT:zhI P t n) (hz:∀ x,(enc x).length=size) (hg:gd ops σ g=some true) (hd:d<N) (hx:ev σ x=some (.pointer (some ⟨zbY vv,off,none⟩)))
  (hq:xs[m]?=some q) (ho:off=m*size+j) (hcs:((enc q).drop j).take n=cs) (hn:cs.length=n)
  (h:TO F P w0 K N dfs ops Q rest ((d,.agg cs.toArray)::σ) L):TO F P w0 K N dfs ops Q (⟨some d,.load t x,ty,pos,aft,g⟩::rest) σ L:=by
 subst ho; subst hn
 obtain ⟨dd,hu,hr',hi'⟩:=hT
 refine zdB hg hd (by simp) (fun a w ha hw => ?_) h
 obtain ⟨C,hC⟩:=hr.at hw hi
 have hV:Vec enc e size vv xs C w:=hC
 have hc:w.rangeAt (zbY vv) (m*size+j) cs:=fun n u hn=>by
  rw [← hcs] at hn
  rw [List.getElem?_take] at hn
  split at hn
  ·rw [List.getElem?_drop] at hn
   have hl:j+n<size:=by rw [← hz q]; exact (List.getElem?_eq_some_iff.1 hn).1
   have:=hV.cellAt hz hq hl hn
   rwa [← Nat.add_assoc] at this
  ·cases hn
 simp only [execOp,ha.ev hx,Sem.run_bind,run_loadAt_mid w _ _ t cs dd hc hu hr' hi']; rfl
end
end
section
variable {α η:Type} {enc:α×η→List Value} {nest:α×η→List Asn} {t:TypeId} {p:Value} {x:α}
def zmP (enc:α×η→List Value) (nest:α×η→List Asn) (t:TypeId) (p:Value):Option α→Asn
 | none=>zvO (p=.pointer none)
 | some x=>exA fun bh:Nat×η=>zlj (zvO (p=.pointer (some ⟨bh.1,0,none⟩))::cells bh.1 (enc (x,bh.2)) t::nest (x,bh.2))
theorem fact_sep {q:Prop} {L:List Asn} {C:Nat→Prop} {w:World}:sepL (zvO q::L) C w↔q∧sepL L C w:=by
 constructor
 ·rintro ⟨C1,C2,⟨h1,hq⟩,h2,h3,h4⟩
  have:C=C2:=funext fun k=>propext ⟨fun h=>((h4 k).1 h).resolve_left (h1 k),fun h=>(h4 k).2 (.inr h)⟩
  subst this
  exact ⟨hq,h2⟩
 ·rintro ⟨hq,h⟩
  exact ⟨fun _=>False,C,⟨fun _ h=>h,hq⟩,h,fun _ h=>h.elim,fun k=>by simp⟩
theorem pobj_some {C:Nat→Prop} {w:World}:(zmP enc nest t p (some x)).P C w↔∃ b h,p=.pointer (some ⟨b,0,none⟩)∧sepL (cells b (enc (x,h)) t::nest (x,h)) C w:=by
 constructor
 ·rintro ⟨⟨b,h⟩,hh⟩
  obtain ⟨h1,h2⟩:=fact_sep.1 hh
  exact ⟨b,h,h1,h2⟩
 ·rintro ⟨b,h,h1,h2⟩
  exact ⟨⟨b,h⟩,fact_sep.2 ⟨h1,h2⟩⟩
theorem zud {b:Nat} {hd:η} {w:World} {C:Nat→Prop} (h:sepL (cells b (enc (x,hd)) t::nest (x,hd)) C w):(zmP enc nest t (.pointer (some ⟨b,0,none⟩)) (some x)).P C w:=pobj_some.2 ⟨b,hd,rfl,h⟩
theorem zjz {b:Nat} {hd:η}:Entl (cells b (enc (x,hd)) t::nest (x,hd)) (fun _:Unit=>[zmP enc nest t (.pointer (some ⟨b,0,none⟩)) (some x)]) (fun _=>True):=fun C w h=>⟨(),trivial,sepL.one1.2 (zud h)⟩
theorem zlT {m:Option α} {C:Nat→Prop} {w:World} (h:(zmP enc nest t p m).P C w):(m=none∧p=.pointer none)∨(∃ x b,m=some x∧p=.pointer (some ⟨b,0,none⟩)):=by
 cases m with
 | none=>exact .inl ⟨rfl,h.2⟩
 | some x=>obtain ⟨b,_,h2,_⟩:=pobj_some.1 h; exact .inr ⟨x,b,rfl,h2⟩
end
end Go.Proofs.YtbempdelckaccaaGreatDoor

namespace Go.Proofs.YtbempdelckaccaaGreatDoor
open Go.RowKit Go.Lib
set_option linter.unusedVariables false
set_option linter.unusedSimpArgs false
def zfW (s:ByteArray) (k:Nat):Nat:=match (pcs s.data.toList)[k]? with
 | some p=>p.i
 | none=>s.size
theorem zpS {s:ByteArray} {k:Nat} {p:Pc} (h:(pcs s.data.toList)[k]?=some p):zfW s k=p.i:=by simp [zfW,h]
theorem zpR (s:ByteArray):zfW s 0=0:=by
 unfold zfW
 by_cases h:s.data.toList=[]
 ·have:s.size=0:=by have:=congrArg List.length h; simpa using this
  simp [h,pcs,zdi,this]
 ·simp [pcs,zcF 0 _ h]
theorem zpT {s:ByteArray} {k:Nat} {p:Pc} (h:(pcs s.data.toList)[k]?=some p):zfW s (k+1)=p.i+p.w∧zdI p.i (s.data.toList.drop p.i)=p::(pcs s.data.toList).drop (k+1):=by
 have hk:k<(pcs s.data.toList).length:=(List.getElem?_eq_some_iff.1 h).1
 have he:pcs s.data.toList=(pcs s.data.toList).take k++p::(pcs s.data.toList).drop (k+1):=by
  have h1:=List.drop_eq_getElem_cons hk
  have h2:(pcs s.data.toList)[k]=p:=(List.getElem?_eq_some_iff.1 h).2
  rw [h2] at h1
  rw [← h1,List.take_append_drop]
 obtain ⟨q1,q2,q3,q4⟩:=ziC s.data.toList _ p _ he
 have hlen:s.data.toList.length=s.size:=by rw [Array.length_toList]; rfl
 refine ⟨?_,q3⟩
 unfold zfW
 have hget:(pcs s.data.toList)[k+1]?=((pcs s.data.toList).drop (k+1))[0]?:=by simp
 rw [hget,q4]
 by_cases hd':s.data.toList.drop (p.i+p.w)=[]
 ·rw [hd',zdi]
  have h5:=congrArg List.length hd'
  simp only [List.length_drop,List.length_nil,hlen] at h5
  obtain ⟨_,h6,_⟩:=zgk s.data.toList p (List.mem_of_getElem? h)
  simp; omega
 ·rw [zcF _ _ hd']; simp
section
variable {F:Fence} {P:Program} {w0:World} {K:Nat→Prop} {N:Nat} {dfs:List Deferred} {ops:Array Oper} {Q:Exit→Act→World→Prop} {rest:List Oper} {σ:List (Nat×Value)} {L:List Asn}
 {d:Nat} {t:TypeId} {ty:TypeId} {pos:String} {aft:Array Edge} {g:Option (Nat×Bool)} {x:Operand} {k:Nat} {s:ByteArray}
theorem zfF [WideF F] (ht:P.underlying t=some .string) (hg:gd ops σ g=some true) (hd:d<N) (hx:ev σ x=some (.string s))
  (h:∀ b,TO F P w0 K N dfs ops Q rest ((d,.pointer (some ⟨b,0,none⟩))::σ) (L++[obj b (.stringIter s (zfW s 0))])):TO F P w0 K N dfs ops Q (⟨some d,.range t x,ty,pos,aft,g⟩::rest) σ L :=
 zfU hg (by simp) fun a w ha hw=>⟨.pointer (some ⟨w.heap.size,0,none⟩),w.alloc (.stringIter s 0),by simp [execOp,ha.ev hx,Instr.range,run_underlying ht,Sem.run_bind],h _ _ _ (ha.put hd _) (by rw [zpR]; exact hw.alloc _)⟩
theorem zf9 [WideF F] {it m:Nat} {p:Pc} (hg:gd ops σ g=some true) (hd:d<N) (hx:ev σ x=some (.pointer (some ⟨it,0,none⟩))) (hk:L[k]?=some (obj it (.stringIter s (zfW s m)))) (hp:(pcs s.data.toList)[m]?=some p)
  (h:TO F P w0 K N dfs ops Q rest ((d,.tuple #[.bool true,.int .i64 p.i,.int .i32 p.r])::σ) (L.set k (obj it (.stringIter s (zfW s (m+1)))))):TO F P w0 K N dfs ops Q (⟨some d,.next x true,ty,pos,aft,g⟩::rest) σ L:=by
 refine zfU hg (by simp) fun a w ha hw => ?_
 have hit:=hw.obj hk
 rw [zpS hp] at hit
 obtain ⟨h1,h2⟩:=zpT hp
 have hmem:=List.mem_of_getElem? hp
 obtain ⟨g1,g2,_⟩:=zgk s.data.toList p hmem
 have hlen:s.data.toList.length=s.size:=by rw [Array.length_toList]; rfl
 obtain ⟨r,wd,W1,e1,e2,e3,e4,e5,e6,e7,e8⟩:=znN P w it s p.i hit (by omega)
 rw [h2] at e6
 have hpe:p=⟨p.i,wd,r⟩:=(List.cons.inj e6).1
 have hw':p.w=wd:=congrArg Pc.w hpe
 have hr:p.r=r:=congrArg Pc.r hpe
 obtain ⟨C1,c1,c2⟩:=hw.focus hk
 refine ⟨.tuple #[.bool true,.int .i64 p.i,.int .i32 p.r],W1,by rw [hr]; simp [execOp,ha.ev hx,e1,Sem.run_bind],h _ _ (ha.put hd _) (c2 _ C1 W1 ⟨?_,fun j hj=>.inl hj⟩ ⟨c1.1,by rw [h1,hw']; exact e3⟩)⟩
 exact e2.weaken (fun i _ hi=>by subst hi; exact (c1.1 _).2 rfl)
theorem zga [WideF F] {it m:Nat} (hg:gd ops σ g=some true) (hd:d<N) (hx:ev σ x=some (.pointer (some ⟨it,0,none⟩))) (hk:L[k]?=some (obj it (.stringIter s (zfW s m)))) (hm:(pcs s.data.toList).length≤m)
  (h:TO F P w0 K N dfs ops Q rest ((d,.tuple #[.bool false])::σ) L):TO F P w0 K N dfs ops Q (⟨some d,.next x true,ty,pos,aft,g⟩::rest) σ L:=by
 refine zfU hg (by simp) fun a w ha hw => ?_
 have hit:=hw.obj hk
 have e:zfW s m=s.size:=by simp [zfW,List.getElem?_eq_none hm]
 rw [e] at hit
 exact ⟨_,w,by simp [execOp,ha.ev hx,(znO P w it s s.size hit (by omega)).1,Sem.run_bind],h _ _ (ha.put hd _) hw⟩
end
end Go.Proofs.YtbempdelckaccaaGreatDoor

namespace Go.Proofs.YtbempdelckaccaaGreatDoor
open Go.RowKit Go.Lib Go.Shelf
attribute [local go_sem] Oper.semAt_some zqk zlG zlH
set_option linter.unusedVariables false
theorem zfH {a b:Bool} (h:a=b):Ending.returned (.bool a)=.returned (.bool b):=by rw [h]
theorem zmH {k:IntKind} {a b:Int} (h:a=b):Ending.returned (.int k a)=.returned (.int k b):=by rw [h]
end Go.Proofs.YtbempdelckaccaaGreatDoor

namespace Go.Proofs.YtbempdelckaccaaGreatDoor
open Go.RowKit Go.Lib
def zrp (r:Int):Bool:=decide (r % 2=0)
def zjH (r:Int):Prop :=
 (65≤r∧r≤90)∨(0xC0≤r∧r≤0xDE∧r≠0xD7)∨(((0x100≤r∧r≤0x137)∨(0x14A≤r∧r≤0x177))∧r % 2=0)∨(0x139≤r∧r≤0x148∧r % 2=1)∨r=0x178 ∨
 (0x179≤r∧r≤0x17D∧r % 2=1)∨(0x386≤r∧r≤0x38F∧r≠0x387∧r≠0x38B∧r≠0x38D)∨(0x391≤r∧r≤0x3AB∧r≠0x3A2)∨(0x400≤r∧r≤0x42F)
instance (r:Int):Decidable (zjH r):=by unfold zjH; infer_instance
def zpX (r:Int):Bool:=decide (zjH r)
def zjC (r:Int):Prop :=
 (97≤r∧r≤122)∨(0xDF≤r∧r≤0xFF∧r≠0xF7)∨(((0x100≤r∧r≤0x137)∨(0x14A≤r∧r≤0x177))∧r % 2=1)∨r=0x138∨r=0x149∨r=0x17F∨r=0x390 ∨
 (0x139≤r∧r≤0x148∧r % 2=0)∨(0x17A≤r∧r≤0x17E∧r % 2=0)∨(0x3AC≤r∧r≤0x3CE)∨(0x430≤r∧r≤0x45F)
instance (r:Int):Decidable (zjC r):=by unfold zjC; infer_instance
def zpG (r:Int):Bool:=decide (zjC r)
def zph (r:Int):Bool:=zpX r||zpG r
def zyh (r:Int):Int :=
 if r=0xFF then 0xFF - 0x178
 else if r<0x100∨(0x3B1≤r∧r≤0x3CB)∨(0x430≤r∧r≤0x44F) then 0x20
 else if r≤0x17F then 1
 else if r=0x3AC then 0x3AC - 0x386
 else if 0x3AD≤r∧r≤0x3AF then 0x25
 else if r=0x3CC then 0x40
 else if r=0x3CD∨r=0x3CE then 0x3F
 else 0x50
def zsE (r:Int):Int :=
 if r<0∨(0xD800≤r∧r≤0xDFFF)∨0x10FFFF<r then 0
 else if zph r then 1
 else if 0x300≤r∧r≤0x36F then 2
 else if 48≤r∧r≤57 then 3
 else if r=10∨r=13 then 4
 else if r=9∨r=32∨r=0xA0∨r=0x202F∨r=0x205F∨r=0x3000 then 5
 else if r=45∨(0x2010≤r∧r≤0x2015) then 6
 else if r=34∨r=39∨r=0xAB∨r=0xBB∨r=0x2039∨r=0x203A then 7
 else if r=33∨r=44∨r=46∨r=58∨r=59∨r=63∨r=0xA1∨r=0xB7∨r=0xBF∨r=0x2026 then 8
 else if 0x2000≤r∧r≤0x200A then 5
 else if 0x2018≤r∧r≤0x201F then 7
 else if r<0x20∨(0x7F≤r∧r≤0x9F)∨(0x200B≤r∧r≤0x200F)∨r=0xFEFF then 9
 else 10
def kind (r:Int):Int:=zsE r
theorem ziJ (r:Int):zpX r=true↔zjH r:=by simp [zpX]
theorem zit (r:Int):zpG r=true↔zjC r:=by simp [zpG]
end Go.Proofs.YtbempdelckaccaaGreatDoor

namespace Go.Proofs.YtbempdelckaccaaGreatDoor
open Go.RowKit Go.Lib Go.Shelf
set_option linter.unusedVariables false
set_option linter.unusedSimpArgs false
theorem zyi (r:Int) (h0 : -2147483648≤r) (h1:r≤2147483647):(bits BinOp.and IntKind.i32 r 1==0)=zrp r:=by
 have hk:bits .and .i32 r 1=r % 2:=by
  have h1:(BitVec.ofInt 32 1).toNat=2 ^ 1 - 1:=by decide
  have key:(BitVec.ofInt 32 r &&& BitVec.ofInt 32 1).toNat=(r % ((2 ^ 32:Nat):Int)).toNat % 2 ^ 1:=by
   rw [BitVec.toNat_and,BitVec.toNat_ofInt,h1,Nat.and_two_pow_sub_one_eq_mod]
  show IntKind.i32.wrap ((BitVec.ofInt 32 r &&& BitVec.ofInt 32 1).toNat:Nat)=r % 2
  rw [key,IntKind.wrap_i32]
  omega
 rw [hk,zrp,Bool.eq_iff_iff]
 simp
theorem zpt (r:Int) (w:World) (h0 : -2147483648≤r) (h1:r≤2147483647) :
  Calls Tryz.prog 141 #[.int .i32 r] w fun e w'=>e=.returned (.bool (zrp r))∧w=w':=by
 go_enter Tryz.func141,Tryz.ntmps141
 go_wp2
 go_ret
 exact ⟨zfH (zyi r h0 h1),rfl⟩
set_option maxHeartbeats 1000000 in
theorem zrb (r:Int) (w:World) (h0 : -2147483648≤r) (h1:r≤2147483647) :
  Calls Tryz.prog 127 #[.int .i32 r] w fun e w'=>e=.returned (.bool (zpX r))∧w=w':=by
 go_enter Tryz.func127,Tryz.ntmps127
 go_wp2_with (go_at_call 141; refine (zpt _ _ (by omega) (by omega)).mono ?_; rintro e w' ⟨rfl,rfl⟩)
 all_goals
  go_ret
  refine ⟨zfH ?_,rfl⟩
  (go_light; rw [Bool.eq_iff_iff]; (try simp only [ziJ,zjH,zrp,decide_eq_true_eq,bne_iff_ne,ne_eq,Bool.not_eq_true',decide_eq_false_iff_not,Bool.and_eq_true,Bool.or_eq_true,Bool.or_eq_false_iff,Bool.and_eq_false_iff,bne_eq_false_iff_eq,beq_iff_eq,beq_eq_false_iff_ne,Bool.false_eq_true,false_iff,true_iff,iff_true,iff_false,Bool.not_eq_false',Bool.not_true,Bool.not_false] at *); omega)
set_option maxHeartbeats 1000000 in
theorem zqA (r:Int) (w:World) (h0 : -2147483648≤r) (h1:r≤2147483647) :
  Calls Tryz.prog 128 #[.int .i32 r] w fun e w'=>e=.returned (.bool (zpG r))∧w=w':=by
 go_enter Tryz.func128,Tryz.ntmps128
 go_wp2_with (go_at_call 141; refine (zpt _ _ (by omega) (by omega)).mono ?_; rintro e w' ⟨rfl,rfl⟩)
 all_goals
  go_ret
  refine ⟨zfH ?_,rfl⟩
  (go_light; rw [Bool.eq_iff_iff]; (try simp only [zit,zjC,zrp,decide_eq_true_eq,bne_iff_ne,ne_eq,Bool.not_eq_true',decide_eq_false_iff_not,Bool.and_eq_true,Bool.or_eq_true,Bool.or_eq_false_iff,Bool.and_eq_false_iff,bne_eq_false_iff_eq,beq_iff_eq,beq_eq_false_iff_ne,Bool.false_eq_true,false_iff,true_iff,iff_true,iff_false,Bool.not_eq_false',Bool.not_true,Bool.not_false] at *); omega)
theorem zpW (r:Int) (w:World) (h0 : -2147483648≤r) (h1:r≤2147483647) :
  Calls Tryz.prog 103 #[.int .i32 r] w fun e w'=>e=.returned (.bool (zph r))∧w=w':=by
 go_enter Tryz.func103,Tryz.ntmps103
 go_wp2_with (first | (go_at_call 127; refine (zrb _ _ (by omega) (by omega)).mono ?_; rintro e w' ⟨rfl,rfl⟩) | (go_at_call 128; refine (zqA _ _ (by omega) (by omega)).mono ?_; rintro e w' ⟨rfl,rfl⟩))
 all_goals
  go_ret
  refine ⟨zfH ?_,rfl⟩
  go_light
  simp_all [zph]
theorem zsB (r:Int) (w:World) (h0 : -2147483648≤r) (h1:r≤2147483647) :
  Calls Tryz.prog 104 #[.int .i32 r] w fun e w'=>e=.returned (.bool (decide (0x300≤r∧r≤0x36F)))∧w=w':=by
 go_enter Tryz.func104,Tryz.ntmps104
 go_wp2
 all_goals
  go_ret
  refine ⟨zfH ?_,rfl⟩
  (go_light; rw [Bool.eq_iff_iff]; simp only [decide_eq_true_eq,bne_iff_ne,ne_eq,Bool.not_eq_true',decide_eq_false_iff_not,Bool.and_eq_true,Bool.or_eq_true,Bool.or_eq_false_iff,Bool.and_eq_false_iff,bne_eq_false_iff_eq,beq_iff_eq,beq_eq_false_iff_ne,Bool.false_eq_true,false_iff,true_iff,iff_true,iff_false,Bool.not_eq_false',Bool.not_true,Bool.not_false] at *; omega)
end Go.Proofs.YtbempdelckaccaaGreatDoor

namespace Go.Proofs.YtbempdelckaccaaGreatDoor
open Go.RowKit Go.Lib Go.Shelf
set_option linter.unusedVariables false
set_option linter.unusedSimpArgs false
theorem zpi (r:Int) (w:World) (h0 : -2147483648≤r) (h1:r≤2147483647) :
  Calls Tryz.prog 71 #[.int .i32 r] w fun e w'=>e=.returned (.int .i64 (kind r))∧w=w':=by
 go_enter Tryz.func71,Tryz.ntmps71
 go_wp2_with (first | (go_at_call 103; refine (zpW _ _ (by omega) (by omega)).mono ?_; rintro e w' ⟨rfl,rfl⟩) | (go_at_call 104; refine (zsB _ _ (by omega) (by omega)).mono ?_; rintro e w' ⟨rfl,rfl⟩))
 all_goals
  go_ret
  refine ⟨zmH ?_,rfl⟩
  go_light
  try simp only [decide_eq_true_eq,bne_iff_ne,ne_eq,Bool.not_eq_true',decide_eq_false_iff_not,Bool.and_eq_true,Bool.or_eq_true,Bool.or_eq_false_iff,Bool.and_eq_false_iff,bne_eq_false_iff_eq,beq_iff_eq,beq_eq_false_iff_ne,Bool.false_eq_true,false_iff,true_iff,iff_true,iff_false,Bool.not_eq_false',Bool.not_true,Bool.not_false] at *
  grind [kind,zsE]
def zdA (b:Bool) (r:Int):Int:=if b then 11 else kind r
theorem zvH (i wd r:Int) (b:Bool) (w:World) (h0 : -2147483648≤r) (h1:r≤2147483647) :
  Calls Tryz.prog 35 #[.agg #[.int .i64 i,.int .i64 wd,.int .i32 r,.bool b]] w fun e w'=>e=.returned (.int .i64 (zdA b r))∧Below w.heap.size w w':=by
 cases b
 ·go_enter Tryz.func35,Tryz.ntmps35
  go_wp2_with (go_at_call 71; refine (zpi _ _ (by omega) (by omega)).mono ?_; rintro e w' ⟨rfl,rfl⟩)
  go_ret
  exact ⟨zmH (by simp [zdA]),(Below.refl _ _).alloc (Nat.le_refl _) _⟩
 ·go_enter Tryz.func35,Tryz.ntmps35
  go_wp2_with (go_at_call 71; refine (zpi _ _ (by omega) (by omega)).mono ?_; rintro e w' ⟨rfl,rfl⟩)
  go_ret
  exact ⟨zmH (by simp [zdA]),(Below.refl _ _).alloc (Nat.le_refl _) _⟩
end Go.Proofs.YtbempdelckaccaaGreatDoor

namespace Go.Proofs.YtbempdelckaccaaGreatDoor
open Go.RowKit Go.Lib Go.Shelf
attribute [local go_sem] Oper.semAt_some zqk zlG zlH
set_option linter.unusedVariables false
set_option linter.unusedSimpArgs false
end Go.Proofs.YtbempdelckaccaaGreatDoor

namespace Go.Proofs.YtbempdelckaccaaGreatDoor
open Go.RowKit Go.Lib Go.Shelf
attribute [local go_sem] Oper.semAt_some
set_option linter.unusedVariables false
set_option linter.unusedSimpArgs false
theorem zgP (l:List UInt8):∀ (n:Nat) (D:List Pc) (p:Pc) (B:List Pc),D.length≤n→pcs l=D++p::B→D.length≤p.i
 | 0,D,p,B,hn,h=>by omega
 | n+1,D,p,B,hn,h=>by
  rcases List.eq_nil_or_concat D with rfl | ⟨D,q,rfl⟩
  ·simp
  ·rw [List.concat_eq_append] at h hn ⊢
   have h1:=zgP l n D q (p::B) (by simp at hn; omega) (by rw [h]; simp)
   obtain ⟨_,hok,_,h4⟩:=ziC l D q (p::B) (by rw [h]; simp)
   have:=hok.pos
   have h5:p.i=q.i+q.w:=by
    by_cases hd:l.drop (q.i+q.w)=[]
    ·rw [hd,zdi] at h4; simp at h4
    ·rw [zcF _ _ hd] at h4
     simp only [List.cons.injEq] at h4
     rw [h4.1]
   rw [List.length_append,h5]
   simp only [List.length_singleton]; omega
end Go.Proofs.YtbempdelckaccaaGreatDoor

namespace Go.Proofs.YtbempdelckaccaaGreatDoor
open Go.RowKit Go.Lib
structure Rn where
 f:Nat
 t:Nat
 k:Int
 deriving DecidableEq
end Go.Proofs.YtbempdelckaccaaGreatDoor

namespace Go.Proofs.YtbempdelckaccaaGreatDoor
open Go.RowKit Go.Lib
set_option linter.unusedVariables false
theorem zwZ (i wd r:Int) (b:Bool) (h0 : -2147483648≤r) (h1:r≤2147483647):FnP Tryz.prog 35 [.agg #[.int .i64 i,.int .i64 wd,.int .i32 r,.bool b]] (.int .i64 (zdA b r)):=fun w=>zvH i wd r b w h0 h1
theorem Rw.vec {α:Type} {enc:α→List Value} {e:TypeId} {size:Nat} {v:Value} {L:List α} {w w':World} (h:Rw enc w' w.heap.size e size v L) (hb:Below w.heap.size w w') :
  ∃ C',sepL [vec enc e size v L] C' w'∧Ext (fun _=>False) C' w w':=by
 refine ⟨fun k=>v.ownBlock=some k,sepL.one ⟨zuO h (Nat.zero_le _),rfl⟩,(zoV hb).weaken (fun i hi h=>by omega),fun k hk=>.inr ?_⟩
 rcases h.shape with ⟨rfl,_⟩ | ⟨g,cap,rfl,h1,h2,_⟩
 ·simp [Value.ownBlock] at hk
 ·simp [Value.ownBlock] at hk; omega
end Go.Proofs.YtbempdelckaccaaGreatDoor

namespace Go.Proofs.YtbempdelckaccaaGreatDoor
open Go.RowKit Go.Lib Go.Shelf
set_option linter.unusedVariables false
set_option linter.unusedSimpArgs false
def vowelRunes:List Int:=[0x101,0x103,0x105,0x113,0x115,0x117,0x119,0x11b,0x129,0x12b,0x12d,0x12f,0x131,0x14d,0x14f,0x151,0x153,0x169,0x16b,0x16d,0x16f,0x171,0x173,0x177,
 0x390,0x3ac,0x3ad,0x3ae,0x3af,0x3b0,0x3b1,0x3b5,0x3b7,0x3b9,0x3bf,0x3c5,0x3c9,0x3ca,0x3cb,0x3cc,0x3cd,0x3ce,
 0x430,0x435,0x438,0x43e,0x443,0x44b,0x44d,0x44e,0x44f,0x450,0x451,0x454,0x456,0x457,0x45d]
def vowelS:ByteArray:=⟨#[196,129,196,131,196,133,196,147,196,149,196,151,196,153,196,155,196,169,196,171,196,173,196,175,196,177,197,141,197,143,197,145,197,147,197,169,197,171,197,173,197,175,197,177,197,179,197,183,206,144,206,172,206,173,206,174,206,175,206,176,206,177,206,181,206,183,206,185,206,191,207,133,207,137,207,138,207,139,207,140,207,141,207,142,208,176,208,181,208,184,208,190,209,131,209,139,209,141,209,142,209,143,209,144,209,145,209,148,209,150,209,151,209,157]⟩
theorem zjA:(pcs vowelS.data.toList).map (fun p=>(p.r:Int))=vowelRunes:=by decide +kernel
def VowRel (w:World) (x:Int) (wr:World):Prop :=
 ∃ pre pos,pcs vowelS.data.toList=pre++zdI pos (vowelS.data.toList.drop pos)∧pos≤vowelS.size∧(∀ p∈pre,(Pc.r p:Int)≠x)∧Below w.heap.size w wr∧wr.heap[w.heap.size]?=some (.stringIter vowelS pos)
theorem VowRel.start (w:World) (x:Int):VowRel w x (w.iter vowelS 0) :=
 ⟨[],0,rfl,Nat.zero_le _,by simp,(Below.refl _ _).alloc (Nat.le_refl _) _,World.iter_heap w vowelS 0⟩
theorem VowRel.round {P:Program} {w wr:World} {x:Int} (h:VowRel w x wr) :
  (∃ (pos r:Nat) (W1:World),(∀ ty,(Instr.next (.pointer (some ⟨w.heap.size,0,none⟩)) true ty).run P wr=.ok (.tuple #[.bool true,.int .i64 pos,.int .i32 r]) W1)∧Below w.heap.size w W1 ∧
   (((r:Int)=x∧vowelRunes.contains x=true)∨((r:Int)≠x∧VowRel w x W1∧vowelS.size - W1.iterPos w.heap.size<vowelS.size - wr.iterPos w.heap.size))) ∨
  ((∀ ty,(Instr.next (.pointer (some ⟨w.heap.size,0,none⟩)) true ty).run P wr=.ok (.tuple #[.bool false]) wr)∧Below w.heap.size w wr∧vowelRunes.contains x=false):=by
 obtain ⟨pre,pos,hx,hpos,hpre,hb,hit⟩:=h
 by_cases hlt:pos<vowelS.size
 ·obtain ⟨r,wd,W1,hn,hf,hit1,hsz,hok,hp,hle,h1⟩:=znN P wr w.heap.size vowelS pos hit hlt
  have hb1:Below w.heap.size w W1:=hb.trans (hf.toBelow hb.size (by intro k hk; omega))
  refine .inl ⟨pos,r,W1,hn,hb1,?_⟩
  rw [hp] at hx
  by_cases he:(r:Int)=x
  ·refine .inl ⟨he,?_⟩
   rw [← zjA,hx,List.contains_iff_mem,List.mem_map]
   exact ⟨⟨pos,wd,r⟩,by simp,he⟩
  ·refine .inr ⟨he,⟨pre++[⟨pos,wd,r⟩],pos+wd,by rw [hx]; simp,hle,?_,hb1,hit1⟩,?_⟩
   ·intro p hp
    rcases List.mem_append.1 hp with h | h
    ·exact hpre p h
    ·simp at h; subst h; exact he
   ·rw [zlY hit,zlY hit1]; omega
 ·obtain ⟨hn,hp⟩:=znO P wr w.heap.size vowelS pos hit hlt
  refine .inr ⟨hn,hb,?_⟩
  rw [hp,List.append_nil] at hx
  rw [← zjA,hx,← Bool.not_eq_true,List.contains_iff_mem,List.mem_map]
  rintro ⟨p,hm,he⟩
  exact hpre p hm he
end Go.Proofs.YtbempdelckaccaaGreatDoor

namespace Go.Proofs.YtbempdelckaccaaGreatDoor
open Go.RowKit Go.Lib Go.Shelf
set_option linter.unusedVariables false
set_option linter.unusedSimpArgs false
def inB (r a b:Int):Bool:=decide (a≤r∧r≤b)
theorem zkv (r a b:Int) (w:World) :
  Calls Tryz.prog 129 #[.int .i32 r,.int .i32 a,.int .i32 b] w fun e w'=>e=.returned (.bool (inB r a b))∧w=w':=by
 go_enter Tryz.func129,Tryz.ntmps129
 go_wp2
 all_goals
  go_ret
  refine ⟨zfH ?_,rfl⟩
  (go_light; rw [Bool.eq_iff_iff]; simp only [inB,decide_eq_true_eq,bne_iff_ne,ne_eq,Bool.not_eq_true',decide_eq_false_iff_not,Bool.and_eq_true,Bool.or_eq_true,Bool.or_eq_false_iff,Bool.and_eq_false_iff,bne_eq_false_iff_eq,beq_iff_eq,beq_eq_false_iff_ne,Bool.false_eq_true,false_iff,true_iff,iff_true,iff_false,Bool.not_eq_false',Bool.not_true,Bool.not_false] at *; omega)
theorem zpL (r:Int) (w:World) (h0 : -2147483648≤r) (h1:r≤2147483647) :
  Calls Tryz.prog 130 #[.int .i32 r] w fun e w'=>e=.returned (.bool (zpX r))∧w=w':=by
 by_cases hn:0≤r
 ·go_enter Tryz.func130,Tryz.ntmps130
  go_wp2_with (first | (go_at_call 129; refine (zkv _ _ _ _).mono ?_; rintro e w' ⟨rfl,rfl⟩))
  all_goals
   go_ret
   refine ⟨zfH ?_,rfl⟩
   (go_light; rw [Bool.eq_iff_iff,ziJ]; simp only [inB,zjH,decide_eq_true_eq,bne_iff_ne,ne_eq,Bool.not_eq_true',decide_eq_false_iff_not,Bool.and_eq_true,Bool.or_eq_true,Bool.or_eq_false_iff,Bool.and_eq_false_iff,bne_eq_false_iff_eq,beq_iff_eq,beq_eq_false_iff_ne,Bool.false_eq_true,false_iff,true_iff,iff_true,iff_false,Bool.not_eq_false',Bool.not_true,Bool.not_false] at *; omega)
 ·have i1:∀ a b:Int,0≤a→inB r a b=false:=by intro a b ha; simp [inB]; omega
  have hm:zpX r=false:=by rw [Bool.eq_false_iff]; intro h; rw [ziJ] at h; unfold zjH at h; omega
  go_enter Tryz.func130,Tryz.ntmps130
  go_wp2_with (first | (go_at_call 129; refine (zkv _ _ _ _).mono ?_; rintro e w' ⟨rfl,rfl⟩))
  all_goals
   go_ret
   refine ⟨zfH ?_,rfl⟩
   (go_light; rw [Bool.eq_iff_iff,ziJ]; simp only [inB,zjH,decide_eq_true_eq,bne_iff_ne,ne_eq,Bool.not_eq_true',decide_eq_false_iff_not,Bool.and_eq_true,Bool.or_eq_true,Bool.or_eq_false_iff,Bool.and_eq_false_iff,bne_eq_false_iff_eq,beq_iff_eq,beq_eq_false_iff_ne,Bool.false_eq_true,false_iff,true_iff,iff_true,iff_false,Bool.not_eq_false',Bool.not_true,Bool.not_false] at *; omega)
theorem zpJ (r:Int) (w:World) (h0 : -2147483648≤r) (h1:r≤2147483647) :
  Calls Tryz.prog 131 #[.int .i32 r] w fun e w'=>e=.returned (.bool (zpG r))∧w=w':=by
 by_cases hn:0≤r
 ·go_enter Tryz.func131,Tryz.ntmps131
  go_wp2_with (first | (go_at_call 129; refine (zkv _ _ _ _).mono ?_; rintro e w' ⟨rfl,rfl⟩))
  all_goals
   go_ret
   refine ⟨zfH ?_,rfl⟩
   (go_light; rw [Bool.eq_iff_iff,zit]; simp only [inB,zjC,decide_eq_true_eq,bne_iff_ne,ne_eq,Bool.not_eq_true',decide_eq_false_iff_not,Bool.and_eq_true,Bool.or_eq_true,Bool.or_eq_false_iff,Bool.and_eq_false_iff,bne_eq_false_iff_eq,beq_iff_eq,beq_eq_false_iff_ne,Bool.false_eq_true,false_iff,true_iff,iff_true,iff_false,Bool.not_eq_false',Bool.not_true,Bool.not_false] at *; omega)
 ·have i1:∀ a b:Int,0≤a→inB r a b=false:=by intro a b ha; simp [inB]; omega
  have hm:zpG r=false:=by rw [Bool.eq_false_iff]; intro h; rw [zit] at h; unfold zjC at h; omega
  go_enter Tryz.func131,Tryz.ntmps131
  go_wp2_with (first | (go_at_call 129; refine (zkv _ _ _ _).mono ?_; rintro e w' ⟨rfl,rfl⟩))
  all_goals
   go_ret
   refine ⟨zfH ?_,rfl⟩
   (go_light; rw [Bool.eq_iff_iff,zit]; simp only [inB,zjC,decide_eq_true_eq,bne_iff_ne,ne_eq,Bool.not_eq_true',decide_eq_false_iff_not,Bool.and_eq_true,Bool.or_eq_true,Bool.or_eq_false_iff,Bool.and_eq_false_iff,bne_eq_false_iff_eq,beq_iff_eq,beq_eq_false_iff_ne,Bool.false_eq_true,false_iff,true_iff,iff_true,iff_false,Bool.not_eq_false',Bool.not_true,Bool.not_false] at *; omega)
end Go.Proofs.YtbempdelckaccaaGreatDoor

namespace Go.Proofs.YtbempdelckaccaaGreatDoor
open Go.RowKit Go.Lib Go.Shelf
set_option linter.unusedVariables false
set_option linter.unusedSimpArgs false
set_option maxRecDepth 20000 in
theorem znC (r:Int) (w:World) (h0 : -2147483648≤r) (h1:r≤2147483647) :
  Calls Tryz.prog 106 #[.int .i32 r] w fun e w'=>e=.returned (.int .i64 (kind r))∧w=w':=by
 go_enter Tryz.func106,Tryz.ntmps106
 go_wp2_with (first | (go_at_call 129; refine (zkv _ _ _ _).mono ?_; rintro e w' ⟨rfl,rfl⟩) | (go_at_call 130; refine (zpL _ _ (by omega) (by omega)).mono ?_; rintro e w' ⟨rfl,rfl⟩) | (go_at_call 131; refine (zpJ _ _ (by omega) (by omega)).mono ?_; rintro e w' ⟨rfl,rfl⟩))
 all_goals
  go_ret
  refine ⟨zmH ?_,rfl⟩
  go_light
  try simp only [inB,decide_eq_true_eq,bne_iff_ne,ne_eq,Bool.not_eq_true',decide_eq_false_iff_not,Bool.and_eq_true,Bool.or_eq_true,Bool.or_eq_false_iff,Bool.and_eq_false_iff,bne_eq_false_iff_eq,beq_iff_eq,beq_eq_false_iff_ne,Bool.false_eq_true,false_iff,true_iff,iff_true,iff_false,Bool.not_eq_false',Bool.not_true,Bool.not_false] at *
  grind (splits:=60) [kind,zsE,zph]
end Go.Proofs.YtbempdelckaccaaGreatDoor

namespace Go.Proofs.YtbempdelckaccaaGreatDoor
open Go.RowKit Go.Lib
set_option linter.unusedVariables false
set_option linter.unusedSimpArgs false
section
variable {α:Type} {enc:α→List Value} {size k:Nat} {vv:Value} {xs:List α}
def zfh (enc:α→List Value) (size:Nat) (vv:Value) (k:Nat) (xs:List α):Asn :=
  ⟨fun C w=>(∀ b,C b→b<w.heap.size)∧∀ i x j v,k≤i→xs[i]?=some x→(enc x)[j]?=some v→C (zbY vv)∧w.cell? ⟨zbY vv,i*size+j,none⟩=some v,
   fun h b hb=>h.1 b hb,
   fun {C w w'} h hs hk=>⟨fun b hb=>Nat.lt_of_lt_of_le (h.1 b hb) hs,fun i x j v hi hx hv=>by
     obtain ⟨h1,h2⟩:=h.2 i x j v hi hx hv
     refine ⟨h1,?_⟩
     rw [← h2]
     unfold World.cell?
     simp only [hk _ h1]⟩⟩
theorem zgN {e:TypeId} (hz:∀ x,(enc x).length=size) {C:Nat→Prop} {w:World} (h:(vec enc e size vv xs).P C w):(zfh enc size vv 0 xs).P C w:=by
 have hV:Vec enc e size vv xs C w:=h
 refine ⟨(vec enc e size vv xs).lt h,fun i x j v _ hx hv => ?_⟩
 have hj:j<size:=by rw [← hz x]; exact (List.getElem?_eq_some_iff.1 hv).1
 refine ⟨?_,hV.cellAt hz hx hj hv⟩
 rcases hV.shape with ⟨_,h2,_⟩ | ⟨g,cap,rfl,_⟩
 ·rw [h2] at hx; simp at hx
 ·rw [hV.2]; rfl
variable {F:Fence} {P:Program} {w0:World} {K:Nat→Prop} {N:Nat} {dfs:List Deferred} {ops:Array Oper} {Q:Exit→Act→World→Prop} {rest:List Oper} {σ:List (Nat×Value)} {L RD:List Asn} {v:Value}
 {d i:Nat} {t ty:TypeId} {pos:String} {aft:Array Edge} {g:Option (Nat×Bool)} {x:Operand}
theorem zca [WideF F] {n j off:Nat} {q:α} (hr:Rd w0 K RD) (hi:RD[i]?=some (zfh enc size vv k xs)) (hle:k≤n) (hT:zcr P t) (hg:gd ops σ g=some true) (hd:d<N) (hx:ev σ x=some (.pointer (some ⟨zbY vv,off,none⟩)))
  (hq:xs[n]?=some q) (ho:off=n*size+j) (hv:(enc q)[j]?=some v) (h:TO F P w0 K N dfs ops Q rest ((d,v)::σ) L) :
  TO F P w0 K N dfs ops Q (⟨some d,.load t x,ty,pos,aft,g⟩::rest) σ L:=by
 subst ho
 obtain ⟨dd,hu,hr'⟩:=hT
 refine zdB hg hd (by simp) (fun a w ha hw => ?_) h
 obtain ⟨C,hC⟩:=hr.at hw hi
 have hc:=(hC.2 n q j v hle hq hv).2
 have h1:=ha.ev hx
 cases dd <;> simp_all [execOp,Instr.loadAt,Instr.sureAddr,loadVar,isAgg,Sem.run_bind,run_underlying hu]
theorem zf4 [WideF F] {m j off n:Nat} {q:α} {cs:List Value} (hr:Rd w0 K RD) (hi:RD[i]?=some (zfh enc size vv k xs)) (hle:k≤m) (hT:zhI P t n) (hg:gd ops σ g=some true) (hd:d<N) (hx:ev σ x=some (.pointer (some ⟨zbY vv,off,none⟩)))
  (hq:xs[m]?=some q) (ho:off=m*size+j) (hcs:((enc q).drop j).take n=cs) (hn:cs.length=n)
  (h:TO F P w0 K N dfs ops Q rest ((d,.agg cs.toArray)::σ) L):TO F P w0 K N dfs ops Q (⟨some d,.load t x,ty,pos,aft,g⟩::rest) σ L:=by
 subst ho; subst hn
 obtain ⟨dd,hu,hr',hi'⟩:=hT
 refine zdB hg hd (by simp) (fun a w ha hw => ?_) h
 obtain ⟨C,hC⟩:=hr.at hw hi
 have hc:w.rangeAt (zbY vv) (m*size+j) cs:=fun n u hn=>by
  rw [← hcs] at hn
  rw [List.getElem?_take] at hn
  split at hn
  ·rw [List.getElem?_drop] at hn
   have:=(hC.2 m q (j+n) u hle hq hn).2
   rwa [← Nat.add_assoc] at this
  ·cases hn
 simp only [execOp,ha.ev hx,Sem.run_bind,run_loadAt_mid w _ _ t cs dd hc hu hr' hi']; rfl
end
end Go.Proofs.YtbempdelckaccaaGreatDoor

namespace Go.Proofs
open Go.Shelf
def zjW:Go.Shelf.Ren:=⟨fun | 160=>78 | 232=>88 | 231=>108 | 227=>89 | 234=>90 | 233=>109 | 236=>91 | 235=>110 | 228=>117 | 271=>118 | 151=>119 | 197=>132 | 120=>135 | 152=>136 | 260=>142 | 137=>144 | 119=>145 | 224=>146 | 225=>147 | 217=>153 | 266=>156 | n=>n,fun | 9=>9 | 4=>4 | 3=>3 | 5=>5 | 117=>169 | 116=>168 | 0=>0 | 124=>172 | 21=>21 | 105=>198 | 46=>158 | 119=>221 | 139=>224 | 138=>223 | n=>n,fun | 3=>2 | 4=>3 | n=>n⟩
theorem zoc:Go.Proofs.Lays.n160 Tryz.prog zjW:={
 mixed:=by kernel_rfl
 f119:=Tryz.func145.trans (congrArg some (by kernel_rfl))
 f120:=Tryz.func135.trans (congrArg some (by kernel_rfl))
 f137:=Tryz.func144.trans (congrArg some (by kernel_rfl))
 f151:=Tryz.func119.trans (congrArg some (by kernel_rfl))
 f152:=Tryz.func136.trans (congrArg some (by kernel_rfl))
 f160:=Tryz.func78.trans (congrArg some (by kernel_rfl))
 f197:=Tryz.func132.trans (congrArg some (by kernel_rfl))
 f217:=Tryz.func153.trans (congrArg some (by kernel_rfl))
 f224:=Tryz.func146.trans (congrArg some (by kernel_rfl))
 f225:=Tryz.func147.trans (congrArg some (by kernel_rfl))
 f227:=Tryz.func89.trans (congrArg some (by kernel_rfl))
 f228:=Tryz.func117.trans (congrArg some (by kernel_rfl))
 f231:=Tryz.func108.trans (congrArg some (by kernel_rfl))
 f232:=Tryz.func88.trans (congrArg some (by kernel_rfl))
 f233:=Tryz.func109.trans (congrArg some (by kernel_rfl))
 f234:=Tryz.func90.trans (congrArg some (by kernel_rfl))
 f235:=Tryz.func110.trans (congrArg some (by kernel_rfl))
 f236:=Tryz.func91.trans (congrArg some (by kernel_rfl))
 f260:=Tryz.func142.trans (congrArg some (by kernel_rfl))
 f266:=Tryz.func156.trans (congrArg some (by kernel_rfl))
 f271:=Tryz.func118.trans (congrArg some (by kernel_rfl))
 t0:=Tryz.underlying0
 a0:=Tryz.isAgg0
 z0:=Tryz.sizeOf0
 v0:=Tryz.zeroValue0
 t3:=Tryz.underlying3
 a3:=Tryz.isAgg3
 z3:=Tryz.sizeOf3
 v3:=Tryz.zeroValue3
 t4:=Tryz.underlying4
 a4:=Tryz.isAgg4
 z4:=Tryz.sizeOf4
 v4:=Tryz.zeroValue4
 t5:=Tryz.underlying5
 a5:=Tryz.isAgg5
 z5:=Tryz.sizeOf5
 v5:=Tryz.zeroValue5
 t9:=Tryz.underlying9
 a9:=Tryz.isAgg9
 z9:=Tryz.sizeOf9
 v9:=Tryz.zeroValue9
 t21:=Tryz.underlying21
 a21:=Tryz.isAgg21
 z21:=Tryz.sizeOf21
 v21:=Tryz.zeroValue21
 t46:=Tryz.underlying158
 a46:=Tryz.isAgg158
 z46:=Tryz.sizeOf158
 v46:=Tryz.zeroValue158
 t105:=Tryz.underlying198
 a105:=Tryz.isAgg198
 z105:=Tryz.sizeOf198
 v105:=Tryz.zeroValue198
 t116:=Tryz.underlying168
 a116:=Tryz.isAgg168
 z116:=Tryz.sizeOf168
 t117:=Tryz.underlying169
 a117:=Tryz.isAgg169
 z117:=Tryz.sizeOf169
 v117:=Tryz.zeroValue169
 t119:=Tryz.underlying221
 a119:=Tryz.isAgg221
 z119:=Tryz.sizeOf221
 t124:=Tryz.underlying172
 a124:=Tryz.isAgg172
 z124:=Tryz.sizeOf172
 v124:=Tryz.zeroValue172
 t138:=Tryz.underlying223
 a138:=Tryz.isAgg223
 z138:=Tryz.sizeOf223
 v138:=Tryz.zeroValue223
 t139:=Tryz.underlying224
 a139:=Tryz.isAgg224
 z139:=Tryz.sizeOf224
 v139:=Tryz.zeroValue224
 g3:=by kernel_rfl
 g4:=by kernel_rfl }
end Go.Proofs

namespace Go.Proofs.YtbempdelckaccaaGreatDoor
open Go.RowKit Go.Lib Go.Shelf
set_option linter.unusedVariables false
set_option linter.unusedSimpArgs false
def zhr (n:Int):ByteArray:=⟨(Lib.repeatL [32] n.toNat).toArray⟩
def zoZ (s:ByteArray):ByteArray:=⟨(Lib.trimS s.data.toList [32,9]).toArray⟩
theorem zvc (s:ByteArray) (hs:s.size≤9223372036854775807):FnP Tryz.prog 78 [.string s,.string ⟨#[32,9]⟩] (.string (zoZ s)):=fun w =>
 Any.strings_Trim_laid zoc (by kernel_rfl) s ⟨#[32,9]⟩ w hs (by decide) (ascii_of_all (by decide))
end Go.Proofs.YtbempdelckaccaaGreatDoor

namespace Go.Proofs.YtbempdelckaccaaGreatDoor
open Go.RowKit Go.Lib
set_option linter.unusedVariables false
set_option linter.unusedSimpArgs false
section
variable {F:Fence} {P:Program} {w0:World} {K:Nat→Prop} {N:Nat} {dfs:List Deferred} {ops:Array Oper} {Q:Exit→Act→World→Prop} {rest:List Oper} {σ:List (Nat×Value)} {L:List Asn} {c:Code} {ex:Exit} {k:Nat}
 {α η:Type} {enc:α×η→List Value} {nest:α×η→List Asn} {t:TypeId} {p:Value} {m:Option α} {x:α}
theorem zd8 (enc:α×η→List Value) (nest:α×η→List Asn) (t:TypeId) (h:TX w0 K N dfs Q ex σ (L++[zmP enc nest t (.pointer none) none])):TX w0 K N dfs Q ex σ L:=fun a w ha hw =>
 h a w ha (hw.grow (C':=fun _=>False) (Ext.refl _ _) (sepL.one (A:=zmP enc nest t (.pointer none) none) ⟨fun _ h=>h,rfl⟩))
theorem zhJ (h:m=some x):Entl [zmP enc nest t p m] (fun bh:Nat×η=>cells bh.1 (enc (x,bh.2)) t::nest (x,bh.2)) (fun bh=>p=.pointer (some ⟨bh.1,0,none⟩)):=fun C w hh=>by
 subst h
 obtain ⟨b,hd,h2,h3⟩:=pobj_some.1 (sepL.one1.1 hh)
 exact ⟨(b,hd),h2,h3⟩
def zwy (p:Value) (m:Option α):Prop:=(m.isNone=true∧p=.pointer none)∨(m.isNone=false∧∃ b,p=.pointer (some ⟨b,0,none⟩))
theorem zk7 (hk:L[k]?=some (zmP enc nest t p m)) (h:zwy p m→TO F P w0 K N dfs ops Q rest σ L):TO F P w0 K N dfs ops Q rest σ L:=fun a w ha hw=>by
 obtain ⟨C1,h1,_⟩:=hw.focus hk
 refine h ?_ a w ha hw
 rcases zlT h1 with ⟨rfl,h2⟩ | ⟨x,b,rfl,h2⟩
 ·exact .inl ⟨rfl,h2⟩
 ·exact .inr ⟨rfl,b,h2⟩
theorem zl4 {ty e':TypeId} {w:World} (ht:P.underlying ty=some (.pointer e')):(Op.equal ty (.pointer none) (.pointer none)).run P w=.ok true w:=by
 have h:∀ d,(Op.equalIn (d+1) ty (.pointer none) (.pointer none)).run P w=.ok true w:=fun d=>by simp [Op.equalIn,run_underlying ht]
 exact h 9999
theorem zmc {ty e':TypeId} {y z:Operand} (ht:P.underlying ty=some (.pointer e')) (hv:zwy p m) (w:World):(do eqGuard .eql ty y z p (.pointer none); binOp .eql ty p (.pointer none):Sem Value).run P w=.ok (.bool m.isNone) w:=by
 rcases hv with ⟨h1,rfl⟩ | ⟨h1,b,rfl⟩
 ·rw [h1]; simp [eqGuard,binOp,Sem.run_bind,zl4 ht]
 ·rw [h1]; exact zc6 ht w
theorem zp4 {ty e':TypeId} {y z:Operand} (ht:P.underlying ty=some (.pointer e')) (hv:zwy p m) (w:World):(do eqGuard .neq ty y z p (.pointer none); binOp .neq ty p (.pointer none):Sem Value).run P w=.ok (.bool (!m.isNone)) w:=by
 rcases hv with ⟨h1,rfl⟩ | ⟨h1,b,rfl⟩
 ·rw [h1]; simp [eqGuard,binOp,Sem.run_bind,zl4 ht]
 ·rw [h1]; exact zlE ht w
end
end Go.Proofs.YtbempdelckaccaaGreatDoor

namespace Go.Proofs.YtbempdelckaccaaGreatDoor
open Go.RowKit Go.Lib
set_option linter.unusedVariables false
set_option linter.unusedSimpArgs false
section
variable {F:Fence} {P:Program} {w0:World} {K:Nat→Prop} {N:Nat} {dfs:List Deferred} {ops:Array Oper} {Q:Exit→Act→World→Prop} {rest:List Oper} {σ σ':List (Nat×Value)} {L L' R As Bs:List Asn} {o:Oper} {v:Value}
 {d:Nat} {t:TypeId} {op:Op} {ty:TypeId} {pos:String} {aft:Array Edge} {g:Option (Nat×Bool)} {x y z:Operand} {c c1 c2:Code} {k:Nat} {A B:Asn} {RO:List (Nat×Obj)} {RD RD0:List Asn}
def ItrR (P:Program) (gf:FuncId) (caps:List Value) {α:Type} (enc:α→List Value) (xs:List α) (RD:List Asn):Prop :=
 ∀ (w:World) (D:Nat→Prop),(∀ A∈RD,∃ C,A.P C w∧∀ k,C k→D k)→(∀ k,D k→k<w.heap.size)→Yields P gf caps.toArray (fun x=>(enc x).toArray) xs D w
theorem ItrR.intro {gf:FuncId} {fn:Func} {caps:List Value} {α:Type} {enc:α→List Value} {xs:List α} (hf:P.funcs[gf]?=some fn) (hb:fn.body=some c) (hn:fn.ntmps=N) (hN:caps.length+1≤N)
  (h:∀ l w0 K (I X:List α→Asn),Rd w0 K RD→YC P l enc xs I X w0 K →
   TC Fence.wide P w0 K N [] (bodyPostM Fence.wide 0 P fn (FY xs I X w0 K)) c (zhc (.func (.yield l) #[] #[]::caps)) [I []]):ItrR P gf caps enc xs RD:=by
 subst hn
 intro w D hRD hDlt l I X C0 W hD hsz hC0 hIl hXl hy h0
 have hRo:Rd W C0 RD:=fun A hA=>by
  obtain ⟨C,h1,h2⟩:=hRD A hA
  exact ⟨C,A.loc h1 hsz (fun k hk=>(hD k (h2 k hk)).2),fun k hk hc=>(hC0 k hc).2 (h2 k hk)⟩
 have:=h l W C0 (fun pre=>zwz (I pre) (fun C W W'=>hIl pre C W W')) (fun pre=>zwz (X pre) (fun C W W'=>hXl pre C W W')) hRo (fun pre x post C W1 hxs he hi=>by
  obtain ⟨f1,t1,a1,b1,hr1,hr2⟩:=hy pre x post C W1 hxs he hi.1
  refine ⟨f1,t1,a1,b1,hr1,hr2.mono ?_⟩
  rintro e w2 ⟨b,rfl,C',hx,hc⟩
  have hlt:∀ k,C' k→k<w2.heap.size:=fun k hk=>by
   have:=hx.1.size
   rcases hx.2 k hk with h | h
   ·have:=hi.2 k h; omega
   ·exact h.2
  exact ⟨b,rfl,C',hx,hc.imp (fun h=>⟨h.1,h.2,hlt⟩) (fun h=>⟨h.1,h.2,hlt⟩)⟩)
 have hs:(Value.func (.yield l) #[] #[]::caps).toArray=#[.func (.yield l) #[] #[]]++caps.toArray:=by simp
 rw [← hs]
 refine (zf2 hf hb (this _ W (At.start _ (by simpa using hN)) ⟨C0,sepL.one ⟨h0,fun k hk=>(hC0 k hk).1⟩,Ext.refl _ _⟩)).mono ?_
 rintro e w' ⟨he,hh⟩
 refine ⟨he,?_⟩
 rcases hh with ⟨C',hh,hx⟩ | ⟨pre,x,post,hxs,C',hh,hx⟩
 ·obtain ⟨C1,C2,g1,g2,_,g4⟩:=hh
  have:C'=C1:=funext fun k=>propext (by rw [g4]; exact ⟨fun h=>h.resolve_right (g2 k),.inl⟩)
  subst this
  exact ⟨C',hx,.inl g1.1⟩
 ·obtain ⟨C1,C2,g1,g2,_,g4⟩:=hh
  have:C'=C1:=funext fun k=>propext (by rw [g4]; exact ⟨fun h=>h.resolve_right (g2 k),.inl⟩)
  subst this
  exact ⟨C',hx,.inr ⟨pre,x,post,hxs,g1.1⟩⟩
section
variable {α β γ δ:Type}
theorem zrP {gf:FuncId} {caps:List Value} {enc:α→List Value} {xs:List α} {ps:List Nat} {assign body:Code} (hRd:Rd w0 K RD0) (hRo:Ro w0 K RO)
  (hg:ev σ x=some (.func (.func gf) #[] caps.toArray)) (hent:∀ args w,(callFunc gf args).run P w=.ok (.enter gf args) w) (hY:ItrR P gf caps enc xs RD)
  (Inv:List α→β→Prop) (LI:List α→β→List Asn) (X:Code→List α→γ→Prop) (LX:Code→List α→γ→List Asn) (σJ:List α→α→β→δ→List (Nat×Value)) (LJ:List α→α→β→δ→List Asn) (b0:β)
  (h0:Inv [] b0) (hs:Splits L (LI [] b0) R) (hS:RdS R RD0 RD) (hps:∀ x,(enc x).length=ps.length) (hpN:∀ p∈ps,p<N)
  (hassign:∀ l r pre e post b w1 K1,xs=pre++e::post→Ext K K1 w0 w1→Ro w1 K1 (RO++[(l,.loop r)])→Inv pre b →
   TC (Fence.wide.inRound l) P w1 K1 N [] (Exit.then (fun a w=>∃ j,St w1 K1 N [] (σJ pre e b j) (LJ pre e b j) a w) (fun _ _ _=>False)) assign (zjZ ps (enc e) σ) (LI pre b))
  (hbody:∀ l r pre e post b j w1 K1,xs=pre++e::post→Ext K K1 w0 w1→Ro w1 K1 (RO++[(l,.loop r)])→Inv pre b→TC (Fence.wide.inRound l) P w1 K1 N [] (RQ Inv LI X LX (pre++[e]) w1 K1) body (σJ pre e b j) (LJ pre e b j))
  (hdone:∀ d b,Inv xs b→TX w0 K N ({ target:=.collected d,args:=#[] }::dfs) Q .normal σ (R++(LI xs b++[zpf d])))
  (hstop:∀ d c pre e post b,xs=pre++e::post→X c (pre++[e]) b→TC Fence.wide P w0 K N ({ target:=.collected d,args:=#[] }::dfs) Q c σ (R++(LX c (pre++[e]) b++[zpf d]))) :
  TC Fence.wide P w0 K N dfs Q (.rangeFunc x ps.toArray assign body) σ L:=by
 intro a w ha hw
 obtain ⟨C1,C2,g1,g2,g3,gx,hstep⟩:=hw.split2 hs
 have hDh:Rd w C1 RD:=hS.rd (w0:=w0) (K:=K) g2 g3 (hRd.ext gx)
 have hlt1:=g1.lt
 have hro1:∀ {C:Nat→Prop} {W:World},Ext K C w0 W→Ro W C RO:=fun {C W} hx p hp=>by
  obtain ⟨h1,h2⟩:=hRo p hp
  refine ⟨hx.1.at h1 h2,fun h => ?_⟩
  rcases hx.2 _ h with h | h
  ·exact h2 h
  ·have:=zcS h1; omega
 refine zoY (gf:=gf) (lb:=caps.toArray) (ha.ev hg) hent (hY w (fun k=>k<w.heap.size∧¬ C1 k) (fun A hA=>by
  obtain ⟨C,h1,h2⟩:=hDh A hA
  exact ⟨C,h1,fun k hk=>⟨A.lt h1 k hk,h2 k hk⟩⟩) (fun k h=>h.1)) (fun k h=>⟨h.1,rfl⟩) (Nat.le_refl _) (fun e=>by simp [hps])
  (fun pre C W=>∃ b,Inv pre b∧sepL (LI pre b) C W) (fun c pre C W=>∃ b,X c pre b∧sepL (LX c pre b) C W)
  (fun pre e a1 C W=>∃ b j,Inv pre b∧At N [] (σJ pre e b j) a1∧sepL (LJ pre e b j) C W) ?_ ?_ ?_ C1 (fun k hk=>⟨hlt1 k hk,fun h=>h.2 hk⟩) ⟨b0,h0,g1⟩ ?_ ?_ ?_ ?_
 ·rintro pre C W W' ⟨b,h1,h2⟩ hs hk; exact ⟨b,h1,h2.loc hs hk⟩
 ·rintro c pre C W W' ⟨b,h1,h2⟩ hs hk; exact ⟨b,h1,h2.loc hs hk⟩
 ·rintro pre e a1 _ C W W' ⟨b,j,h1,h2,h3⟩ hs hk; exact ⟨b,j,h1,h2,h3.loc hs hk⟩
 ·rintro l pre e post C W1 hxs hext ⟨b,hb,hi⟩ hn hl ⟨r,hr⟩
  have hx1:Ext K C w0 W1:=gx.trans hext
  refine wpIn_mono (hassign l r pre e post b W1 C hxs hx1 ((hro1 hx1).snoc hr hn) hb _ W1 (ha.zip ps (enc e) hpN) ⟨C,hi,Ext.refl _ _⟩) ?_
  rintro ex a' w' hq
  cases ex with
  | normal =>
   obtain ⟨j,hj,C',hL',hx'⟩:=hq
   exact ⟨C',hx',b,j,hb,hj,hL'⟩
  | _=>exact hq
 ·rintro l pre e post C W1 a1 hxs hext ⟨b,j,hb,hat,hi⟩ hn hl ⟨r,hr⟩
  have hx1:Ext K C w0 W1:=gx.trans hext
  refine wpIn_mono (hbody l r pre e post b j W1 C hxs hx1 ((hro1 hx1).snoc hr hn) hb a1 W1 hat ⟨C,hi,Ext.refl _ _⟩) ?_
  rintro ex a' w' hq
  cases ex with
  | normal=>obtain ⟨b',h1,C',h2,h3⟩:=hq; exact ⟨C',h3,b',h1,h2⟩
  | ret=>obtain ⟨b',h1,C',h2,h3⟩:=hq; exact ⟨C',h3,b',h1,h2⟩
  | exit id=>obtain ⟨b',h1,C',h2,h3⟩:=hq; exact ⟨C',h3,b',h1,h2⟩
  | goto id=>obtain ⟨b',h1,C',h2,h3⟩:=hq; exact ⟨C',h3,b',h1,h2⟩
  | panic _=>exact hq
  | outgrown=>exact hq
 ·rintro d C W hext ⟨b,hb,hi⟩ hd hCd hdef
  refine hdone d b hb _ W ⟨ha.1,by rw [← ha.2.1],ha.2.2⟩ (hstep _ (fun k=>C k∨k=d) W ⟨hext.1,fun k hk => ?_⟩ ?_)
  ·rcases hk with hk | rfl
   ·exact hext.2 k hk
   ·exact .inr ⟨hd,zcS hdef⟩
  ·exact hi.append (sepL.one ⟨fun k=>Iff.rfl,hdef⟩) (fun k hk e=>hCd (e ▸ hk))
 ·rintro d c pre e post C W hxs hext ⟨b,hb,hi⟩ hd hCd hdef
  refine hstop d c pre e post b hxs hb _ W ⟨ha.1,by rw [← ha.2.1],ha.2.2⟩ (hstep _ (fun k=>C k∨k=d) W ⟨hext.1,fun k hk => ?_⟩ ?_)
  ·rcases hk with hk | rfl
   ·exact hext.2 k hk
   ·exact .inr ⟨hd,zcS hdef⟩
  ·exact hi.append (sepL.one ⟨fun k=>Iff.rfl,hdef⟩) (fun k hk e=>hCd (e ▸ hk))
end
end
end Go.Proofs.YtbempdelckaccaaGreatDoor

namespace Go.Proofs.YtbempdelckaccaaGreatDoor
open Go.RowKit Go.Lib
set_option linter.unusedVariables false
set_option linter.unusedSimpArgs false
theorem zpK {α:Type} {enc:α→List Value} {size k:Nat} {vv:Value} {xs:List α} {e:TypeId} (hz:∀ x,(enc x).length=size) {C:Nat→Prop} {w:World} (h:(vec enc e size vv xs).P C w):(zfh enc size vv k xs).P C w :=
 ⟨(zgN hz h).1,fun i x j v h1 h2 h3=>(zgN hz h).2 i x j v (Nat.zero_le _) h2 h3⟩
theorem Rd.up {α:Type} {enc:α→List Value} {size k m:Nat} {vv:Value} {xs:List α} {w0:World} {K:Nat→Prop} {RD:List Asn} {i:Nat} (hr:Rd w0 K RD) (hi:RD[i]?=some (zfh enc size vv k xs)):Rd w0 K (RD++[zfh enc size vv (k+m) xs]) :=
 hr.append fun B hB=>by
  rw [List.mem_singleton] at hB
  subst hB
  obtain ⟨C,h,hk⟩:=hr _ (List.mem_of_getElem? hi)
  exact ⟨C,⟨h.1,fun i x j v h1 h2 h3=>h.2 i x j v (by omega) h2 h3⟩,hk⟩
structure Seat (α:Type) where
 vv:Value
 k:Nat
 L:List α
def zt6 {α:Type} (enc:α→List Value) (size:Nat) (hd:Hd) (xs:List α):Asn :=
 exA fun b:{b:Seat α // Vw b.vv b.L size b.k hd.v xs}=>zfh enc size b.1.vv b.1.k b.1.L
theorem zss {α:Type} {enc:α→List Value} {size:Nat} {e:TypeId} {hd:Hd} {xs:List α} (hlen:∀ x,(enc x).length=size) {C:Nat→Prop} {w:World} (h:(vec enc e size hd.v xs).P C w):(zt6 enc size hd xs).P C w :=
 ⟨⟨⟨hd.v,0,xs⟩,zmn h⟩,zgN hlen h⟩
section
variable {α η:Type} {enc:α×η→List Value} {nest nestR:α×η→List Asn} {e:TypeId} {size:Nat} {v:Value} {xs:List α} {zs:List (α×η)} {z:α×η}
def zlx (nestR:α×η→List Asn) (zs:List (α×η)):Asn :=
  ⟨fun C w=>(∀ k,C k→k<w.heap.size)∧∀ z∈zs,∀ A∈nestR z,∃ D,A.P D w∧∀ k,D k→C k,
   fun h k hk=>h.1 k hk,
   fun {C w w'} h hs hk=>⟨fun k hC=>Nat.lt_of_lt_of_le (h.1 k hC) hs,fun z hz A hA=>by
     obtain ⟨D,h1,h2⟩:=h.2 z hz A hA
     exact ⟨D,A.loc h1 hs (fun k hD=>hk k (h2 k hD)),h2⟩⟩⟩
def zuQ (nest nestR:α×η→List Asn):Prop:=∀ z C w,sepL (nest z) C w→∀ A∈nestR z,∃ D,A.P D w∧∀ k,D k→C k
theorem zrh {C:Nat→Prop} {w:World} (h:sepL (zs.flatMap nest) C w) (hz:z∈zs):∃ D,sepL (nest z) D w∧∀ k,D k→C k:=by
 obtain ⟨i,hi⟩:=List.getElem?_of_mem hz
 obtain ⟨C1,C2,h1,_,_,h4⟩:=(zkq hi).1 h
 exact ⟨C1,h1,fun k hk=>(h4 k).2 (.inl hk)⟩
theorem zqS (hG:zuQ nest nestR) {C:Nat→Prop} {w:World} (h:(own nest zs).P C w):(zlx nestR zs).P C w :=
 ⟨(own nest zs).lt h,fun z hz A hA=>by
  obtain ⟨D,h1,h2⟩:=zrh (show sepL (zs.flatMap nest) C w from h) hz
  obtain ⟨E,h3,h4⟩:=hG z D w h1 A hA
  exact ⟨E,h3,fun k hk=>h2 k (h4 k hk)⟩⟩
variable {w0:World} {K:Nat→Prop} {RD:List Asn} {i j:Nat}
theorem Rd.openEl (hr:Rd w0 K RD) (hi:RD[i]?=some (zlx nestR zs)) (hz:zs[j]?=some z):Rd w0 K (RD++nestR z) :=
 hr.more hi fun C hC B hB=>hC.2 z (List.mem_of_getElem? hz) B hB
theorem Rd.openSl {β:Type} {enc1:β→List Value} {hd:Hd} {ys:List β} (hr:Rd w0 K RD) (hi:RD[i]?=some (zt6 enc1 size hd ys)):∃ vv k L,Vw vv L size k hd.v ys∧Rd w0 K (RD++[zfh enc1 size vv k L]):=by
 obtain ⟨C,⟨⟨⟨vv,k,L⟩,hV⟩,hC⟩,hk⟩:=hr _ (List.mem_of_getElem? hi)
 refine ⟨vv,k,L,hV,hr.append fun B hB => ?_⟩
 rw [List.mem_singleton] at hB
 subst hB
 exact ⟨C,hC,hk⟩
theorem Rd.openN (hr:Rd w0 K RD) (hi:RD[i]?=some (zgc enc nest e size v xs)) (hlen:∀ z,(enc z).length=size) (hG:zuQ nest nestR) :
  ∃ zs:List (α×η),zs.map Prod.fst=xs∧Vw v zs size 0 v zs∧Rd w0 K (RD++[zfh enc size v 0 zs,zlx nestR zs]):=by
 obtain ⟨C,h,hk⟩:=hr _ (List.mem_of_getElem? hi)
 obtain ⟨zs,hz,h1⟩:=zsv C w0 h
 obtain ⟨C1,C2,g1,g2,_,g4⟩:=zlO h1
 refine ⟨zs,hz,zmn g1,hr.append fun B hB => ?_⟩
 rcases List.mem_cons.1 hB with rfl | hB
 ·exact ⟨C1,zgN hlen g1,fun k h=>hk k ((g4 k).2 (.inl h))⟩
 ·rw [List.mem_singleton] at hB
  subst hB
  exact ⟨C2,zqS hG g2,fun k h=>hk k ((g4 k).2 (.inr h))⟩
end
section
variable {α η:Type} {nest:α×η→List Asn} {zs ys:List (α×η)}
end
section
variable {F:Fence} {P:Program} {w0:World} {K:Nat→Prop} {N:Nat} {dfs:List Deferred} {Q:Exit→Act→World→Prop} {σ:List (Nat×Value)} {L:List Asn} {c:Code} {k:Nat} {α η:Type} {enc:α×η→List Value} {nest:α×η→List Asn} {t:TypeId} {p:Value} {m:Option α}
theorem zwk (hk:L[k]?=some (zmP enc nest t p m)) (h:zwy p m→TC F P w0 K N dfs Q c σ L):TC F P w0 K N dfs Q c σ L:=fun a w ha hw=>by
 obtain ⟨C1,h1,_⟩:=hw.focus hk
 refine h ?_ a w ha hw
 rcases zlT h1 with ⟨rfl,h2⟩ | ⟨x,b,rfl,h2⟩
 ·exact .inl ⟨rfl,h2⟩
 ·exact .inr ⟨rfl,b,h2⟩
end
end Go.Proofs.YtbempdelckaccaaGreatDoor

namespace Go.Proofs.YtbempdelckaccaaGreatDoor
open Go.RowKit Go.Lib
def zcP (z:(List Gapi_Row)×Hd):List Asn:=[zt6 zbf 6 z.2 z.1]
theorem zgn:zuQ zaY zcP:=by
 intro z C w h A hA
 simp only [zcP,List.mem_cons,List.not_mem_nil,or_false] at hA
 rcases hA with rfl
 ·obtain ⟨D,h1,h2⟩:=znu h _ (List.mem_of_getElem? (i:=0) rfl); exact ⟨D,zss za8 h1,h2⟩
end Go.Proofs.YtbempdelckaccaaGreatDoor

namespace Go.Proofs.YtbempdelckaccaaGreatDoor
open Go.RowKit Go.Lib
def Br (w:World) (base:Nat) (e:TypeId) (v:Value) (b:ByteArray):Prop:=w.ownsRow base e 1 v b.size (strCells b)
theorem Br.nil (w:World) (base:Nat) (e:TypeId):Br w base e (.slice none 0 0) ⟨#[]⟩:=World.ownsRow_nil w base e 1
theorem Br.below {w w':World} {base:Nat} {e:TypeId} {v:Value} {b:ByteArray} (h:Br w base e v b) (hb:Below w.heap.size w w'):Br w' base e v b:=by
 refine ⟨h.1,?_⟩
 rcases h.2 with hn | ⟨g,cap,cur,rfl,h2,h3,rest⟩
 ·exact .inl hn
 ·exact .inr ⟨g,cap,cur,rfl,h2,zqz h3 hb,rest⟩
theorem Br.lt {w:World} {base:Nat} {e:TypeId} {v:Value} {b:ByteArray} (h:Br w base e v b):∀ k,v.ownBlock=some k→base≤k∧k<w.heap.size:=World.ownsRow.lt h
theorem Br.conv {P:Program} {w:World} {base:Nat} {el:TypeId} {v:Value} {b:ByteArray} (h:Br w base el v b) (src dst e:TypeId) (hs:P.underlying src=some (.slice e)) (he:P.underlying e=some (.int .u8)) (hd:P.underlying dst=some .string) :
  (convert src dst v).run P w=.ok (.string b) w:=by
 rcases h.2 with ⟨rfl,h2⟩ | ⟨g,cap,cur,rfl,_,_,_⟩
 ·have hb:b=⟨#[]⟩:=by
   apply ByteArray.ext; exact Array.eq_empty_of_size_eq_zero h2
  rw [hb]; exact run_convert_nil_bytes w src dst e 0 hs he hd
 ·have hl:b.data.toList.length=b.size:=by rw [Array.length_toList]; rfl
  have:=run_convert_bytes_back (P:=P) w src dst e ⟨g,0,none⟩ cap b.data.toList hs he hd (fun j hj=>by
   refine World.ownsRow.cells h rfl j _ ?_
   unfold strCells; rw [List.getElem?_map,List.getElem?_eq_getElem hj]; rfl)
  rw [hl] at this
  rw [this]
end Go.Proofs.YtbempdelckaccaaGreatDoor

namespace Go.Proofs.YtbempdelckaccaaGreatDoor
open Go.RowKit Go.Lib Go.Shelf
attribute [local go_sem] Oper.semAt_some
set_option linter.unusedVariables false
set_option linter.unusedSimpArgs false
def Bld (b:Nat) (bs:ByteArray) (C:Nat→Prop) (w:World):Prop :=
 ∃ p v D,w.heap[b]?=some (.cells #[p,v] 123 (0,0))∧(p=.pointer none∨p=.pointer (some ⟨b,0,none⟩))∧Byt 5 v bs D w∧¬ D b∧C=(fun k=>k=b∨D k)
theorem Bld.local {b:Nat} {bs:ByteArray} {C:Nat→Prop} {w w':World} (h:Bld b bs C w) (hk:∀ k,C k→w'.heap[k]?=w.heap[k]?):Bld b bs C w':=by
 obtain ⟨p,v,D,h1,h2,h3,h4,rfl⟩:=h
 exact ⟨p,v,D,(hk b (.inl rfl)).trans h1,h2,h3.local (fun k h=>hk k (.inr h)),h4,rfl⟩
theorem Bld.lt {b:Nat} {bs:ByteArray} {C:Nat→Prop} {w:World} (h:Bld b bs C w):∀ k,C k→k<w.heap.size:=by
 obtain ⟨p,v,D,h1,h2,h3,h4,rfl⟩:=h
 rintro k (rfl | hk)
 ·exact zcS h1
 ·exact h3.lt k hk
theorem Bld.ext {b:Nat} {bs:ByteArray} {C D D':Nat→Prop} {w w':World} (h:Bld b bs C w) (hx:Ext D D' w w') (hd:∀ k,C k→¬ D k):Bld b bs C w' :=
 h.local (fun k hk=>hx.1.keep k (h.lt k hk) (hd k hk))
theorem Bld.new (w:World):Bld w.heap.size ⟨#[]⟩ (fun k=>k=w.heap.size) (w.alloc (.cells #[.pointer none,.slice none 0 0] 123)) :=
 ⟨_,_,_,World.alloc_heap_new w _,.inl rfl,Byt.nil,by simp,by funext k; simp⟩
end Go.Proofs.YtbempdelckaccaaGreatDoor

namespace Go.Proofs.YtbempdelckaccaaGreatDoor
open Go.RowKit Go.Lib Go.Shelf
attribute [local go_sem] Oper.semAt_some
set_option linter.unusedVariables false
set_option linter.unusedSimpArgs false
theorem Bld.drew {b:Nat} {bs:ByteArray} {C:Nat→Prop} {w:World} (h:Bld b bs C w):Bld b bs C w.drew:=h.local (fun _ _=>rfl)
end Go.Proofs.YtbempdelckaccaaGreatDoor

namespace Go.Proofs.YtbempdelckaccaaGreatDoor
open Go.RowKit Go.Lib Go.Shelf
set_option linter.unusedVariables false
set_option linter.unusedSimpArgs false
end Go.Proofs.YtbempdelckaccaaGreatDoor

namespace Go.Proofs.YtbempdelckaccaaGreatDoor
open Go.RowKit Go.Lib
set_option linter.unusedVariables false
set_option linter.unusedSimpArgs false
theorem zhu {α:Type} {enc:α→List Value} {size:Nat} {P:Program} (w:World) (t ty e:TypeId) (i:TypeInfo) (z:Value) (ht:P.underlying t=some (.slice e)) (hi:P.info? e=some i) (hz:i.zero=some z)
  (hsize:i.size=size) (hzs:z.cells.size=size) (hsz:0<size) (hlen:∀ x,(enc x).length=size) (h1:∀ x,∀ u∈enc x,u.oneCell'=true)
  (v:Value) (L:List α) (C:Nat→Prop) (hown:Vec enc e size v L C w) (ys:List α) (a:Addr) (c:Nat)
  (hnews:∀ j u,(ys.flatMap enc)[j]?=some u→w.cell? (a.add j)=some u) (hn:L.length+ys.length≤maxLen) (hbb:(L.length+ys.length)*i.bytes≤140737488355328) :
  ∃ v' w',(Builtin.append_ #[t,t] ty #[v,.slice (some a) ys.length c]).run P w=.ok v' w'∧∃ C',Vec enc e size v' (L++ys) C' w'∧Ext C C' w w':=by
 obtain ⟨hown,rfl⟩:=hown
 have hl:(ys.flatMap enc).length=ys.length*size:=zg3 hlen ys
 have h1':∀ u∈ys.flatMap enc,u.oneCell'=true:=by
  intro u hu
  obtain ⟨x,hx,hu⟩:=List.mem_flatMap.1 hu
  exact h1 x u hu
 obtain ⟨v',w',hr,r1,r2,_⟩:=run_append_own (P:=P) w 0 t ty e i z size i.bytes ht hi hz hsize rfl hzs hsz v L.length (L.flatMap enc) hown a ys.length c (ys.flatMap enc) hl hnews h1' hn hbb (Nat.zero_le _)
 have hbl:=zjM (P:=P) w 0 t ty e i z size i.bytes ht hi hz hsize rfl v L.length (L.flatMap enc) hown a ys.length c (ys.flatMap enc) hl hnews h1' hn hbb hr
 have hR:Rw enc w' 0 e size v' (L++ys):=by
  unfold Rw; rw [List.length_append,List.flatMap_append]; exact r1
 exact ⟨v',w',hr,_,⟨hR,rfl⟩,zjI r2 hbl (fun g hg=>(World.ownsRow.lt hR g hg).2)⟩
section
variable {F:Fence} {P:Program} {w0:World} {K:Nat→Prop} {N:Nat} {dfs:List Deferred} {ops:Array Oper} {Q:Exit→Act→World→Prop} {rest:List Oper} {σ:List (Nat×Value)} {L RD:List Asn}
 {d:Nat} {ty:TypeId} {pos:String} {aft:Array Edge} {g:Option (Nat×Bool)} {s x:Operand} {t e e2:TypeId} {k k2 j size:Nat} {vv v2 v:Value} {α:Type} {enc:α→List Value} {xs ys Ls:List α}
theorem zp5 {C:Nat→Prop} {w:World} (hlen:∀ x,(enc x).length=size) (hs:0<size) (h:(zfh enc size v2 j Ls).P C w) (hV:Vw v2 Ls size j v ys) (hne:ys≠[]):∃ c,v=.slice (some ⟨zbY v2,j*size,none⟩) ys.length c∧∀ n u,(ys.flatMap enc)[n]?=some u→w.cell? ((⟨zbY v2,j*size,none⟩:Addr).add n)=some u:=by
 have hgt:=fun (i:Nat) (q:α) (hq:ys[i]?=some q)=>hV.get (i:=(i:Int)) (zcv hq)
 obtain ⟨_,_,q',c,hq',_,hp⟩:=hV
 have hp:=hp hne
 subst hp
 refine ⟨c,hq',fun n u hu => ?_⟩
 have hadd:(⟨zbY v2,j*size,none⟩:Addr).add n=⟨zbY v2,j*size+n,none⟩:=by unfold Addr.add; split <;> simp_all
 rw [hadd]
 have hnl:n<ys.length*size:=by
  have:=(List.getElem?_eq_some_iff.1 hu).1; rwa [zg3 hlen ys] at this
 have hi:n / size<ys.length:=Nat.div_lt_of_lt_mul (by rwa [Nat.mul_comm] at hnl)
 have hr:n % size<size:=Nat.mod_lt _ hs
 have hdm:n / size*size+n % size=n:=Nat.div_add_mod' n size
 have hy:ys[n / size]?=some ys[n / size]:=List.getElem?_eq_getElem hi
 have h2:=zj8 hlen ys (n / size) (n % size) _ hy hr
 rw [hdm,hu] at h2
 have h3:=(h.2 _ _ _ _ (Nat.le_add_right _ _) (hgt _ _ hy) h2.symm).2
 have e1:(j+((n / size:Nat):Int).toNat)*size+n % size=j*size+n:=by
  rw [Int.toNat_natCast,Nat.add_mul]; omega
 rwa [e1] at h3
theorem zoS [WideF F] {i2 B:Nat} (hr:Rd w0 K RD) (hi2:RD[i2]?=some (zfh enc size v2 j Ls)) (ht:P.underlying t=some (.slice e)) (hE:ElemOk P e size) (hB:∀ i,P.info? e=some i→i.bytes≤B) (hlen:∀ x,(enc x).length=size) (h1:∀ x,∀ u∈enc x,u.oneCell'=true) (hV:Vw v2 Ls size j v ys) (hg:gd ops σ g=some true) (hd:d<N) (hs:ev σ s=some vv) (hx:ev σ x=some v)
  (hk:L[k]?=some (vec enc e size vv xs)) (hn:xs.length+ys.length≤maxLen) (hb:(xs.length+ys.length)*B≤140737488355328)
  (h:∀ v',TO F P w0 K N dfs ops Q rest ((d,v')::σ) (L.set k (vec enc e size v' (xs++ys)))) :
  TO F P w0 K N dfs ops Q (⟨some d,.call { callee:=.builtin .append,args:=#[s,x],argTypes:=#[t,t] },ty,pos,aft,g⟩::rest) σ L:=by
 obtain ⟨i,zv,hi,hz,hsize,hzs,hsz,hbytes⟩:=hE
 have hbb:(xs.length+ys.length)*i.bytes≤140737488355328:=Nat.le_trans (Nat.mul_le_mul_left _ (hB i hi)) hb
 refine zfU hg (by simp) fun a w ha hw => ?_
 obtain ⟨C2,hV2⟩:=hr.at hw hi2
 obtain ⟨C,hV1,hstep⟩:=hw.focus hk
 by_cases hne:ys=[]
 ·subst hne
  obtain ⟨_,_,q',c,hq',_,_⟩:=hV
  subst hq'
  rw [List.append_nil] at h
  rcases q' with _ | q'
  ·obtain ⟨b,cap,hb⟩:=Vec.len hV1
   have hcap:xs.length≤cap:=by
    rcases hV1.shape with ⟨h3,h4,_⟩ | ⟨gb,cap',h3,_,h4,_⟩
    ·rw [h4]; exact Nat.zero_le _
    ·rw [hb] at h3; cases h3; exact h4
   have hr:=zks (P:=P) w t ty e i ht hi b xs.length cap c hcap
   refine ⟨vv,w,?_,h vv _ _ (ha.put hd _) (hstep _ C w (Ext.refl _ _) hV1)⟩
   subst hb
   simp [execOp,resolve,invoke,builtin,ha.ev hs,ha.ev hx,hr,Sem.run_bind]
  ·obtain ⟨v',w',hr,C',h2,h3⟩:=zhu (P:=P) w t ty e i zv ht hi hz hsize hzs hsz hlen h1 vv xs C hV1 [] q' c (by simp) hn hbb
   rw [List.append_nil] at h2
   refine ⟨v',w',?_,h v' _ _ (ha.put hd _) (hstep _ C' w' h3 h2)⟩
   have hr':(Builtin.append_ #[t,t] ty #[vv,.slice (some q') 0 c]).run P w=.ok v' w':=hr
   simp [execOp,resolve,invoke,builtin,ha.ev hs,ha.ev hx,hr',Sem.run_bind]
 ·obtain ⟨c,rfl,hc⟩:=zp5 hlen hsz hV2 hV hne
  obtain ⟨v',w',hr,C',h2,h3⟩:=zhu (P:=P) w t ty e i zv ht hi hz hsize hzs hsz hlen h1 vv xs C hV1 ys _ c hc hn hbb
  refine ⟨v',w',?_,h v' _ _ (ha.put hd _) (hstep _ C' w' h3 h2)⟩
  simp [execOp,resolve,invoke,builtin,ha.ev hs,ha.ev hx,hr,Sem.run_bind]
theorem Vec.cut {C:Nat→Prop} {w:World} {q:Option Addr} {c n m:Nat} (hlen:∀ x,(enc x).length=size) (h:Vec enc e size (.slice q m c) xs C w) (hm:n≤m):Vec enc e size (.slice q n c) (xs.take n) C w:=by
 obtain ⟨⟨h1,h2⟩,rfl⟩:=h
 have hfl:=zg3 hlen xs
 have hfn:=zg3 hlen (xs.take n)
 rcases h2 with ⟨h2,h3⟩ | ⟨gb,cap,cur,h2,h3,h4,h5,h6,h7,h8⟩
 ·cases h2
  have:xs=[]:=List.length_eq_zero_iff.1 h3
  subst this
  obtain rfl:n=0:=by omega
  exact ⟨⟨by simp,.inl ⟨rfl,by simp⟩⟩,rfl⟩
 ·cases h2
  have hnl:(xs.take n).length=n:=by rw [List.length_take]; omega
  refine ⟨⟨by rw [hfn],.inr ⟨gb,c,cur,by rw [hnl],h3,h4,by rw [hnl]; omega,h6,h7,?_⟩⟩,by funext k; simp [Value.ownBlock]⟩
  rw [hnl]
  have e1:(xs.take n).flatMap enc=(xs.flatMap enc).take (n*size):=by
   conv=>rhs; rw [← List.take_append_drop n xs,List.flatMap_append]
   rw [List.take_left' (by rw [hfn,hnl])]
  rw [e1,← h8,List.take_take,Nat.min_eq_left (Nat.mul_le_mul_right _ hm)]
end
end Go.Proofs.YtbempdelckaccaaGreatDoor

namespace Go.Proofs.YtbempdelckaccaaGreatDoor
open Go.RowKit Go.Lib
set_option linter.unusedVariables false
set_option linter.unusedSimpArgs false
theorem zoa {P:Program} {t e:TypeId} {x:Operand} {q:Option Addr} {n c:Nat} (ht:P.underlying t=some (.slice e)) (w:World):(do eqGuard .eql t x (.const (.slice none 0 0)) (.slice q n c) (.slice none 0 0); binOp .eql t (.slice q n c) (.slice none 0 0):Sem Value).run P w=.ok (.bool q.isNone) w:=by
 have h:∀ d,(Op.equalIn (d+1) t (.slice q n c) (.slice none 0 0)).run P w=.ok q.isNone w:=fun d=>by
  cases q <;> simp [Op.equalIn,run_underlying ht]
 have h':(Op.equalIn Op.maxDepth t (.slice q n c) (.slice none 0 0)).run P w=.ok q.isNone w:=h 9999
 simp [eqGuard,binOp,Sem.run_bind,run_underlying ht,Op.equal,h']
theorem zp3:∀ i,Tryz.prog.info? 33=some i→i.bytes≤56:=fun i hi=>by
 have h:(Tryz.prog.info? 33).all (fun i=>decide (i.bytes≤56))=true:=by kernel_rfl
 rw [hi] at h
 exact of_decide_eq_true h
theorem zuG {vv v:Value} {Ls:List Gapi_Row} {k:Nat} {xs:List Gapi_Row} (hw:Vw vv Ls 6 k v xs) (hb:xs.length*56≤140737488355328):FnR Tryz.prog 44 [v] [zfh zbf 6 vv k Ls] [] (fun v0:Value=>v0) (fun v0=>[vec zbf 33 6 v0 xs]):=by
 refine FnR.intro Tryz.func44 rfl Tryz.ntmps44 (by simp) ?_
 intro w0 K hrd
 obtain ⟨q,c,hv,_,hq⟩:=hw.2.2
 have hw':=hw
 subst hv
 cases q with
 | none =>
  have hx:xs=[]:=by
   cases xs with
   | nil=>rfl
   | cons x xs=>cases hq (by simp)
  subst hx
  refine zaI (zav (zgX rfl (by decide) rfl (zaO (zaH (zaI (zaI (zav (zeE rfl (by decide) rfl (zbz rfl (by decide) rfl rfl (zoa Tryz.underlying43) (zaO (zaH (za5 rfl ?_))))))))))))
  refine zaI (zav (zgW (enc:=zbf) (e:=33) (size:=6) (zgX rfl (by decide) rfl (zaO (zaH (zaG (zao ?_)))))))
  exact zaK (rs:=[.tmp 2]) (.slice none 0 0) (.inl rfl) Tryz.results44 (.cons (.tmp rfl) .nil) rfl (zad [0] (by as_aux_lemma=>kernel_rfl) rfl)
 | some q =>
  refine zaI (zav (zgX rfl (by decide) rfl (zaO (zaH (zaI (zaI (zav (zeE rfl (by decide) rfl (zbz rfl (by decide) rfl rfl (zoa Tryz.underlying43) (zaO (zaH (zaS rfl (zar ?_)))))))))))))
  refine zaH (zaI (zav ?_))
  refine zaV (cs:=[]) (te:=33) (ps:=[]) rfl (by decide) rfl (fun _=>by kernel_rfl) (fun b1 => ?_)
  refine zeE rfl (by decide) rfl (zi3 ([]:List Gapi_Row) (k:=0) rfl za8 rfl (show 0≤maxLen by decide) ?_)
  show TO _ _ _ _ _ _ _ _ _ _ [vec zbf 33 6 (.slice (some ⟨b1,0,none⟩) 0 0) ([]:List Gapi_Row)]
  refine zoS (k:=0) (i2:=0) (B:=56) hrd rfl Tryz.underlying43 zoD zp3 za8 zdm hw' rfl (by decide) rfl rfl rfl (by simp only [maxLen,List.length_nil]; omega) (by rw [List.length_nil,Nat.zero_add]; exact hb) (fun v1 => ?_)
  refine zgX rfl (by decide) rfl (zaO (zaH (zaG ?_)))
  exact zaK (rs:=[.tmp 2]) v1 (.inl rfl) Tryz.results44 (.cons (.tmp rfl) .nil) rfl (zad [0] (by as_aux_lemma=>kernel_rfl) rfl)
def zeC (s1:List Gapi_Row):Option (List Gapi_Row) :=
grd (s1.length*56≤140737488355328) <|
some s1
theorem zf3 {vvs1 vs1:Value} {Ls1:List Gapi_Row} {ks1:Nat} {s1:List Gapi_Row} (hws1:Vw vvs1 Ls1 6 ks1 vs1 s1) {r:(List Gapi_Row)} (h:zeC s1=some r):FnR Tryz.prog 44 [vs1] [zfh zbf 6 vvs1 ks1 Ls1] [] (fun v0:Value=>v0) (fun v0=>[vec zbf 33 6 v0 r]):=by
 obtain ⟨hb,h⟩:=zbr h
 cases h
 exact zuG hws1 hb
end Go.Proofs.YtbempdelckaccaaGreatDoor

namespace Go.Proofs.YtbempdelckaccaaGreatDoor
open Go.RowKit Go.Lib
set_option linter.unusedVariables false
set_option linter.unusedSimpArgs false
def zwx (g m:Nat) (e:TypeId):Asn :=
  ⟨fun C w=>(∀ k,C k↔k=g)∧∃ cur:Array Value,w.heap[g]?=some (.cells cur e (0,0))∧cur.size=m,
   fun h k hk=>by
     obtain ⟨h1,cur,h2,_⟩:=h
     rw [(h1 k).1 hk]
     exact (Array.getElem?_eq_some_iff.1 h2).1,
   fun h _ hk=>by
     obtain ⟨h1,cur,h2,h3⟩:=h
     exact ⟨h1,cur,(hk g ((h1 g).2 rfl)).trans h2,h3⟩⟩
theorem zpH {P:Program} {t e:TypeId} {size:Nat} {gb m c:Nat} (ht:P.underlying t=some (.slice e)) (hT:SizeOk P e size) (w:World) :
  (Instr.sliceAt t (.slice (some ⟨gb,0,none⟩) m c) none (some (.int .i64 (c:Int))) none).run P w=.ok (.slice (some ⟨gb,0,none⟩) c c) w:=by
 obtain ⟨ii,hu,hs⟩:=hT.some
 have e1:∀ w:World,(Instr.sliceBounds true m c none (some (.int .i64 (c:Int))) none).run P w=.ok (0,c,c) w:=by
  intro w
  unfold Instr.sliceBounds
  simp [Sem.run_bind,Instr.sliceBound,asIntOf]
 simp only [Instr.sliceAt,Instr.slice,Sem.run_bind,run_underlying ht,Result.andThen_ok,e1]
 simp [sizeOf,typeInfo,hu,Sem.run_bind,Addr.add]
section
variable {α:Type} {enc:α→List Value} {size:Nat} {vv v:Value} {xs:List α} {F:Fence} {P:Program} {w0:World} {K:Nat→Prop} {N:Nat} {dfs:List Deferred} {ops:Array Oper} {Q:Exit→Act→World→Prop} {rest:List Oper} {σ:List (Nat×Value)} {L:List Asn}
 {d d1 d2 k b n gb:Nat} {t tt te ty ty2 e:TypeId} {pos pos2:String} {aft aft2:Array Edge} {g g1 g2:Option (Nat×Bool)} {x y s:Operand}
theorem zrO [WideF F] (ht:P.underlying t=some (.slice e)) (htt:P.underlying tt=some (.slice te)) (hT:SizeOk P e size) (hg1:gd ops σ g1=some true) (hg2:∀ v,gd ops ((d1,v)::σ) g2=some true) (hd1:d1<N) (hd2:d2<N) (hx:ev σ x=some vv) (hs:∀ v,ev ((d1,v)::σ) s=some vv)
  (hk:L[k]?=some (vec enc e size vv xs)) (hne:0<xs.length)
  (h:∀ gb n:Nat,n≤maxLen→TO F P w0 K N dfs ops Q rest ((d2,.slice (some ⟨gb,0,none⟩) n n)::(d1,.int .i64 (n:Int))::σ) (L.set k (zwx gb (n*size) e))) :
  TO F P w0 K N dfs ops Q (⟨some d1,.call { callee:=.builtin .cap,args:=#[x],argTypes:=#[tt] },ty,pos,aft,g1⟩::⟨some d2,.slice t s none (some (.tmp d1)) none,ty2,pos2,aft2,g2⟩::rest) σ L:=by
 refine zfU hg1 (by simp) fun a w ha hw => ?_
 obtain ⟨C,hV1,_⟩:=hw.focus hk
 obtain ⟨gb,cap,hvv,hcap⟩:∃ gb cap,vv=.slice (some ⟨gb,0,none⟩) xs.length cap∧cap≤maxLen:=by
  rcases Vec.shape hV1 with ⟨_,h2,_⟩ | ⟨gb,cap,h1,_,_,h3,_⟩
  ·rw [h2] at hne; simp at hne
  ·exact ⟨gb,cap,h1,h3⟩
 refine ⟨.int .i64 (cap:Int),w,?_,?_⟩
 ·simp [execOp,resolve,invoke,builtin,ha.ev hx,hvv,Builtin.cap_,run_underlying htt,Sem.run_bind,goInt]
 ·refine zfU (hg2 _) (by simp) (fun a w ha hw => ?_) _ _ (ha.put hd1 _) hw
  obtain ⟨C,hV1,hstep⟩:=hw.focus hk
  have hr:=zpH (P:=P) (gb:=gb) (m:=xs.length) (c:=cap) ht hT w
  have h2:ev ((d1,Value.int .i64 (cap:Int))::σ) (.tmp d1)=some (.int .i64 (cap:Int)):=by simp [ev]
  refine ⟨.slice (some ⟨gb,0,none⟩) cap cap,w,?_,h gb cap hcap _ _ (ha.put hd2 _) (hstep _ C w (Ext.refl _ _) ?_)⟩
  ·have h1:=ha.ev (hs (.int .i64 (cap:Int)))
   rw [hvv] at h1
   simp only [execOp,h1,ha.ev h2,Option.map_none,Option.map_some,Sem.run_bind,hr]; rfl
  ·obtain ⟨⟨_,hn | ⟨g',c',cur,e1,_,e3,_,_,e6,_⟩⟩,hC⟩:=hV1
   ·rw [hvv] at hn; cases hn.1
   ·rw [hvv] at e1 hC
    cases e1
    refine ⟨fun k => ?_,cur,e3,e6⟩
    rw [hC]
    simp only [Value.ownBlock,Option.some.injEq]
    exact ⟨fun h=>h.symm,fun h=>h.symm⟩
theorem zrM [WideF F] {q:Option Addr} {m c:Nat} (hg:gd ops σ g=some true) (hd:d<N) (hx:ev σ x=some (.slice q m c)) (ht:P.underlying tt=some (.slice te))
  (h:TO F P w0 K N dfs ops Q rest ((d,.int .i64 (m:Int))::σ) L):TO F P w0 K N dfs ops Q (⟨some d,.call { callee:=.builtin .len,args:=#[x],argTypes:=#[tt] },ty,pos,aft,g⟩::rest) σ L :=
 zdB hg hd (by simp) (fun a w ha hw=>by
  have:=ha.ev hx
  simp [execOp,resolve,invoke,builtin,this,Builtin.len_,run_underlying ht,Sem.run_bind,goInt]) h
theorem zoP [WideF F] {off:Nat} (hb:b<n) (ht:P.underlying t=some (.slice e)) (hT:SizeOk P e size) (hg:gd ops σ g=some true) (hd:d<N) (hx:ev σ x=some (.slice (some ⟨gb,0,none⟩) n n)) (hy:ev σ y=some (.int .i64 (b:Int)))
  (ho:b*size=off)
  (h:TO F P w0 K N dfs ops Q rest ((d,.pointer (some ⟨gb,off,none⟩))::σ) L):TO F P w0 K N dfs ops Q (⟨some d,.indexAddr t x y,ty,pos,aft,g⟩::rest) σ L:=by
 obtain ⟨ii,hu,hs⟩:=hT.some
 subst ho; subst hs
 refine zdB hg hd (by simp) (fun a w ha hw => ?_) h
 have h1:=ha.ev hx; have h2:=ha.ev hy
 simp [execOp,Instr.indexAt,h1,h2,asIntOf,run_underlying ht,Sem.run_bind,hb,sizeOf,typeInfo,hu,Addr.add_mid]
theorem zoO [WideF F] {j off:Nat} (hT:SizeOk P t 1) (hg:gd ops σ g=some true) (hx:ev σ x=some (.pointer (some ⟨gb,off,none⟩))) (hy:ev σ y=some v) (hk:L[k]?=some (zwx gb (n*size) e)) (hb:b<n) (ho:off=b*size+j) (hj:j<size) (h1:v.oneCell'=true)
  (h:TO F P w0 K N dfs ops Q rest σ L):TO F P w0 K N dfs ops Q (⟨none,.store t x y,ty,pos,aft,g⟩::rest) σ L:=by
 obtain ⟨ii,hi,hsz⟩:=hT.some
 have hlt:off<n*size:=by
  have:(b+1)*size≤n*size:=Nat.mul_le_mul_right _ hb
  rw [Nat.add_mul,Nat.one_mul] at this
  omega
 refine zgr hg (by simp) fun a w ha hw => ?_
 obtain ⟨C,hV,hstep⟩:=hw.focus hk
 obtain ⟨hC,cur,hh,hcs⟩:=hV
 have hvc:v.cells=#[v]:=by cases v <;> simp_all [Value.cells,Value.oneCell']
 obtain ⟨u,hu⟩:∃ u,cur[off]?=some u:=⟨_,Array.getElem?_eq_getElem (by omega)⟩
 have hc:w.cell? ⟨gb,off,none⟩=some u:=by simp [World.cell?,hh,hu]
 have hf:w.frozen? ⟨gb,off,none⟩=false:=by simp [World.frozen?,hh]
 have hset:L.set k (zwx gb (n*size) e)=L:=by
  apply List.ext_getElem?
  intro i
  rw [List.getElem?_set]
  split
  ·rename_i h9; subst h9
   rw [hk]
   have:=(List.getElem?_eq_some_iff.1 hk).1
   rw [if_pos this]
  ·rfl
 rw [← hset] at h
 refine ⟨w.setCell ⟨gb,off,none⟩ v,by
  simp [execOp,ha.ev hx,ha.ev hy,Instr.storeAt,Instr.sureAddr,storeVar,sizeOf,typeInfo,hi,hsz,hvc,storeCells,Sem.run_bind,run_store _ _ _ _ _ h1,hc,hf,Addr.add],h _ _ ha (hstep _ C _ ?_ ?_)⟩
 ·refine (Ext.refl _ _).setCell ?_ _
  exact (hC gb).2 rfl
 ·refine ⟨hC,cur.setIfInBounds off v,?_,by simp [hcs]⟩
  simp [World.setCell,Array.getElem?_modify,hh]
end
end Go.Proofs.YtbempdelckaccaaGreatDoor

namespace Go.Proofs.YtbempdelckaccaaGreatDoor
open Go.RowKit Go.Lib Go.ChangeShapes Go.WideShapes
set_option linter.unusedVariables false
set_option linter.unusedSimpArgs false
theorem FnR.p {P:Program} {f:FuncId} {vs:List Value} {RD:List Asn} {v:Value} (h:FnR P f vs RD [] (fun _:Unit=>v) (fun _=>[])) (w:World) (hr:Rd w (fun _=>False) RD):Calls P f vs.toArray w fun e w'=>e=.returned v∧Below w.heap.size w w' :=
 (h w (fun _=>False) hr (fun _ h=>h)).mono fun e w' ⟨_,h1,C',h2,h3⟩=>⟨h1,h3.toBelow (Nat.le_refl _) (fun _ _ h=>h)⟩
section
variable {H:Type} {enc:TypeId×Value→H} {P:Program} {w:World} {base:Nat} {held:Bool} {zbN:Nat} {t e:TypeId} {cs:List Value} {x:DataW H×List MemPlace}
theorem zsk {q:IntKind} {fs:Array Field} (ht:P.underlying t=some (.struct fs)) (hfs:fs.toList.map (fun f=>(f.type,f.offset))=[(e,0),(e,1),(e,2),(e,3)]) (hsz:P.cellsOf t=4) (h1:P.cellsOf e=1) (he:P.underlying e=some (.int q)) {sp:Nat→Bool} (h:DataW.trod enc P w base sp held zbN t cs=some x) :
  ∃ a b c d:Int,cs=[.int q a,.int q b,.int q c,.int q d]∧(Lit.int q a).wf=true∧(Lit.int q b).wf=true∧(Lit.int q c).wf=true∧(Lit.int q d).wf=true:=by
 obtain ⟨xs,n,rfl,rfl,hl,hx,hf⟩:=DataW.trod_struct ht h
 rw [hsz] at hl
 have key:∀ i,i<4→∃ z,DataW.trod enc P w base sp held n e ((cs.drop i).take 1)=some z:=by
  intro i hi
  have hg:(fs.toList.map (fun f=>(f.type,f.offset)))[i]?=some (e,i):=by
   rw [hfs]
   have:i=0∨i=1∨i=2∨i=3:=by omega
   rcases this with rfl | rfl | rfl | rfl <;> rfl
  rw [List.getElem?_map] at hg
  cases hq:fs.toList[i]? with
  | none=>rw [hq] at hg; cases hg
  | some f =>
   rw [hq] at hg
   have hfe:(f.type,f.offset)=(e,i):=Option.some.inj hg
   have h2:=hf i f (by rw [← Array.getElem?_toList]; exact hq)
   rw [(Prod.mk.inj hfe).1,(Prod.mk.inj hfe).2,h1] at h2
   have hsz4:fs.size=4:=by have:=congrArg List.length hfs; simpa using this
   rw [List.getElem?_eq_getElem (by omega)] at h2
   exact ⟨_,h2⟩
 match cs,hl with
 | [c0,c1,c2,c3],_ =>
  obtain ⟨z0,k0⟩:=key 0 (by decide)
  obtain ⟨z1,k1⟩:=key 1 (by decide)
  obtain ⟨z2,k2⟩:=key 2 (by decide)
  obtain ⟨z3,k3⟩:=key 3 (by decide)
  obtain ⟨a,ea,_,wa⟩:=DataW.trod_int he k0
  obtain ⟨b,eb,_,wb⟩:=DataW.trod_int he k1
  obtain ⟨c,ec,_,wc⟩:=DataW.trod_int he k2
  obtain ⟨d,ed,_,wd⟩:=DataW.trod_int he k3
  simp at ea eb ec ed
  exact ⟨a,b,c,d,by rw [ea,eb,ec,ed],wa,wb,wc,wd⟩
theorem see_layout {q:IntKind} {fs:Array Field} {v:Value} {d:DataW H} {ps:List MemPlace} {r:Reach} {b0:Nat} {sp:Nat→Bool} (ht:P.underlying t=some (.struct fs)) (hfs:fs.toList.map (fun f=>(f.type,f.offset))=[(e,0),(e,1),(e,2),(e,3)]) (hsz:P.cellsOf t=4) (h1:P.cellsOf e=1) (he:P.underlying e=some (.int q)) (hval:Value.okWide P w r b0 t v) (h:DataW.Trod enc P w base sp held t v d ps) :
  ∃ a b c g:Int,v=.agg #[.int q a,.int q b,.int q c,.int q g]:=by
 obtain ⟨cs,rfl,hcs⟩:=okWide_struct ht hval
 obtain ⟨zbN,h⟩:=h
 have h:DataW.trod enc P w base sp held zbN t cs.toList=some (d,ps):=h
 obtain ⟨a,b,c,g,h2,_⟩:=zsk ht hfs hsz h1 he h
 exact ⟨a,b,c,g,by rw [← h2]⟩
end
end Go.Proofs.YtbempdelckaccaaGreatDoor
