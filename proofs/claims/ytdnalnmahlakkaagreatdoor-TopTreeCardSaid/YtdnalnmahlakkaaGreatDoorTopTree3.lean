/-
  Texts laid together: Wi. Nothing is assumed.
-/
import Derived.Test.YtdnalnmahlakkaaGreatDoorTopTree2
set_option maxRecDepth 100000
set_option maxHeartbeats 4000000
namespace Go.Proofs.YtdnalnmahlakkaaGreatDoor
open Go.RowKit Go.Lib
open Tryz
set_option linter.unusedVariables false
set_option linter.unusedSimpArgs false
section
open Go.ChangeShapes Go.WideShapes
section
variable {H:Type} {enc:TypeId×Value→H} {P:Program} {w:World} {base:Nat} {held:Bool} {zc9:Nat} {t e:TypeId} {cs:List Value} {x:DataW H×List MemPlace}
theorem see_wit {ts:TypeId} {fs:Array Field} (ht:P.underlying t=some (.struct fs)) (hfs:fs.toList.map (fun f=>(f.type,f.offset))=[(ts,0),(ts,1)]) (h2:P.cellsOf t=2) (hs1:P.cellsOf ts=1) (hs:P.underlying ts=some .string)
  (h:DataW.trod enc P w base (fun _=>true) held zc9 t cs=some x) :
  ∃ (a b:zBA),cs=[.string a,.string b]∧x.1=.agg [.lit (.string a.data.toList),.lit (.string b.data.toList)]:=by
 have h20:fs.size=2:=by have:=congrArg List.length hfs; simpa using this
 obtain ⟨xs,n,rfl,hx,hl2,hxl,hf⟩:=DataW.trod_struct ht h
 rw [h2] at hl2
 match cs,hl2 with
 | [c0,c1],_ =>
  obtain ⟨z0,x0,k0⟩:=zmr (i:=0) hfs hxl hf rfl hs1
  obtain ⟨z1,x1,k1⟩:=zmr (i:=1) hfs hxl hf rfl hs1
  obtain ⟨a,e0,f0,_⟩:=DataW.trod_string hs k0
  obtain ⟨b,e1,f1,_⟩:=DataW.trod_string hs k1
  simp at e0 e1
  subst e0 e1
  refine ⟨a,b,rfl,?_⟩
  match xs,hxl.trans h20 with
  | [w0,w1],_ =>
   simp at x0 x1
   rw [hx,← (show w0.1=.lit (.string a.data.toList) by rw [x0,f0]),← (show w1.1=.lit (.string b.data.toList) by rw [x1,f1])]
   rfl
theorem zow {ts:TypeId} {fs:Array Field} (ht:P.underlying e=some (.struct fs)) (hfs:fs.toList.map (·.type)=[ts,ts]) (l m:List UInt8):l.length∈DataW.weights P e (.agg [.lit (.string l),.lit (.string m)]:DataW H):=by
 simp only [DataW.weights,ht,hfs,DataW.weightsEach]
 simp
theorem weight_wits {ts:TypeId} {fs:Array Field} (hu:P.underlying t=some (.slice e)) (ht:P.underlying e=some (.struct fs)) (hfs:fs.toList.map (·.type)=[ts,ts]) {A B:List (DataW H)} {l m:List UInt8} (hm : .agg [.lit (.string l),.lit (.string m)]∈A):l.length∈DataW.weights P t (.slice A B):=by
 simp only [DataW.weights,hu]
 exact List.mem_cons_of_mem _ (List.mem_append_left _ (zin (zow ht hfs l m) hm))
end
end
end Go.Proofs.YtdnalnmahlakkaaGreatDoor
