/-
  Texts laid together: WordA, WordB, WordC, WordD, WordE, Wd, LtW, LtP, LgI, LgF, LtT, PlTopPages. Nothing is assumed.
-/
import Derived.Test.YtmmhmppcemfdcaaGreatDoorTopPages2
import Derived.Test.YtmmhmppcemfdcaaGreatDoorTopPages1
import Derived.Test.YtmmhmppcemfdcaaGreatDoorTopPages5
import Derived.Test.YtmmhmppcemfdcaaGreatDoorTopPages4
import Derived.Test.YtmmhmppcemfdcaaGreatDoorTopPages3
set_option maxRecDepth 100000
set_option maxHeartbeats 4000000
namespace Go.Proofs.YtmmhmppcemfdcaaGreatDoor
open Go.RowKit Go.Lib
open Tryz
set_option linter.unusedVariables false
set_option linter.unusedSimpArgs false
theorem zqH (r:Int) (hv:0≤r∧(r<55296∨(57343<r∧r≤1114111))) (hr:¬ r=65533):¬ Utf8.encode r=⟨#[239,191,189]⟩:=by
  intro h
  obtain ⟨n,rfl⟩:=Int.eq_ofNat_of_zero_le hv.1
  have h1:encodeRune ((n:Nat):Int)=[239,191,189]:=by rw [← zh0,h]
  have h2:=zoM n (by omega) []
  have h3:=zoM 65533 (by omega) []
  rw [h1] at h2
  rw [zoK] at h3
  rw [h2] at h3
  have:=(Prod.mk.inj h3).1
  omega
theorem zvb (s:zBA) (p:Pc) (hp:p∈pcs s.data.toList):(pcs (s.extract p.i s.size).data.toList)[0]?=some ⟨0,p.w,p.r⟩:=by
  obtain ⟨g1,g2,hok⟩:=ziA s.data.toList p hp
  have hlen:s.data.toList.length=s.size:=by rw [Array.length_toList]; rfl
  have he:=zt6 s p.i
  rw [he]
  have hne:s.data.toList.drop p.i≠[]:=by
    intro h; have:=congrArg List.length h; simp at this; omega
  unfold pcs
  rw [zcU _ _ hne,hok.eq]; rfl
theorem zob (r:Int) (hv:0≤r∧(r<55296∨(57343<r∧r≤1114111))):FnP prog 68 [.int .i32 r] (zI ((Utf8.encode r).size:Int)):=by
 by_cases hr:r=65533
 ·
  skip
  refine FnP.intro func68 rfl ntmps68 (by simp) ?_
  intro w0 K
  refine zyG (zyR 1 rfl (zyN (zaE (zyG (zyR 1 rfl (zaS rfl (zbZ (congrArg Value.bool (show ((r:Int) != 65533)=false from (bne_eq_false_iff_eq.2 hr))) zbH) (zyR 4 rfl ?_)))))))
  refine zyR 1 rfl (zyN (zaM rfl (zal (zay (zyG (zyR 1 rfl (zgs rfl dc rfl (zfg underlying21 underlying9) (zbC rfl dc rfl underlying9 (zyR 1 rfl (zyN ?_))))))))))
  refine zau ?_
  exact za2 2 results68
 skip
 refine FnP.intro func68 rfl ntmps68 (by simp) ?_
 intro w0 K
 refine zyG (zyR 1 rfl (zyN (zaE (zyG (zyR 1 rfl (zaS rfl (zbZ (congrArg Value.bool (show ((r:Int) != 65533)=true from (bne_iff_ne.2 hr))) zbH) (zyR 2 rfl (zgs rfl dc rfl (zfg underlying21 underlying9) (zaS rfl (zbZ (congrArg Value.bool (show (decide (Utf8.encode r=⟨#[239,191,189]⟩))=false from (decide_eq_false (zqH r hv hr)))) zhv) ?_)))))))))
 refine zyR 1 rfl (zyN (zaM rfl (zal (zay (zyG (zyR 1 rfl (zgs rfl dc rfl (zfg underlying21 underlying9) (zbC rfl dc rfl underlying9 (zyR 1 rfl (zyN ?_))))))))))
 refine zau ?_
 exact za2 2 results68
theorem zyZ (s:zBA) (hs:s.size≤9223372036854775800) (p:Pc) (hp:p∈pcs s.data.toList):FnP prog 44 [.string s,zI p.i] (.agg #[zI p.i,zI p.w,.int .i32 p.r,.bool p.broken]):=by
 obtain ⟨g1,g2,hok⟩:=ziA s.data.toList p hp
 have hlen:s.data.toList.length=s.size:=by rw [Array.length_toList]; rfl
 rw [hlen] at g2
 have hval:=hok.valid
 have hq:=zvb s p hp
 have hsl3:p.i+3≤s.size→(s.extract p.i (p.i+3)).data.toList=(s.data.toList.drop p.i).take 3:=fun h=>by rw [Lib.extract_data]; simp
 by_cases hr:p.r=65533
 ·
  by_cases hw:p.w=1
  ·
   have hb:p.broken=true:=by simp [Pc.broken,hr,hw]
   have hres:ziy [.agg #[zI p.i,zI 1,.int .i32 65533,.bool true]]=Value.agg #[zI p.i,zI p.w,.int .i32 p.r,.bool p.broken]:=by rw [hb,hr,hw]; rfl
   by_cases h3:s.size - p.i<3
   ·
    skip
    refine FnP.intro func44 rfl ntmps44 (by simp) ?_
    intro w0 K
    refine zyG ?_
    refine zbh zlt rfl dc (fun b1 => ?_)
    refine zyN (zaE (zyG (zyR 2 rfl (zdA rfl dc rfl rfl rfl (ze7 (i:=p.i) (j:=s.size) underlying9 (.inr rfl) (.inl ⟨rfl,rfl⟩) (by omega) (Nat.le_refl _)) ?_))))
    refine zc9 underlying9 rfl dc rfl (fun b2 => ?_)
    refine zyN (zaG ?_)
    refine zmZ (β:=Unit) (fun _u=>True) (fun _u=>[(0,.string s),(1,zI (p.i:Int)),(4,zP b1),(11,zP b2)]) (fun _u=>[cells b1 [zI 0,zI 0,.int .i32 0,.bool false] 60,obj b2 (.stringIter (s.extract p.i s.size) (zfl (s.extract p.i s.size) 0))]) (fun _u=>0) () trivial (zbf rfl) (zab [0,1] kr rfl) ?_
    rintro _ _
    refine zyG (zdy (k:=1) (m:=0) (p:=⟨0,p.w,p.r⟩) rfl dc rfl rfl hq (zaN rfl dc rfl rfl (zyN (zaE (zba rfl (zal (zay (zaG (zyG (zaN rfl dc rfl rfl ?_))))))))))
    refine zyR 1 rfl (zyH (zyR 1 rfl (zbg (v:=zI ((Utf8.encode (p.r:Int)).size:Int)) (vs:=[.int .i32 (p.r:Int)]) rfl dc rfl rfl rfl zua (zob _ (by omega)) (zyR 1 rfl (zyN (zaE (zyG (zyR 1 rfl ?_))))))))
    refine zaS rfl (zbZ (congrArg Value.bool (show (((p.r:Int):Int)==65533)=true from (beq_iff_eq.2 (by omega)))) zaL) (zyR 2 rfl (zbC rfl dc rfl underlying9 (zyR 1 rfl (zaS rfl (zce (r:=(s.size:Int) - (p.i:Int)) (IntWalk.i64_in _ (by omega))) (zaS rfl (zbZ (congrArg Value.bool (show (decide ((((s.size:Int) - (p.i:Int)):Int)<3))=true from (decide_eq_true (by omega)))) zbF) (zyR 7 rfl ?_))))))
    refine zyR 2 rfl (zyN (zba rfl (zyG (zyR 1 rfl ?_))))
    refine zbA (v:=.agg #[zI (p.i:Int),zI 1,.int .i32 65533,.bool true]) (ps:=[(0,.tmp 34),(1,.const (zI 1)),(2,.const (.int .i32 65533)),(3,.const (.bool true))]) rfl dc rfl (fun _=>by kernel_rfl) ?_
    refine zaZ (k:=0) (vs:=[zI (p.i:Int),zI 1,.int .i32 65533,.bool true]) (l':=[zI (p.i:Int),zI 1,.int .i32 65533,.bool true]) zhE rfl rfl rfl rfl rfl (Nat.le_of_ble_eq_true rfl) rfl rfl ?_
    refine zyN (zau (zaf (zag (zaf (zag (zaf ?_))))))
    exact zbt (rs:=[.cell 4 60]) () (.inl rfl) results44 (.cons (.cells zfN (k:=0) rfl rfl rfl) .nil) hres Splits.nil
   have hsl:¬ s.extract p.i (p.i+3)=⟨#[239,191,189]⟩:=fun h=>hok.lost_bad hr hw (by rw [← hsl3 (by omega),h])
   refine FnP.intro func44 rfl ntmps44 (by simp) ?_
   intro w0 K
   refine zyG ?_
   refine zbh zlt rfl dc (fun b1 => ?_)
   refine zyN (zaE (zyG (zyR 2 rfl (zdA rfl dc rfl rfl rfl (ze7 (i:=p.i) (j:=s.size) underlying9 (.inr rfl) (.inl ⟨rfl,rfl⟩) (by omega) (Nat.le_refl _)) ?_))))
   refine zc9 underlying9 rfl dc rfl (fun b2 => ?_)
   refine zyN (zaG ?_)
   refine zmZ (β:=Unit) (fun _u=>True) (fun _u=>[(0,.string s),(1,zI (p.i:Int)),(4,zP b1),(11,zP b2)]) (fun _u=>[cells b1 [zI 0,zI 0,.int .i32 0,.bool false] 60,obj b2 (.stringIter (s.extract p.i s.size) (zfl (s.extract p.i s.size) 0))]) (fun _u=>0) () trivial (zbf rfl) (zab [0,1] kr rfl) ?_
   rintro _ _
   refine zyG (zdy (k:=1) (m:=0) (p:=⟨0,p.w,p.r⟩) rfl dc rfl rfl hq (zaN rfl dc rfl rfl (zyN (zaE (zba rfl (zal (zay (zaG (zyG (zaN rfl dc rfl rfl ?_))))))))))
   refine zyR 1 rfl (zyH (zyR 1 rfl (zbg (v:=zI ((Utf8.encode (p.r:Int)).size:Int)) (vs:=[.int .i32 (p.r:Int)]) rfl dc rfl rfl rfl zua (zob _ (by omega)) (zyR 1 rfl (zyN (zaE (zyG (zyR 1 rfl ?_))))))))
   refine zaS rfl (zbZ (congrArg Value.bool (show (((p.r:Int):Int)==65533)=true from (beq_iff_eq.2 (by omega)))) zaL) (zyR 2 rfl (zbC rfl dc rfl underlying9 (zyR 1 rfl (zaS rfl (zce (r:=(s.size:Int) - (p.i:Int)) (IntWalk.i64_in _ (by omega))) (zaS rfl (zbZ (congrArg Value.bool (show (decide ((((s.size:Int) - (p.i:Int)):Int)<3))=false from (decide_eq_false (by omega)))) zbF) (zyR 4 rfl (zaS rfl (zbb (r:=((p.i+3:Nat):Int)) (by rw [IntWalk.i64_in _ (by omega)]; omega)) (zdA rfl dc rfl rfl rfl (ze7 (i:=p.i) (j:=p.i+3) underlying9 (.inr rfl) (.inr rfl) (by omega) (by omega)) (zaS rfl (zbZ (congrArg Value.bool (show (!decide (s.extract p.i (p.i+3)=⟨#[239,191,189]⟩))=true from (by rw [decide_eq_false hsl]; rfl))) zgW) ?_)))))))))
   refine zyR 2 rfl (zyN (zba rfl (zyG (zyR 1 rfl ?_))))
   refine zbA (v:=.agg #[zI (p.i:Int),zI 1,.int .i32 65533,.bool true]) (ps:=[(0,.tmp 34),(1,.const (zI 1)),(2,.const (.int .i32 65533)),(3,.const (.bool true))]) rfl dc rfl (fun _=>by kernel_rfl) ?_
   refine zaZ (k:=0) (vs:=[zI (p.i:Int),zI 1,.int .i32 65533,.bool true]) (l':=[zI (p.i:Int),zI 1,.int .i32 65533,.bool true]) zhE rfl rfl rfl rfl rfl (Nat.le_of_ble_eq_true rfl) rfl rfl ?_
   refine zyN (zau (zaf (zag (zaf (zag (zaf ?_))))))
   exact zbt (rs:=[.cell 4 60]) () (.inl rfl) results44 (.cons (.cells zfN (k:=0) rfl rfl rfl) .nil) hres Splits.nil
  have hb:p.broken=false:=by simp [Pc.broken,hw]
  obtain ⟨e1,e2⟩:=hok.lost_ok hr hw
  have hsz:(Utf8.encode (p.r:Int)).size=p.w:=by rw [zhc]; exact hok.width (fun h=>hw h.2)
  have hres:ziy [.agg #[zI p.i,zI ((Utf8.encode (p.r:Int)).size:Int),.int .i32 p.r,.bool false]]=Value.agg #[zI p.i,zI p.w,.int .i32 p.r,.bool p.broken]:=by rw [hb,hsz]; rfl
  have hsl:s.extract p.i (p.i+3)=⟨#[239,191,189]⟩:=by apply ByteArray.ext; apply Array.toList_inj.1; rw [hsl3 (by omega),e1]
  refine FnP.intro func44 rfl ntmps44 (by simp) ?_
  intro w0 K
  refine zyG ?_
  refine zbh zlt rfl dc (fun b1 => ?_)
  refine zyN (zaE (zyG (zyR 2 rfl (zdA rfl dc rfl rfl rfl (ze7 (i:=p.i) (j:=s.size) underlying9 (.inr rfl) (.inl ⟨rfl,rfl⟩) (by omega) (Nat.le_refl _)) ?_))))
  refine zc9 underlying9 rfl dc rfl (fun b2 => ?_)
  refine zyN (zaG ?_)
  refine zmZ (β:=Unit) (fun _u=>True) (fun _u=>[(0,.string s),(1,zI (p.i:Int)),(4,zP b1),(11,zP b2)]) (fun _u=>[cells b1 [zI 0,zI 0,.int .i32 0,.bool false] 60,obj b2 (.stringIter (s.extract p.i s.size) (zfl (s.extract p.i s.size) 0))]) (fun _u=>0) () trivial (zbf rfl) (zab [0,1] kr rfl) ?_
  rintro _ _
  refine zyG (zdy (k:=1) (m:=0) (p:=⟨0,p.w,p.r⟩) rfl dc rfl rfl hq (zaN rfl dc rfl rfl (zyN (zaE (zba rfl (zal (zay (zaG (zyG (zaN rfl dc rfl rfl ?_))))))))))
  refine zyR 1 rfl (zyH (zyR 1 rfl (zbg (v:=zI ((Utf8.encode (p.r:Int)).size:Int)) (vs:=[.int .i32 (p.r:Int)]) rfl dc rfl rfl rfl zua (zob _ (by omega)) (zyR 1 rfl (zyN (zaE (zyG (zyR 1 rfl ?_))))))))
  refine zaS rfl (zbZ (congrArg Value.bool (show (((p.r:Int):Int)==65533)=true from (beq_iff_eq.2 (by omega)))) zaL) (zyR 2 rfl (zbC rfl dc rfl underlying9 (zyR 1 rfl (zaS rfl (zce (r:=(s.size:Int) - (p.i:Int)) (IntWalk.i64_in _ (by omega))) (zaS rfl (zbZ (congrArg Value.bool (show (decide ((((s.size:Int) - (p.i:Int)):Int)<3))=false from (decide_eq_false (by omega)))) zbF) (zyR 4 rfl (zaS rfl (zbb (r:=((p.i+3:Nat):Int)) (by rw [IntWalk.i64_in _ (by omega)]; omega)) (zdA rfl dc rfl rfl rfl (ze7 (i:=p.i) (j:=p.i+3) underlying9 (.inr rfl) (.inr rfl) (by omega) (by omega)) (zaS rfl (zbZ (congrArg Value.bool (show (!decide (s.extract p.i (p.i+3)=⟨#[239,191,189]⟩))=false from (by rw [decide_eq_true hsl]; rfl))) zgW) ?_)))))))))
  refine zyR 2 rfl (zyN (zaM rfl (zal (zay (zyG (zyR 3 rfl ?_))))))
  refine zbA (v:=.agg #[zI (p.i:Int),zI ((Utf8.encode (p.r:Int)).size:Int),.int .i32 (p.r:Int),.bool false]) (ps:=[(0,.tmp 36),(1,.tmp 37),(2,.tmp 38)]) rfl dc rfl (fun _=>by kernel_rfl) ?_
  refine zaZ (k:=0) (vs:=[zI (p.i:Int),zI ((Utf8.encode (p.r:Int)).size:Int),.int .i32 (p.r:Int),.bool false]) (l':=[zI (p.i:Int),zI ((Utf8.encode (p.r:Int)).size:Int),.int .i32 (p.r:Int),.bool false]) zhE rfl rfl rfl rfl rfl (Nat.le_of_ble_eq_true rfl) rfl rfl ?_
  refine zyN (zau (zag (zaf (zag (zaf ?_)))))
  exact zbt (rs:=[.cell 4 60]) () (.inl rfl) results44 (.cons (.cells zfN (k:=0) rfl rfl rfl) .nil) hres Splits.nil
 have hb:p.broken=false:=by simp [Pc.broken,hr]
 have hsz:(Utf8.encode (p.r:Int)).size=p.w:=by rw [zhc]; exact hok.width (fun h=>hr h.1)
 have hres:ziy [.agg #[zI p.i,zI ((Utf8.encode (p.r:Int)).size:Int),.int .i32 p.r,.bool false]]=Value.agg #[zI p.i,zI p.w,.int .i32 p.r,.bool p.broken]:=by rw [hb,hsz]; rfl
 refine FnP.intro func44 rfl ntmps44 (by simp) ?_
 intro w0 K
 refine zyG ?_
 refine zbh zlt rfl dc (fun b1 => ?_)
 refine zyN (zaE (zyG (zyR 2 rfl (zdA rfl dc rfl rfl rfl (ze7 (i:=p.i) (j:=s.size) underlying9 (.inr rfl) (.inl ⟨rfl,rfl⟩) (by omega) (Nat.le_refl _)) ?_))))
 refine zc9 underlying9 rfl dc rfl (fun b2 => ?_)
 refine zyN (zaG ?_)
 refine zmZ (β:=Unit) (fun _u=>True) (fun _u=>[(0,.string s),(1,zI (p.i:Int)),(4,zP b1),(11,zP b2)]) (fun _u=>[cells b1 [zI 0,zI 0,.int .i32 0,.bool false] 60,obj b2 (.stringIter (s.extract p.i s.size) (zfl (s.extract p.i s.size) 0))]) (fun _u=>0) () trivial (zbf rfl) (zab [0,1] kr rfl) ?_
 rintro _ _
 refine zyG (zdy (k:=1) (m:=0) (p:=⟨0,p.w,p.r⟩) rfl dc rfl rfl hq (zaN rfl dc rfl rfl (zyN (zaE (zba rfl (zal (zay (zaG (zyG (zaN rfl dc rfl rfl ?_))))))))))
 refine zyR 1 rfl (zyH (zyR 1 rfl (zbg (v:=zI ((Utf8.encode (p.r:Int)).size:Int)) (vs:=[.int .i32 (p.r:Int)]) rfl dc rfl rfl rfl zua (zob _ (by omega)) (zyR 1 rfl (zyN (zaE (zyG (zyR 1 rfl ?_))))))))
 refine zaS rfl (zbZ (congrArg Value.bool (show (((p.r:Int):Int)==65533)=false from (beq_eq_false_iff_ne.2 (by omega)))) zaL) (zyR 13 rfl ?_)
 refine zyR 2 rfl (zyN (zaM rfl (zal (zay (zyG (zyR 3 rfl ?_))))))
 refine zbA (v:=.agg #[zI (p.i:Int),zI ((Utf8.encode (p.r:Int)).size:Int),.int .i32 (p.r:Int),.bool false]) (ps:=[(0,.tmp 36),(1,.tmp 37),(2,.tmp 38)]) rfl dc rfl (fun _=>by kernel_rfl) ?_
 refine zaZ (k:=0) (vs:=[zI (p.i:Int),zI ((Utf8.encode (p.r:Int)).size:Int),.int .i32 (p.r:Int),.bool false]) (l':=[zI (p.i:Int),zI ((Utf8.encode (p.r:Int)).size:Int),.int .i32 (p.r:Int),.bool false]) zhE rfl rfl rfl rfl rfl (Nat.le_of_ble_eq_true rfl) rfl rfl ?_
 refine zyN (zau (zag (zaf (zag (zaf ?_)))))
 exact zbt (rs:=[.cell 4 60]) () (.inl rfl) results44 (.cons (.cells zfN (k:=0) rfl rfl rfl) .nil) hres Splits.nil
theorem zna {α:Type} {l:List α} {k:Nat} {p:α} (h:l[k]?=some p):l=l.take k++p::l.drop (k+1):=by
  obtain ⟨hk,hp⟩:=List.getElem?_eq_some_iff.1 h
  have h1:=List.drop_eq_getElem_cons hk
  rw [hp] at h1
  rw [← h1,List.take_append_drop]
theorem zs5 {α:Type} (L:List α) (k:Nat) (x:α) (h:L[k]?=some x):L.take (k+1)=L.take k++[x]:=by
  obtain ⟨hk,rfl⟩:=List.getElem?_eq_some_iff.1 h
  simp
def uK:Option Un→Int | none=>0 | some n=>n.k
def uR:Option Un→Int | none=>0 | some n=>n.r
def uF:Option Un→Int | none=>0 | some n=>n.f
def uT:Option Un→Int | none=>0 | some n=>n.t
def uA:Option Un→Bool | none=>false | some n=>n.al
def unV (u:Un):List Value:=[zI u.k,.int .i32 u.r,zI u.f,zI u.t,.bool u.al]
def unA (u:Un):List Value:=[.agg (unV u).toArray]
theorem zo5 (s:zBA) (hs:s.size≤4611686018427387904) (Bs:Nat):Itr prog 67 [zP Bs] pcA (pcs s.data.toList) [(Bs,.cells #[.string s] 9 (0,0))]:=by
 refine Itr.intro func67 rfl ntmps67 (by simp) ?_
 intro l w0 K I X hRo hy
 refine zyG (zgF (i:=0) hRo zhk rfl dc rfl rfl rfl ?_)
 refine zc9 underlying9 rfl dc rfl (fun b1 => ?_)
 refine zyN (zaG ?_)
 refine zmZ (β:=Nat) (fun k=>True) (fun k=>[(0,.func (.yield l) #[] #[]),(1,zP Bs),(5,zP b1)]) (fun k=>[I ((pcs s.data.toList).take k),obj b1 (.stringIter s (zfl s k))]) (fun k=>(pcs s.data.toList).length - k) 0 trivial (zbf rfl) (zab [0,1] kr rfl) ?_
 rintro k _
 by_cases hlt:k<(pcs s.data.toList).length
 ·
  obtain ⟨p,hp⟩:∃ p,(pcs s.data.toList)[k]?=some p:=⟨_,List.getElem?_eq_getElem hlt⟩
  have hz:pcs s.data.toList=(pcs s.data.toList).take k++p::(pcs s.data.toList).drop (k+1):=zna hp
  refine zyG (zdy (k:=1) (m:=k) (p:=p) rfl dc rfl rfl hp (zaN rfl dc rfl rfl (zyN (zaE (zba rfl (zal (zay (zaG (zyG (zaN rfl dc rfl rfl ?_))))))))))
  refine zyR 1 rfl (zyH (zyR 1 rfl (zgF (i:=0) hRo zhk rfl dc rfl rfl rfl (zyR 1 rfl (zbg (v:=.agg #[zI (p.i:Int),zI (p.w:Int),.int .i32 (p.r:Int),.bool p.broken]) (vs:=[.string s,zI (p.i:Int)]) rfl dc rfl rfl rfl zxH (zyZ s (by omega) p (List.mem_of_getElem? hp)) ?_)))))
  refine zdm hy rfl dc rfl hz rfl (k:=0) rfl ?_ ?_
  ·
   refine zdt rfl dc rfl zct (zyN (zaM rfl (zal (zae ?_))))
   skip
   refine zgc (k:=0) rfl (show I ((pcs s.data.toList).take k++[p])=I ((pcs s.data.toList).take (k+1)) from (congrArg I (zs5 _ _ _ hp).symm)) ?_
   exact zvI (k+1) trivial (by omega) (zbf rfl) (zab [0,1] kr rfl)
  refine zdt rfl dc rfl zct (zyN (zba rfl (zau (zag (zaf (zag ?_))))))
  exact zhg (ds:=[]) _ p _ hz (.inl rfl) Splits.nil results67 (zab [0] kr rfl)
 have he:I (pcs s.data.toList)=I ((pcs s.data.toList).take k):=by rw [List.take_of_length_le (Nat.le_of_not_lt hlt)]
 refine zyG (zeF (k:=1) (m:=k) rfl dc rfl rfl (by omega) (zaN rfl dc rfl rfl (zyN (zaE (zaM rfl (zbu (zaq (zaq (zaJ ?_)))))))))
 exact zhA (ds:=[]) (.inr rfl) Splits.nil results67 he (zab [0] kr rfl)
theorem zw3 (s:zBA):Fn prog 43 [.string s] [] (fun b:Nat=>.func (.func 67) #[] #[zP b]) (fun b=>[cells b [.string s] 9]):=by
 refine Fn.intro func43 rfl ntmps43 (by simp) ?_
 intro w0 K
 refine zyG ?_
 refine zdi rfl dc rfl (fun b1 => ?_)
 refine zyR 1 rfl (zyH (zfU (x1:=[]) (x2:=[.tmp 1]) rfl dc rfl rfl (zyR 1 rfl (zyN (zau ?_)))))
 exact zbt (rs:=[.tmp 2]) b1 (.inl rfl) results43 (.cons (.tmp rfl) .nil) rfl (zab [0] kr rfl)
theorem zzH (k:Int):FnP prog 100 [zI k] (.bool (zlu k)):=by
 refine FnP.intro func100 rfl ntmps100 (by simp) ?_
 intro w0 K
 refine zyG (zyR 1 rfl (zyH (zyR 1 rfl (zaS rfl zaL (zyR 1 rfl ?_)))))
 refine zeP (s:=5) rfl (fun h1 => ?_) (fun h1 => ?_)
 ·
  have h1:=beq_iff_eq.1 h1
  refine zyR 8 rfl (zyN (zau ?_))
  exact zbt (rs:=[.tmp 2]) () (.inl rfl) results100 (.cons (.tmp rfl) .nil) (congrArg Value.bool (by rw [Bool.eq_iff_iff]; unfold zlu; simp_all <;> (try intro _) <;> omega)) Splits.nil
 have h1:=beq_eq_false_iff_ne.1 h1
 refine zyR 1 rfl (zaS rfl zaL (zyR 2 rfl ?_))
 refine zeP (s:=9) rfl (fun h2 => ?_) (fun h2 => ?_)
 ·
  have h2:=beq_iff_eq.1 h2
  refine zyR 4 rfl (zyN (zau ?_))
  exact zbt (rs:=[.tmp 2]) () (.inl rfl) results100 (.cons (.tmp rfl) .nil) (congrArg Value.bool (by rw [Bool.eq_iff_iff]; unfold zlu; simp_all <;> (try intro _) <;> omega)) Splits.nil
 have h2:=beq_eq_false_iff_ne.1 h2
 refine zyR 1 rfl (zaS rfl zaL (zyR 2 rfl (zyN (zau ?_))))
 exact zbt (rs:=[.tmp 2]) () (.inl rfl) results100 (.cons (.tmp rfl) .nil) (congrArg Value.bool (by rw [Bool.eq_iff_iff]; unfold zlu; simp_all <;> (try intro _) <;> omega)) Splits.nil
theorem ztS (u:Un):FnP prog 101 [.agg #[zI u.k,.int .i32 u.r,zI u.f,zI u.t,.bool u.al]] (.bool (zlw u)):=by
 refine FnP.intro func101 rfl ntmps101 (by simp) ?_
 intro w0 K
 refine zyG ?_
 refine zdi rfl dc rfl (fun b1 => ?_)
 refine zyR 1 rfl (zyN (zaE (zyG (zaa zhp rfl dc rfl (show _=1 from rfl) (zaj (k:=0) zfY rfl dc rfl rfl rfl (zyN (zaG (zaE (zyG ?_)))))))))
 refine zaS rfl zaL (zyR 1 rfl (zyN ?_))
 refine zbi rfl (fun h1 => ?_) (fun h1 => ?_)
 ·
  have h1:=beq_iff_eq.1 h1
  refine zal (zay ?_)
  refine zbi rfl (fun h2 => ?_) (fun h2 => ?_)
  ·
   have h2:=beq_iff_eq.1 h2
   refine zyG (zaa zi0 rfl dc rfl (show _=4 from rfl) (zaj (k:=0) zlc rfl dc rfl rfl rfl (zyR 1 rfl (zyN (zau (zag (zaf ?_)))))))
   exact zbt (rs:=[.tmp 2]) () (.inl rfl) results101 (.cons (.tmp rfl) .nil) (congrArg Value.bool (by rw [Bool.eq_iff_iff]; unfold zlw; simp_all <;> (try intro _) <;> omega)) Splits.nil
  have h2:=beq_eq_false_iff_ne.1 h2
  refine zal (zae (zay (zyG (zyR 1 rfl (zyN (zau ?_))))))
  exact zbt (rs:=[.tmp 2]) () (.inl rfl) results101 (.cons (.tmp rfl) .nil) (congrArg Value.bool (by rw [Bool.eq_iff_iff]; unfold zlw; simp_all <;> (try intro _) <;> omega)) Splits.nil
 have h1:=beq_eq_false_iff_ne.1 h1
 refine zyG (zaS rfl zaL (zyR 1 rfl (zyN ?_)))
 refine zbi rfl (fun h3 => ?_) (fun h3 => ?_)
 ·
  have h3:=beq_iff_eq.1 h3
  refine zal (zay ?_)
  refine zbi rfl (fun h4 => ?_) (fun h4 => ?_)
  ·
   have h4:=beq_iff_eq.1 h4
   refine zyG (zaa zi0 rfl dc rfl (show _=4 from rfl) (zaj (k:=0) zlc rfl dc rfl rfl rfl (zyR 1 rfl (zyN (zau (zag (zaf ?_)))))))
   exact zbt (rs:=[.tmp 2]) () (.inl rfl) results101 (.cons (.tmp rfl) .nil) (congrArg Value.bool (by rw [Bool.eq_iff_iff]; unfold zlw; simp_all <;> (try intro _) <;> omega)) Splits.nil
  have h4:=beq_eq_false_iff_ne.1 h4
  refine zal (zae (zay (zyG (zyR 1 rfl (zyN (zau ?_))))))
  exact zbt (rs:=[.tmp 2]) () (.inl rfl) results101 (.cons (.tmp rfl) .nil) (congrArg Value.bool (by rw [Bool.eq_iff_iff]; unfold zlw; simp_all <;> (try intro _) <;> omega)) Splits.nil
 have h3:=beq_eq_false_iff_ne.1 h3
 refine zyG (zaS rfl zaL (zyR 1 rfl (zyN ?_)))
 refine zbi rfl (fun h5 => ?_) (fun h5 => ?_)
 ·
  have h5:=beq_iff_eq.1 h5
  refine zal (zay ?_)
  refine zbi rfl (fun h6 => ?_) (fun h6 => ?_)
  ·
   have h6:=beq_iff_eq.1 h6
   refine zyG (zaa zi0 rfl dc rfl (show _=4 from rfl) (zaj (k:=0) zlc rfl dc rfl rfl rfl (zyR 1 rfl (zyN (zau (zag (zaf ?_)))))))
   exact zbt (rs:=[.tmp 2]) () (.inl rfl) results101 (.cons (.tmp rfl) .nil) (congrArg Value.bool (by rw [Bool.eq_iff_iff]; unfold zlw; simp_all <;> (try intro _) <;> omega)) Splits.nil
  have h6:=beq_eq_false_iff_ne.1 h6
  refine zal (zae (zay (zyG (zyR 1 rfl (zyN (zau ?_))))))
  exact zbt (rs:=[.tmp 2]) () (.inl rfl) results101 (.cons (.tmp rfl) .nil) (congrArg Value.bool (by rw [Bool.eq_iff_iff]; unfold zlw; simp_all <;> (try intro _) <;> omega)) Splits.nil
 have h5:=beq_eq_false_iff_ne.1 h5
 refine zas (zaS rfl zaL (zyR 1 rfl (zyN ?_)))
 refine zbi rfl (fun h7 => ?_) (fun h7 => ?_)
 ·
  have h7:=beq_iff_eq.1 h7
  refine zyG (zaa zi0 rfl dc rfl (show _=4 from rfl) (zaj (k:=0) zlc rfl dc rfl rfl rfl (zyR 1 rfl (zyN (zau (zag (zaf ?_)))))))
  exact zbt (rs:=[.tmp 2]) () (.inl rfl) results101 (.cons (.tmp rfl) .nil) (congrArg Value.bool (by rw [Bool.eq_iff_iff]; unfold zlw; simp_all <;> (try intro _) <;> omega)) Splits.nil
 have h7:=beq_eq_false_iff_ne.1 h7
 refine zal (zae (zay (zyG (zyR 1 rfl (zyN (zau ?_))))))
 exact zbt (rs:=[.tmp 2]) () (.inl rfl) results101 (.cons (.tmp rfl) .nil) (congrArg Value.bool (by rw [Bool.eq_iff_iff]; unfold zlw; simp_all <;> (try intro _) <;> omega)) Splits.nil
theorem zvA (u:Un):FnP prog 102 [.agg #[zI u.k,.int .i32 u.r,zI u.f,zI u.t,.bool u.al]] (.bool (dot u)):=by
 refine FnP.intro func102 rfl ntmps102 (by simp) ?_
 intro w0 K
 refine zyG ?_
 refine zdi rfl dc rfl (fun b1 => ?_)
 refine zyR 1 rfl (zyH (zaa zi0 rfl dc rfl (show _=4 from rfl) (zaj (k:=0) zlc rfl dc rfl rfl rfl (zyR 1 rfl ?_))))
 refine zeP (s:=5) rfl (fun h1 => ?_) (fun h1 => ?_)
 ·
  refine zaa zhp rfl dc rfl (show _=1 from rfl) (zaj (k:=0) zfY rfl dc rfl rfl rfl (zaS rfl zaL (zyR 1 rfl ?_)))
  refine zeP (s:=9) rfl (fun h2 => ?_) (fun h2 => ?_)
  ·
   have h2:=beq_iff_eq.1 h2
   refine zyR 6 rfl (zyN (zau ?_))
   exact zbt (rs:=[.tmp 2]) () (.inl rfl) results102 (.cons (.tmp rfl) .nil) (congrArg Value.bool (by rw [Bool.eq_iff_iff]; unfold dot; simp_all <;> (try intro _) <;> omega)) Splits.nil
  have h2:=beq_eq_false_iff_ne.1 h2
  refine zaa zhp rfl dc rfl (show _=1 from rfl) (zaj (k:=0) zfY rfl dc rfl rfl rfl (zaS rfl zaL (zyR 3 rfl (zyN (zau ?_)))))
  exact zbt (rs:=[.tmp 2]) () (.inl rfl) results102 (.cons (.tmp rfl) .nil) (congrArg Value.bool (by rw [Bool.eq_iff_iff]; unfold dot; simp_all <;> (try intro _) <;> omega)) Splits.nil
 refine zyR 10 rfl (zyN (zau ?_))
 exact zbt (rs:=[.tmp 2]) () (.inl rfl) results102 (.cons (.tmp rfl) .nil) (congrArg Value.bool (by rw [Bool.eq_iff_iff]; unfold dot; simp_all <;> (try intro _) <;> omega)) Splits.nil
theorem zuz (k:Int) (b:Bool) (h:zlu k=b):FnP prog 100 [zI k] (.bool b):=h ▸ zzH k
theorem zsc (s:zBA) (hs:s.size≤4611686018427387904) (Bs:Nat):Itr prog 98 [zP Bs] unA (units (pcs s.data.toList)) [(Bs,.cells #[.string s] 9 (0,0))]:=by
 refine Itr.intro func98 rfl ntmps98 (by simp) ?_
 intro l w0 K I X hRo hy
 refine zyG ?_
 refine zdi rfl dc rfl (fun b1 => ?_)
 refine zyH ?_
 refine zbh zvP rfl dc (fun b2 => ?_)
 refine zyN (zaE (zyG (zgF (i:=0) hRo zhk rfl dc rfl rfl rfl (zcE (vs:=[.string s]) rfl dc rfl rfl rfl zvz (zw3 s) Splits.nil ?_))))
 rintro bp
 show TO _ _ _ _ _ _ _ _ _ _ [I [],cells b1 [.func (.yield l) #[] #[]] 204,cells b2 [zI 0,.int .i32 0,zI 0,zI 0,.bool false] 165,cells bp [.string s] 9]
 refine zyN (zaG ?_)
 refine zgA (α:=Pc) (β:=List Un×Option Un) (γ:=List Un×Un×List Un) (δ:=Nat) (ps:=[8]) hRo rfl zvy (zo5 s (by omega) bp) (fun pre b=>zhD pre=b) (fun pre b=>[cells b1 [.func (.yield l) #[] #[]] 204,cells b2 [zI (uK b.2),.int .i32 (uR b.2),zI (uF b.2),zI (uT b.2),.bool (uA b.2)] 165,I b.1]) (fun c pre g=>c=.ret∧units (pcs s.data.toList)=g.1++g.2.1::g.2.2) (fun c pre g=>[X (g.1++[g.2.1])]) (fun pre x b j=>[(2,zP b1),(3,zP b2),(4,zP j)]) (fun pre x b j=>[cells b1 [.func (.yield l) #[] #[]] 204,cells b2 [zI (uK b.2),.int .i32 (uR b.2),zI (uF b.2),zI (uT b.2),.bool (uA b.2)] 165,I b.1,cells j [zI (x.i:Int),zI (x.w:Int),.int .i32 (x.r:Int),.bool x.broken] 60]) ([],none) rfl (zab [1,2,0] kr rfl) ⟨.inl ⟨3,rfl⟩,trivial⟩ (fun _=>rfl) dc ?_ ?_ ?_ ?_
 ·
  rintro lp rc pre x post b w1 K1 hxs hext hro hinv
  refine zas ?_
  refine zbh zlt rfl dc (fun b3 => ?_)
  refine zaZ (k:=3) (vs:=[zI (x.i:Int),zI (x.w:Int),.int .i32 (x.r:Int),.bool x.broken]) (l':=[zI (x.i:Int),zI (x.w:Int),.int .i32 (x.r:Int),.bool x.broken]) zhE rfl rfl rfl rfl rfl (Nat.le_of_ble_eq_true rfl) rfl rfl ?_
  show TO _ _ _ _ _ _ _ _ _ _ [cells b1 [.func (.yield l) #[] #[]] 204,cells b2 [zI (uK b.2),.int .i32 (uR b.2),zI (uF b.2),zI (uT b.2),.bool (uA b.2)] 165,I b.1,cells b3 [zI (x.i:Int),zI (x.w:Int),.int .i32 (x.r:Int),.bool x.broken] 60]
  refine zaP ?_
  exact fun a w ha hw=>⟨b3,(zbf rfl) _ _ _ ha,hw.weaken (zab [0,1,2,3] kr rfl)⟩
 ·
  rintro lp rc pre x post b j w1 K1 hxs hext hro hinv
  have hmem:x∈pcs s.data.toList:=by rw [hxs]; simp
  have hv:=zxc _ x hmem
  have hend:x.i+x.w≤s.size:=by simpa using (ziA _ x hmem).2.1
  have hsn:=znw pre x
  obtain ⟨E,o⟩:=b
  have hinv:zhD pre=(E,o):=hinv
  rw [hinv] at hsn
  rcases o with _ | n
  ·
   show TC _ _ _ _ _ _ _ _ _ [cells b1 [.func (.yield l) #[] #[]] 204,cells b2 [zI 0,.int .i32 0,zI 0,zI 0,.bool false] 165,I E,cells j [zI (x.i:Int),zI (x.w:Int),.int .i32 (x.r:Int),.bool x.broken] 60]
   by_cases hm:pk x=2
   ·
    refine zaG (zyG (zaV (k:=3) (cs:=[zI (x.i:Int),zI (x.w:Int),.int .i32 (x.r:Int),.bool x.broken]) zfN rfl dc rfl rfl rfl rfl (zbg (v:=zI (pk x)) (vs:=[.agg #[zI (x.i:Int),zI (x.w:Int),.int .i32 (x.r:Int),.bool x.broken]]) rfl dc rfl rfl rfl zpy (zwo _ _ _ _ (by omega) (by omega)) (zyR 1 rfl (zyN (zaE (zyG (zyR 1 rfl (zaS rfl (zbZ (congrArg Value.bool (show (((pk x):Int)==2)=true from (beq_iff_eq.2 hm))) zaL) (zyR 1 rfl ?_))))))))))
    refine zaa zeN rfl dc rfl (show _=2 from rfl) (zaa zdK rfl dc rfl (show _=3 from rfl) (zaj (k:=1) zbW rfl dc rfl rfl rfl (zaS rfl (zbZ (congrArg Value.bool (show (decide ((0:Int)<0))=false from dc)) zc1) (zyR 7 rfl (zyN (zaM rfl ?_))))))
    refine zal (zay (zaE (zyG (zaa zeN rfl dc rfl (show _=2 from rfl) (zaa zdK rfl dc rfl (show _=3 from rfl) (zaj (k:=1) zbW rfl dc rfl rfl rfl (zaS rfl (zbZ (congrArg Value.bool (show (decide ((0:Int)<0))=false from dc)) zc1) (zyR 5 rfl ?_))))))))
    refine zyR 1 rfl (zyN (zaM rfl (zal (zay (zas (zyR 1 rfl (zaa zgo rfl dc rfl (show _=2 from rfl) (zaj (k:=3) zfY rfl dc rfl rfl rfl (zaa ze3 rfl dc rfl (show _=0 from rfl) (zaj (k:=3) zbW rfl dc rfl rfl rfl (zaa ze3 rfl dc rfl (show _=0 from rfl) (zaj (k:=3) zbW rfl dc rfl rfl rfl ?_))))))))))))
    refine zaa zhZ rfl dc rfl (show _=1 from rfl) (zaj (k:=3) zbW rfl dc rfl rfl rfl (zaS rfl (zbb (r:=(x.i:Int)+(x.w:Int)) (IntWalk.i64_in _ (by omega))) ?_))
    refine zbA (v:=.agg #[zI (x.i:Int),zI ((x.i:Int)+(x.w:Int))]) (ps:=[(0,.tmp 48),(1,.tmp 53)]) rfl dc rfl (fun _=>by kernel_rfl) ?_
    refine zbA (v:=.agg #[zI (pk x),.int .i32 (x.r:Int),zI (x.i:Int),zI ((x.i:Int)+(x.w:Int)),.bool true]) (ps:=[(0,.tmp 44),(1,.tmp 46),(2,.tmp 54),(3,.const (.bool true))]) rfl dc rfl (fun _=>by kernel_rfl) ?_
    refine zaZ (k:=1) (vs:=[zI (pk x),.int .i32 (x.r:Int),zI (x.i:Int),zI ((x.i:Int)+(x.w:Int)),.bool true]) (l':=[zI (pk x),.int .i32 (x.r:Int),zI (x.i:Int),zI ((x.i:Int)+(x.w:Int)),.bool true]) zim rfl rfl rfl rfl rfl (Nat.le_of_ble_eq_true rfl) rfl rfl (zaP (zae ?_))
    exact zcN (E,some (zq8 x)) (by show zhD (pre++[x])=_; rw [hsn]; rfl) (zab [0,1,2] kr rfl)
   ·
    refine zaG (zyG (zaV (k:=3) (cs:=[zI (x.i:Int),zI (x.w:Int),.int .i32 (x.r:Int),.bool x.broken]) zfN rfl dc rfl rfl rfl rfl (zbg (v:=zI (pk x)) (vs:=[.agg #[zI (x.i:Int),zI (x.w:Int),.int .i32 (x.r:Int),.bool x.broken]]) rfl dc rfl rfl rfl zpy (zwo _ _ _ _ (by omega) (by omega)) (zyR 1 rfl (zyN (zaE (zyG (zyR 1 rfl (zaS rfl (zbZ (congrArg Value.bool (show (((pk x):Int)==2)=false from (beq_eq_false_iff_ne.2 hm))) zaL) (zyR 1 rfl ?_))))))))))
    refine zyR 11 rfl (zyN (zaM rfl ?_))
    refine zal (zay (zaE (zyG (zaa zeN rfl dc rfl (show _=2 from rfl) (zaa zdK rfl dc rfl (show _=3 from rfl) (zaj (k:=1) zbW rfl dc rfl rfl rfl (zaS rfl (zbZ (congrArg Value.bool (show (decide ((0:Int)<0))=false from dc)) zc1) (zyR 5 rfl ?_))))))))
    refine zyR 1 rfl (zyN (zaM rfl (zal (zay (zas (zyR 1 rfl (zaa zgo rfl dc rfl (show _=2 from rfl) (zaj (k:=3) zfY rfl dc rfl rfl rfl (zaa ze3 rfl dc rfl (show _=0 from rfl) (zaj (k:=3) zbW rfl dc rfl rfl rfl (zaa ze3 rfl dc rfl (show _=0 from rfl) (zaj (k:=3) zbW rfl dc rfl rfl rfl ?_))))))))))))
    refine zaa zhZ rfl dc rfl (show _=1 from rfl) (zaj (k:=3) zbW rfl dc rfl rfl rfl (zaS rfl (zbb (r:=(x.i:Int)+(x.w:Int)) (IntWalk.i64_in _ (by omega))) ?_))
    refine zbA (v:=.agg #[zI (x.i:Int),zI ((x.i:Int)+(x.w:Int))]) (ps:=[(0,.tmp 48),(1,.tmp 53)]) rfl dc rfl (fun _=>by kernel_rfl) ?_
    refine zbA (v:=.agg #[zI (pk x),.int .i32 (x.r:Int),zI (x.i:Int),zI ((x.i:Int)+(x.w:Int)),.bool true]) (ps:=[(0,.tmp 44),(1,.tmp 46),(2,.tmp 54),(3,.const (.bool true))]) rfl dc rfl (fun _=>by kernel_rfl) ?_
    refine zaZ (k:=1) (vs:=[zI (pk x),.int .i32 (x.r:Int),zI (x.i:Int),zI ((x.i:Int)+(x.w:Int)),.bool true]) (l':=[zI (pk x),.int .i32 (x.r:Int),zI (x.i:Int),zI ((x.i:Int)+(x.w:Int)),.bool true]) zim rfl rfl rfl rfl rfl (Nat.le_of_ble_eq_true rfl) rfl rfl (zaP (zae ?_))
    exact zcN (E,some (zq8 x)) (by show zhD (pre++[x])=_; rw [hsn]; rfl) (zab [0,1,2] kr rfl)
  ·
   show TC _ _ _ _ _ _ _ _ _ [cells b1 [.func (.yield l) #[] #[]] 204,cells b2 (unC n) 165,I E,cells j [zI (x.i:Int),zI (x.w:Int),.int .i32 (x.r:Int),.bool x.broken] 60]
   have hwf:=zl3 s.data.toList _ pre (x::post) (Nat.le_refl _) hxs E n hinv
   have hxi:x.i=n.t:=hwf.2.2.1 x rfl
   have ht0:(0:Int)<n.t:=by have:=hwf.1; omega
   by_cases hm:pk x=2
   ·
    cases hb:zlu n.k
    ·
     refine zaG (zyG (zaV (k:=3) (cs:=[zI (x.i:Int),zI (x.w:Int),.int .i32 (x.r:Int),.bool x.broken]) zfN rfl dc rfl rfl rfl rfl (zbg (v:=zI (pk x)) (vs:=[.agg #[zI (x.i:Int),zI (x.w:Int),.int .i32 (x.r:Int),.bool x.broken]]) rfl dc rfl rfl rfl zpy (zwo _ _ _ _ (by omega) (by omega)) (zyR 1 rfl (zyN (zaE (zyG (zyR 1 rfl (zaS rfl (zbZ (congrArg Value.bool (show (((pk x):Int)==2)=true from (beq_iff_eq.2 hm))) zaL) (zyR 1 rfl ?_))))))))))
     refine zaa zeN rfl dc rfl (show _=2 from rfl) (zaa zdK rfl dc rfl (show _=3 from rfl) (zaj (k:=1) zbW rfl dc rfl rfl rfl (zaS rfl (zbZ (congrArg Value.bool (show (decide ((0:Int)<(n.t:Int)))=true from (decide_eq_true ht0))) zc1) (zyR 2 rfl (zaa zlT rfl dc rfl (show _=0 from rfl) (zaj (k:=1) zia rfl dc rfl rfl rfl (zbg (v:=.bool false) (vs:=[zI n.k]) rfl dc rfl rfl rfl zwx (zuz _ _ hb) (zdt rfl dc rfl zct (zyR 1 rfl (zyN (zba rfl ?_)))))))))))
     refine zyG (zaa zeN rfl dc rfl (show _=2 from rfl) (zaa zdK rfl dc rfl (show _=3 from rfl) (zaj (k:=1) zbW rfl dc rfl rfl rfl (zaa zhZ rfl dc rfl (show _=1 from rfl) (zaj (k:=3) zbW rfl dc rfl rfl rfl (zaS rfl (zbb (r:=(n.t:Int)+(x.w:Int)) (IntWalk.i64_in _ (by omega))) (zaa zeN rfl dc rfl (show _=2 from rfl) (zaa zdK rfl dc rfl (show _=3 from rfl) ?_))))))))
     refine zaT (k:=1) (l':=[zI n.k,.int .i32 (n.r:Int),zI (n.f:Int),zI ((n.t:Int)+(x.w:Int)),.bool n.al]) zeI rfl rfl rfl rfl rfl (fun _ _=>rfl) rfl ?_
     refine zyH (zaa zi0 rfl dc rfl (show _=4 from rfl) ?_)
     refine zaT (k:=1) (l':=[zI n.k,.int .i32 (n.r:Int),zI (n.f:Int),zI ((n.t:Int)+(x.w:Int)),.bool false]) zog rfl rfl rfl rfl rfl (fun _ _=>rfl) rfl ?_
     show TO _ _ _ _ _ _ _ _ _ _ [cells b1 [.func (.yield l) #[] #[]] 204,cells b2 [zI n.k,.int .i32 (n.r:Int),zI (n.f:Int),zI ((n.t:Int)+(x.w:Int)),.bool false] 165,I E,cells j [zI (x.i:Int),zI (x.w:Int),.int .i32 (x.r:Int),.bool x.broken] 60]
     refine zyN (zbu (zaq (zaJ ?_)))
     exact zcN (E,some ⟨n.k,n.r,n.f,n.t+x.w,false⟩) (by show zhD (pre++[x])=_; rw [hsn]; simp only [zhy]; rw [if_pos ⟨hm,hb⟩]) (zab [0,1,2] kr rfl)
    ·
     have hne:¬ (pk x=2∧zlu n.k=false):=fun h=>by rw [hb] at h; cases h.2
     refine zaG (zyG (zaV (k:=3) (cs:=[zI (x.i:Int),zI (x.w:Int),.int .i32 (x.r:Int),.bool x.broken]) zfN rfl dc rfl rfl rfl rfl (zbg (v:=zI (pk x)) (vs:=[.agg #[zI (x.i:Int),zI (x.w:Int),.int .i32 (x.r:Int),.bool x.broken]]) rfl dc rfl rfl rfl zpy (zwo _ _ _ _ (by omega) (by omega)) (zyR 1 rfl (zyN (zaE (zyG (zyR 1 rfl (zaS rfl (zbZ (congrArg Value.bool (show (((pk x):Int)==2)=true from (beq_iff_eq.2 hm))) zaL) (zyR 1 rfl ?_))))))))))
     refine zaa zeN rfl dc rfl (show _=2 from rfl) (zaa zdK rfl dc rfl (show _=3 from rfl) (zaj (k:=1) zbW rfl dc rfl rfl rfl (zaS rfl (zbZ (congrArg Value.bool (show (decide ((0:Int)<(n.t:Int)))=true from (decide_eq_true ht0))) zc1) (zyR 2 rfl (zaa zlT rfl dc rfl (show _=0 from rfl) (zaj (k:=1) zia rfl dc rfl rfl rfl (zbg (v:=.bool true) (vs:=[zI n.k]) rfl dc rfl rfl rfl zwx (zuz _ _ hb) (zdt rfl dc rfl zct (zyR 1 rfl (zyN (zaM rfl ?_)))))))))))
     refine zal (zay (zaE (zyG (zaa zeN rfl dc rfl (show _=2 from rfl) (zaa zdK rfl dc rfl (show _=3 from rfl) (zaj (k:=1) zbW rfl dc rfl rfl rfl (zaS rfl (zbZ (congrArg Value.bool (show (decide ((0:Int)<(n.t:Int)))=true from (decide_eq_true ht0))) zc1) (zyR 1 rfl (zaj (k:=0) ztk rfl dc rfl rfl rfl (zaV (k:=1) (cs:=(unC n)) zeQ rfl dc rfl rfl rfl rfl ?_))))))))))
     obtain ⟨q,hq⟩:=zq7 pre post x E n hinv hne
     refine zdm (hy.later hext) rfl dc rfl (hxs ▸ hq) rfl (k:=2) rfl ?_ ?_
     ·
      refine zdt rfl dc rfl zct (zyR 1 rfl (zyN (zaM rfl (zal (zay (zas (zyR 1 rfl (zaa zgo rfl dc rfl (show _=2 from rfl) (zaj (k:=3) zfY rfl dc rfl rfl rfl (zaa ze3 rfl dc rfl (show _=0 from rfl) (zaj (k:=3) zbW rfl dc rfl rfl rfl (zaa ze3 rfl dc rfl (show _=0 from rfl) ?_))))))))))))
      refine zaj (k:=3) zbW rfl dc rfl rfl rfl (zaa zhZ rfl dc rfl (show _=1 from rfl) (zaj (k:=3) zbW rfl dc rfl rfl rfl (zaS rfl (zbb (r:=(x.i:Int)+(x.w:Int)) (IntWalk.i64_in _ (by omega))) ?_)))
      refine zbA (v:=.agg #[zI (x.i:Int),zI ((x.i:Int)+(x.w:Int))]) (ps:=[(0,.tmp 48),(1,.tmp 53)]) rfl dc rfl (fun _=>by kernel_rfl) ?_
      refine zbA (v:=.agg #[zI (pk x),.int .i32 (x.r:Int),zI (x.i:Int),zI ((x.i:Int)+(x.w:Int)),.bool true]) (ps:=[(0,.tmp 44),(1,.tmp 46),(2,.tmp 54),(3,.const (.bool true))]) rfl dc rfl (fun _=>by kernel_rfl) ?_
      refine zaZ (k:=1) (vs:=[zI (pk x),.int .i32 (x.r:Int),zI (x.i:Int),zI ((x.i:Int)+(x.w:Int)),.bool true]) (l':=[zI (pk x),.int .i32 (x.r:Int),zI (x.i:Int),zI ((x.i:Int)+(x.w:Int)),.bool true]) zim rfl rfl rfl rfl rfl (Nat.le_of_ble_eq_true rfl) rfl rfl (zaP (zae ?_))
      exact zcN (E++[n],some (zq8 x)) (by show zhD (pre++[x])=_; rw [hsn]; simp only [zhy]; rw [if_neg hne]) (zab [0,1,2] kr rfl)
     ·
      refine zdt rfl dc rfl zct (zyR 1 rfl (zyN (zba rfl (zau (zaf (zag ?_))))))
      exact zdx (E,n,q) ⟨rfl,(hxs ▸ hq)⟩ (zab [2] kr rfl)
   ·
    have hne:¬ (pk x=2∧zlu n.k=false):=fun h=>hm h.1
    refine zaG (zyG (zaV (k:=3) (cs:=[zI (x.i:Int),zI (x.w:Int),.int .i32 (x.r:Int),.bool x.broken]) zfN rfl dc rfl rfl rfl rfl (zbg (v:=zI (pk x)) (vs:=[.agg #[zI (x.i:Int),zI (x.w:Int),.int .i32 (x.r:Int),.bool x.broken]]) rfl dc rfl rfl rfl zpy (zwo _ _ _ _ (by omega) (by omega)) (zyR 1 rfl (zyN (zaE (zyG (zyR 1 rfl (zaS rfl (zbZ (congrArg Value.bool (show (((pk x):Int)==2)=false from (beq_eq_false_iff_ne.2 hm))) zaL) (zyR 1 rfl ?_))))))))))
    refine zyR 11 rfl (zyN (zaM rfl ?_))
    refine zal (zay (zaE (zyG (zaa zeN rfl dc rfl (show _=2 from rfl) (zaa zdK rfl dc rfl (show _=3 from rfl) (zaj (k:=1) zbW rfl dc rfl rfl rfl (zaS rfl (zbZ (congrArg Value.bool (show (decide ((0:Int)<(n.t:Int)))=true from (decide_eq_true ht0))) zc1) (zyR 1 rfl (zaj (k:=0) ztk rfl dc rfl rfl rfl (zaV (k:=1) (cs:=(unC n)) zeQ rfl dc rfl rfl rfl rfl ?_))))))))))
    obtain ⟨q,hq⟩:=zq7 pre post x E n hinv hne
    refine zdm (hy.later hext) rfl dc rfl (hxs ▸ hq) rfl (k:=2) rfl ?_ ?_
    ·
     refine zdt rfl dc rfl zct (zyR 1 rfl (zyN (zaM rfl (zal (zay (zas (zyR 1 rfl (zaa zgo rfl dc rfl (show _=2 from rfl) (zaj (k:=3) zfY rfl dc rfl rfl rfl (zaa ze3 rfl dc rfl (show _=0 from rfl) (zaj (k:=3) zbW rfl dc rfl rfl rfl (zaa ze3 rfl dc rfl (show _=0 from rfl) ?_))))))))))))
     refine zaj (k:=3) zbW rfl dc rfl rfl rfl (zaa zhZ rfl dc rfl (show _=1 from rfl) (zaj (k:=3) zbW rfl dc rfl rfl rfl (zaS rfl (zbb (r:=(x.i:Int)+(x.w:Int)) (IntWalk.i64_in _ (by omega))) ?_)))
     refine zbA (v:=.agg #[zI (x.i:Int),zI ((x.i:Int)+(x.w:Int))]) (ps:=[(0,.tmp 48),(1,.tmp 53)]) rfl dc rfl (fun _=>by kernel_rfl) ?_
     refine zbA (v:=.agg #[zI (pk x),.int .i32 (x.r:Int),zI (x.i:Int),zI ((x.i:Int)+(x.w:Int)),.bool true]) (ps:=[(0,.tmp 44),(1,.tmp 46),(2,.tmp 54),(3,.const (.bool true))]) rfl dc rfl (fun _=>by kernel_rfl) ?_
     refine zaZ (k:=1) (vs:=[zI (pk x),.int .i32 (x.r:Int),zI (x.i:Int),zI ((x.i:Int)+(x.w:Int)),.bool true]) (l':=[zI (pk x),.int .i32 (x.r:Int),zI (x.i:Int),zI ((x.i:Int)+(x.w:Int)),.bool true]) zim rfl rfl rfl rfl rfl (Nat.le_of_ble_eq_true rfl) rfl rfl (zaP (zae ?_))
     exact zcN (E++[n],some (zq8 x)) (by show zhD (pre++[x])=_; rw [hsn]; simp only [zhy]; rw [if_neg hne]) (zab [0,1,2] kr rfl)
    ·
     refine zdt rfl dc rfl zct (zyR 1 rfl (zyN (zba rfl (zau (zaf (zag ?_))))))
     exact zdx (E,n,q) ⟨rfl,(hxs ▸ hq)⟩ (zab [2] kr rfl)
 ·
  rintro d b hinv
  show TX _ _ _ _ _ _ _ [emp,emp,emp,cells bp [.string s] 9,cells b1 [.func (.yield l) #[] #[]] 204,cells b2 [zI (uK b.2),.int .i32 (uR b.2),zI (uF b.2),zI (uT b.2),.bool (uA b.2)] 165,I b.1,zib d]
  obtain ⟨E,o⟩:=b
  have hinv:zhD (pcs s.data.toList)=(E,o):=hinv
  rcases o with _ | n
  ·
   show TX _ _ _ _ _ _ _ [emp,emp,emp,cells bp [.string s] 9,cells b1 [.func (.yield l) #[] #[]] 204,cells b2 [zI 0,.int .i32 0,zI 0,zI 0,.bool false] 165,I E,zib d]
   refine zae (zay (zyG (zaa zeN rfl dc rfl (show _=2 from rfl) (zaa zdK rfl dc rfl (show _=3 from rfl) (zaj (k:=5) zbW rfl dc rfl rfl rfl (zaS rfl (zbZ (congrArg Value.bool (show (decide ((0:Int)<0))=false from dc)) zc1) (zyN (zaM rfl (zal ?_)))))))))
   have he:I (units (pcs s.data.toList))=I E:=by unfold units; rw [hinv]; rfl
   exact zhA (ds:=[d]) (.inr rfl) (zab [7] kr rfl) results98 he (zab [6] kr rfl)
  ·
   show TX _ _ _ _ _ _ _ [emp,emp,emp,cells bp [.string s] 9,cells b1 [.func (.yield l) #[] #[]] 204,cells b2 (unC n) 165,I E,zib d]
   have hwf:=zl3 s.data.toList _ (pcs s.data.toList) [] (Nat.le_refl _) (by simp) E n hinv
   have ht0:(0:Int)<n.t:=by have:=hwf.1; omega
   refine zae (zay (zyG (zaa zeN rfl dc rfl (show _=2 from rfl) (zaa zdK rfl dc rfl (show _=3 from rfl) (zaj (k:=5) zbW rfl dc rfl rfl rfl (zaS rfl (zbZ (congrArg Value.bool (show (decide ((0:Int)<(n.t:Int)))=true from (decide_eq_true ht0))) zc1) (zyN (zba rfl (zas (zaj (k:=4) ztk rfl dc rfl rfl rfl (zaV (k:=5) (cs:=(unC n)) zeQ rfl dc rfl rfl rfl rfl ?_)))))))))))
   refine zdm hy rfl dc rfl (pre:=E) (e:=n) (post:=[]) (zkA _ E n hinv) rfl (k:=6) rfl ?_ ?_
   ·
    refine zaP ?_
    have he:I (units (pcs s.data.toList))=I (E++[n]):=by rw [zkA _ E n hinv]
    exact zhA (ds:=[d]) (.inr rfl) (zab [7] kr rfl) results98 he (zab [6] kr rfl)
   ·
    refine zaP ?_
    exact zhg (ds:=[d]) E n [] (zkA _ E n hinv) (.inr rfl) (zab [7] kr rfl) results98 (zab [6] kr rfl)
 ·
  rintro d c pre x post g hxs hX
  show TC _ _ _ _ _ _ _ _ _ [emp,emp,emp,cells bp [.string s] 9,X (g.1++[g.2.1]),zib d]
  obtain ⟨E,n,q⟩:=g
  obtain ⟨rfl,hq⟩:=hX
  refine zau (zag (zaf ?_))
  exact zhg (ds:=[d]) E n q hq (.inl rfl) (zab [5] kr rfl) results98 (zab [4] kr rfl)
theorem zuX (s:zBA):Fn prog 70 [.string s] [] (fun b:Nat=>.func (.func 98) #[] #[zP b]) (fun b=>[cells b [.string s] 9]):=by
 refine Fn.intro func70 rfl ntmps70 (by simp) ?_
 intro w0 K
 refine zyG ?_
 refine zdi rfl dc rfl (fun b1 => ?_)
 refine zyR 1 rfl (zyH (zfU (x1:=[]) (x2:=[.tmp 1]) rfl dc rfl rfl (zyR 1 rfl (zyN (zau ?_)))))
 exact zbt (rs:=[.tmp 2]) b1 (.inl rfl) results70 (.cons (.tmp rfl) .nil) rfl (zab [0] kr rfl)
def scV (s:Sc):List Value:=[zI s.st,zI s.tk.k,zI s.tk.f,zI s.tk.t,zI s.h.k,.int .i32 s.h.r,zI s.h.f,zI s.h.t,.bool s.h.al]
def tkV (t:Tk):List Value:=[zI t.k,zI t.f,zI t.t]
def tkA (t:Tk):List Value:=[.agg (tkV t).toArray]
def zcz (s:Sc) (uz:Un):Sc:=⟨(zlk s.st uz).1,s.tk,if (zlk s.st uz).2=2 then uz else s.h⟩
theorem Holds.fact {w0 w:World} {K:Nat→Prop} {L:List Asn} {p:Prop} (h:Holds w0 K L w) (hp:p):Holds w0 K (L++[fact p]) w :=
  h.grow (C':=fun _=>False) (Ext.refl _ _) (sepL.one (A:=Go.Proofs.YtmmhmppcemfdcaaGreatDoor.fact p) ⟨fun _ h=>h,hp⟩)
theorem zk4 {P:Program} {F:Fence} {w0:World} {K:Nat→Prop} {N:Nat} {σ:List (Nat×Value)} {L R As:List Asn} {fn:Func} {rs:List ResultVar} {vs:List Value} {β:Type} {V:β→Value} {Bs:β→List Asn} {e:Exit} {p:Prop} (b:β)
    (he:e=.ret∨e=.normal) (hrs:fn.results=rs.toArray) (hres:ResOks P σ L rs vs) (hv:ziy vs=V b) (hs:Splits L As R) (hp:p) (hB:Bs b=As++[fact p]:=by rfl) :
    TX w0 K N [] (bodyPostM F 0 P fn (FR P V Bs w0 K)) e σ L:=by
  intro a w ha hw
  have h1:=zg4 hrs hres ha hw
  have h2:LeavesInM F 0 P fn a.tmps (FR P V Bs w0 K) a.defers .returning w:=by
    rw [ha.2.1]
    exact ⟨ziy vs,h1,b,by rw [hv],by rw [hB]; exact (hw.weaken hs).fact hp⟩
  rcases he with rfl | rfl <;> exact h2
theorem zbj {P:Program} {F:Fence} {w0:World} {K:Nat→Prop} {N:Nat} {σ:List (Nat×Value)} {L:List Asn} {fn:Func} {b t:Nat} {s:Sc} {uz:Un} {l:List Value} {a c:Int} (hrs:fn.results=#[.tmp 4]) (hfit:zlk s.st uz=(a,c):=by unfold zlk; simp_all <;> omega) (hl:l=scV ⟨a,s.tk,if c=2 then uz else s.h⟩:=by rfl) (hσ:σ.lookup 4=some (zI c):=by rfl) :
    TX w0 K N [] (bodyPostM F 0 P fn (FR P (fun _:Unit=>zI (zlk s.st uz).2) (fun _=>[cells b (scV (zcz s uz)) t]) w0 K)) .ret σ (cells b l t::L):=by
  have e:l=scV (zcz s uz):=by rw [hl]; unfold zcz; rw [hfit]
  rw [e]
  exact zbt (rs:=[.tmp 4]) () (.inl rfl) hrs (.cons (.tmp hσ) .nil) (by rw [hfit]; rfl) (zab [0] rfl rfl)
theorem zeX {P:Program} {F:Fence} {w0:World} {K:Nat→Prop} {N:Nat} {σ:List (Nat×Value)} {L:List Asn} {fn:Func} {b t:Nat} {s:Sc} {uz:Un} {l:List Value} {e:Exit} (he:e=.ret∨e=.normal) (hrs:fn.results=#[]) (hB:l=scV (began s uz)) :
    TX w0 K N [] (bodyPostM F 0 P fn (FR P (fun _:Unit=>.tuple #[]) (fun _=>[cells b (scV (began s uz)) t]) w0 K)) e σ (cells b l t::L):=by
  rw [hB]
  exact zbt (rs:=[]) () he hrs .nil rfl (zab [0] rfl rfl)
theorem zqD (b:Nat) (s:Sc) (uz:Un):Fn prog 71 [zP b,.agg #[zI uz.k,.int .i32 uz.r,zI uz.f,zI uz.t,.bool uz.al]] [cells b (scV s) 167] (fun _:Unit=>zI (zlk s.st uz).2) (fun _=>[cells b (scV (zcz s uz)) 167]):=by
 refine Fn.intro func71 rfl ntmps71 (by simp) ?_
 intro w0 K
 refine zyG ?_
 refine zdi rfl dc rfl (fun b1 => ?_)
 refine zyR 1 rfl (zyH (zaa zlT rfl dc rfl (show _=0 from rfl) (zaj (k:=1) zia rfl dc rfl rfl rfl (zyR 1 rfl (zyN (zaE (zyG (zyR 1 rfl ?_))))))))
 refine zai rfl dc rfl (zaa zcd rfl dc rfl (show _=0 from rfl) (zaj (k:=0) zbW rfl dc rfl rfl rfl (zyN (zaG (zaE (zyG (zaS rfl zaL (zyR 1 rfl (zyN ?_)))))))))
 refine zbi rfl (fun h1 => ?_) (fun h1 => ?_)
 ·
  have h1:=beq_iff_eq.1 h1
  refine zal (zay ?_)
  refine zbi rfl (fun h2 => ?_) (fun h2 => ?_)
  ·
   have h2:=beq_iff_eq.1 h2
   refine zaE (zyG (zyR 1 rfl (zaS rfl zaL (zyN ?_))))
   refine zbi rfl (fun h3 => ?_) (fun h3 => ?_)
   ·
    have h3:=beq_iff_eq.1 h3
    refine zyG (zyR 1 rfl (zai rfl dc rfl (zaa zcd rfl dc rfl (show _=0 from rfl) ?_)))
    refine zaT (k:=0) (l':=(scC 1 s)) zeI rfl rfl rfl rfl rfl (fun _ _=>rfl) rfl ?_
    refine zyH (zyR 1 rfl (zyN (zau (zaf (zag (zaf ?_))))))
    exact zbj results71 (a:=1) (c:=1)
   have h3:=beq_eq_false_iff_ne.1 h3
   refine zal (zay (zyG (zyR 1 rfl (zai rfl dc rfl (zaa zcd rfl dc rfl (show _=0 from rfl) (zaj (k:=0) zbW rfl dc rfl rfl rfl (zaS rfl zaL (zyR 1 rfl ?_))))))))
   refine zeP (s:=25) rfl (fun h4 => ?_) (fun h4 => ?_)
   ·
    have h4:=beq_iff_eq.1 h4
    refine zaV (k:=1) (cs:=(unC uz)) zeQ rfl dc rfl rfl rfl rfl (zbg (v:=.bool (zlw uz)) (vs:=[.agg (unC uz).toArray]) rfl dc rfl rfl rfl zww (ztS uz) (zyR 1 rfl (zyN ?_)))
    refine zbi rfl (fun h5 => ?_) (fun h5 => ?_)
    ·
     refine zaE ?_
     refine zgB (β:=Unit) 6 5 _ [(0,29,zP b),(1,30,zP b),(2,31,.agg (unC uz).toArray),(3,32,zP b),(4,33,zP b)] (fun _b=>[]) (fun _b=>[cells b (scC 2 s) 167,cells b1 (unC uz) 165]) mixed kr kr rfl dc dc (by rfl) kr kr (zyE 2 0 rfl (zao ?_ (zao ?_ (zao ?_ (zbU DrawPreX.nil))))) (fun _b=>(zyE 2 0 rfl (zao ?_ (zao ?_ (zao ?_ (zbU DrawPreX.nil)))))) ?_ ?_
     · exact fun D n d c u i=>zaV (k:=1) (cs:=(unC uz)) zeQ rfl dc (zbd (by rfl) rfl) rfl rfl rfl (zar 2 u i)
     · exact fun D n d c u i=>zai rfl dc (zam 0 u d) (zar 3 u i)
     · exact fun D n d c u i=>zaa zcd rfl dc (zam 3 u d) (show _=0 from rfl) (zar 4 u i)
     · exact fun D n d c u i=>zaV (k:=1) (cs:=(unC uz)) zeQ rfl dc (zbd (by rfl) rfl) rfl rfl rfl (zar 2 u i)
     · exact fun D n d c u i=>zai rfl dc (zam 0 u d) (zar 3 u i)
     · exact fun D n d c u i=>zaa zcd rfl dc (zam 3 u d) (show _=0 from rfl) (zar 4 u i)
     ·
      intro D hn hd hcl
      refine zaT (k:=0) (l':=(scC 2 s)) zeI rfl (zaI (m:=4) kr rfl (hd 4 dc)) rfl rfl rfl (fun _ _=>rfl) rfl ?_
      exact fun a w ha hw=>⟨(),ha,hw⟩
     intro _b
     refine zai rfl dc rfl (zaa zho rfl dc rfl (show _=4 from rfl) (zaZ (k:=0) (vs:=(unC uz)) (l':=[zI 2,zI s.tk.k,zI (s.tk.f:Int),zI (s.tk.t:Int),zI uz.k,.int .i32 (uz.r:Int),zI (uz.f:Int),zI (uz.t:Int),.bool uz.al]) zim rfl rfl rfl rfl rfl (Nat.le_of_ble_eq_true rfl) rfl rfl (zyH (zyR 1 rfl (zyN (zau (zag (zaf ?_))))))))
     exact zbj results71 (a:=2) (c:=2)
    refine zal (zae (zay (zyG (zyR 1 rfl (zyN (zau ?_))))))
    exact zbj results71 (a:=s.st) (c:=0)
   have h4:=beq_eq_false_iff_ne.1 h4
   refine zyR 3 rfl (zyN (zaM rfl (zal (zae (zay (zyG (zyR 1 rfl (zyN ?_))))))))
   refine zau ?_
   exact zbj results71 (a:=s.st) (c:=0)
  have h2:=beq_eq_false_iff_ne.1 h2
  refine zaE (zyG (zaS rfl zaL (zyR 1 rfl (zyN ?_))))
  refine zbi rfl (fun h6 => ?_) (fun h6 => ?_)
  ·
   have h6:=beq_iff_eq.1 h6
   refine zal (zay ?_)
   refine zbi rfl (fun h7 => ?_) (fun h7 => ?_)
   ·
    have h7:=beq_iff_eq.1 h7
    refine zaE (zyG (zyR 1 rfl (zaS rfl zaL (zyN ?_))))
    refine zbi rfl (fun h8 => ?_) (fun h8 => ?_)
    ·
     have h8:=beq_iff_eq.1 h8
     refine zyG (zyR 1 rfl (zai rfl dc rfl (zaa zcd rfl dc rfl (show _=0 from rfl) ?_)))
     refine zaT (k:=0) (l':=(scC 3 s)) zeI rfl rfl rfl rfl rfl (fun _ _=>rfl) rfl ?_
     refine zyH (zyR 1 rfl (zyN (zau (zaf (zag (zaf ?_))))))
     exact zbj results71 (a:=3) (c:=1)
    have h8:=beq_eq_false_iff_ne.1 h8
    refine zal (zay (zyG (zyR 1 rfl (zai rfl dc rfl (zaa zcd rfl dc rfl (show _=0 from rfl) (zaj (k:=0) zbW rfl dc rfl rfl rfl (zaS rfl zaL (zyR 1 rfl ?_))))))))
    refine zeP (s:=49) rfl (fun h9 => ?_) (fun h9 => ?_)
    ·
     have h9:=beq_iff_eq.1 h9
     refine zaV (k:=1) (cs:=(unC uz)) zeQ rfl dc rfl rfl rfl rfl (zbg (v:=.bool (dot uz)) (vs:=[.agg (unC uz).toArray]) rfl dc rfl rfl rfl zrM (zvA uz) (zyR 1 rfl (zyN ?_)))
     refine zbi rfl (fun h10 => ?_) (fun h10 => ?_)
     ·
      refine zaE ?_
      refine zgB (β:=Unit) 6 5 _ [(0,53,zP b),(1,54,zP b),(2,55,.agg (unC uz).toArray),(3,56,zP b),(4,57,zP b)] (fun _b=>[]) (fun _b=>[cells b (scC 4 s) 167,cells b1 (unC uz) 165]) mixed kr kr rfl dc dc (by rfl) kr kr (zyE 2 0 rfl (zao ?_ (zao ?_ (zao ?_ (zbU DrawPreX.nil))))) (fun _b=>(zyE 2 0 rfl (zao ?_ (zao ?_ (zao ?_ (zbU DrawPreX.nil)))))) ?_ ?_
      · exact fun D n d c u i=>zaV (k:=1) (cs:=(unC uz)) zeQ rfl dc (zbd (by rfl) rfl) rfl rfl rfl (zar 2 u i)
      · exact fun D n d c u i=>zai rfl dc (zam 0 u d) (zar 3 u i)
      · exact fun D n d c u i=>zaa zcd rfl dc (zam 3 u d) (show _=0 from rfl) (zar 4 u i)
      · exact fun D n d c u i=>zaV (k:=1) (cs:=(unC uz)) zeQ rfl dc (zbd (by rfl) rfl) rfl rfl rfl (zar 2 u i)
      · exact fun D n d c u i=>zai rfl dc (zam 0 u d) (zar 3 u i)
      · exact fun D n d c u i=>zaa zcd rfl dc (zam 3 u d) (show _=0 from rfl) (zar 4 u i)
      ·
       intro D hn hd hcl
       refine zaT (k:=0) (l':=(scC 4 s)) zeI rfl (zaI (m:=4) kr rfl (hd 4 dc)) rfl rfl rfl (fun _ _=>rfl) rfl ?_
       exact fun a w ha hw=>⟨(),ha,hw⟩
      intro _b
      refine zai rfl dc rfl (zaa zho rfl dc rfl (show _=4 from rfl) (zaZ (k:=0) (vs:=(unC uz)) (l':=[zI 4,zI s.tk.k,zI (s.tk.f:Int),zI (s.tk.t:Int),zI uz.k,.int .i32 (uz.r:Int),zI (uz.f:Int),zI (uz.t:Int),.bool uz.al]) zim rfl rfl rfl rfl rfl (Nat.le_of_ble_eq_true rfl) rfl rfl (zyH (zyR 1 rfl (zyN (zau (zag (zaf ?_))))))))
      exact zbj results71 (a:=4) (c:=2)
     refine zal (zae (zay (zyG (zyR 1 rfl (zyN (zau ?_))))))
     exact zbj results71 (a:=s.st) (c:=0)
    have h9:=beq_eq_false_iff_ne.1 h9
    refine zyR 3 rfl (zyN (zaM rfl (zal (zae (zay (zyG (zyR 1 rfl (zyN ?_))))))))
    refine zau ?_
    exact zbj results71 (a:=s.st) (c:=0)
   have h7:=beq_eq_false_iff_ne.1 h7
   refine zyG (zaS rfl zaL (zyR 1 rfl (zyN ?_)))
   refine zbi rfl (fun h11 => ?_) (fun h11 => ?_)
   ·
    have h11:=beq_iff_eq.1 h11
    refine zyG (zyR 1 rfl (zaS rfl zaL (zyN ?_)))
    refine zbi rfl (fun h12 => ?_) (fun h12 => ?_)
    ·
     have h12:=beq_iff_eq.1 h12
     refine zyG (zyR 1 rfl (zyN (zau (zag (zaf ?_)))))
     exact zbj results71 (a:=s.st) (c:=1)
    have h12:=beq_eq_false_iff_ne.1 h12
    refine zal (zae (zay (zyG (zyR 1 rfl (zyN (zau ?_))))))
    exact zbj results71 (a:=s.st) (c:=0)
   have h11:=beq_eq_false_iff_ne.1 h11
   refine zyG (zaS rfl zaL (zyR 1 rfl (zyN ?_)))
   refine zbi rfl (fun h13 => ?_) (fun h13 => ?_)
   ·
    have h13:=beq_iff_eq.1 h13
    refine zyG (zyR 1 rfl (zaS rfl zaL (zyN ?_)))
    refine zbi rfl (fun h14 => ?_) (fun h14 => ?_)
    ·
     have h14:=beq_iff_eq.1 h14
     refine zyG (zyR 1 rfl (zyN (zau (zag (zaf ?_)))))
     exact zbj results71 (a:=s.st) (c:=1)
    have h14:=beq_eq_false_iff_ne.1 h14
    refine zal (zae (zay (zyG (zyR 1 rfl (zyN (zau ?_))))))
    exact zbj results71 (a:=s.st) (c:=0)
   have h13:=beq_eq_false_iff_ne.1 h13
   refine zyG (zaS rfl zaL (zyR 1 rfl (zyN ?_)))
   refine zbi rfl (fun h15 => ?_) (fun h15 => ?_)
   ·
    have h15:=beq_iff_eq.1 h15
    refine zyG (zyR 1 rfl (zaS rfl zaL (zyR 1 rfl ?_)))
    refine zeP (s:=72) rfl (fun h16 => ?_) (fun h16 => ?_)
    ·
     have h16:=beq_iff_eq.1 h16
     refine zaa zhp rfl dc rfl (show _=1 from rfl) (zaj (k:=1) zfY rfl dc rfl rfl rfl (zaS rfl zaL (zyR 1 rfl (zyN ?_))))
     refine zbi rfl (fun h17 => ?_) (fun h17 => ?_)
     ·
      have h17:=beq_iff_eq.1 h17
      refine zyG (zyR 1 rfl (zai rfl dc rfl (zaa zcd rfl dc rfl (show _=0 from rfl) ?_)))
      refine zaT (k:=0) (l':=(scC 7 s)) zeI rfl rfl rfl rfl rfl (fun _ _=>rfl) rfl ?_
      refine zyH (zyR 1 rfl (zyN (zau (zag (zaf ?_)))))
      exact zbj results71 (a:=7) (c:=1)
     have h17:=beq_eq_false_iff_ne.1 h17
     refine zal (zae (zay (zyG (zyR 1 rfl (zyN (zau ?_))))))
     exact zbj results71 (a:=s.st) (c:=0)
    have h16:=beq_eq_false_iff_ne.1 h16
    refine zyR 4 rfl (zyN (zaM rfl (zal (zae (zay (zyG (zyR 1 rfl (zaP ?_))))))))
    refine zay (zau ?_)
    exact zbj results71 (a:=s.st) (c:=0)
   have h15:=beq_eq_false_iff_ne.1 h15
   refine zal (zae (zay (zyG (zyR 1 rfl (zyN (zau ?_))))))
   exact zbj results71 (a:=s.st) (c:=0)
  have h6:=beq_eq_false_iff_ne.1 h6
  refine zas (zaS rfl zaL (zyR 1 rfl (zyN ?_)))
  refine zbi rfl (fun h18 => ?_) (fun h18 => ?_)
  ·
   have h18:=beq_iff_eq.1 h18
   refine zaE (zyG (zyR 1 rfl (zaS rfl zaL (zyN ?_))))
   refine zbi rfl (fun h19 => ?_) (fun h19 => ?_)
   ·
    have h19:=beq_iff_eq.1 h19
    refine zyG (zyR 1 rfl (zai rfl dc rfl (zaa zcd rfl dc rfl (show _=0 from rfl) ?_)))
    refine zaT (k:=0) (l':=(scC 3 s)) zeI rfl rfl rfl rfl rfl (fun _ _=>rfl) rfl ?_
    refine zyH (zyR 1 rfl (zyN (zau (zaf (zag (zaf ?_))))))
    exact zbj results71 (a:=3) (c:=1)
   have h19:=beq_eq_false_iff_ne.1 h19
   refine zal (zay (zyG (zyR 1 rfl (zai rfl dc rfl (zaa zcd rfl dc rfl (show _=0 from rfl) (zaj (k:=0) zbW rfl dc rfl rfl rfl (zaS rfl zaL (zyR 1 rfl ?_))))))))
   refine zeP (s:=49) rfl (fun h20 => ?_) (fun h20 => ?_)
   ·
    have h20:=beq_iff_eq.1 h20
    refine zaV (k:=1) (cs:=(unC uz)) zeQ rfl dc rfl rfl rfl rfl (zbg (v:=.bool (dot uz)) (vs:=[.agg (unC uz).toArray]) rfl dc rfl rfl rfl zrM (zvA uz) (zyR 1 rfl (zyN ?_)))
    refine zbi rfl (fun h21 => ?_) (fun h21 => ?_)
    ·
     refine zaE ?_
     refine zgB (β:=Unit) 6 5 _ [(0,53,zP b),(1,54,zP b),(2,55,.agg (unC uz).toArray),(3,56,zP b),(4,57,zP b)] (fun _b=>[]) (fun _b=>[cells b (scC 4 s) 167,cells b1 (unC uz) 165]) mixed kr kr rfl dc dc (by rfl) kr kr (zyE 2 0 rfl (zao ?_ (zao ?_ (zao ?_ (zbU DrawPreX.nil))))) (fun _b=>(zyE 2 0 rfl (zao ?_ (zao ?_ (zao ?_ (zbU DrawPreX.nil)))))) ?_ ?_
     · exact fun D n d c u i=>zaV (k:=1) (cs:=(unC uz)) zeQ rfl dc (zbd (by rfl) rfl) rfl rfl rfl (zar 2 u i)
     · exact fun D n d c u i=>zai rfl dc (zam 0 u d) (zar 3 u i)
     · exact fun D n d c u i=>zaa zcd rfl dc (zam 3 u d) (show _=0 from rfl) (zar 4 u i)
     · exact fun D n d c u i=>zaV (k:=1) (cs:=(unC uz)) zeQ rfl dc (zbd (by rfl) rfl) rfl rfl rfl (zar 2 u i)
     · exact fun D n d c u i=>zai rfl dc (zam 0 u d) (zar 3 u i)
     · exact fun D n d c u i=>zaa zcd rfl dc (zam 3 u d) (show _=0 from rfl) (zar 4 u i)
     ·
      intro D hn hd hcl
      refine zaT (k:=0) (l':=(scC 4 s)) zeI rfl (zaI (m:=4) kr rfl (hd 4 dc)) rfl rfl rfl (fun _ _=>rfl) rfl ?_
      exact fun a w ha hw=>⟨(),ha,hw⟩
     intro _b
     refine zai rfl dc rfl (zaa zho rfl dc rfl (show _=4 from rfl) (zaZ (k:=0) (vs:=(unC uz)) (l':=[zI 4,zI s.tk.k,zI (s.tk.f:Int),zI (s.tk.t:Int),zI uz.k,.int .i32 (uz.r:Int),zI (uz.f:Int),zI (uz.t:Int),.bool uz.al]) zim rfl rfl rfl rfl rfl (Nat.le_of_ble_eq_true rfl) rfl rfl (zyH (zyR 1 rfl (zyN (zau (zag (zaf ?_))))))))
     exact zbj results71 (a:=4) (c:=2)
    refine zal (zae (zay (zyG (zyR 1 rfl (zyN (zau ?_))))))
    exact zbj results71 (a:=s.st) (c:=0)
   have h20:=beq_eq_false_iff_ne.1 h20
   refine zyR 3 rfl (zyN (zaM rfl (zal (zae (zay (zyG (zyR 1 rfl (zyN ?_))))))))
   refine zau ?_
   exact zbj results71 (a:=s.st) (c:=0)
  have h18:=beq_eq_false_iff_ne.1 h18
  refine zyG (zaS rfl zaL (zyR 1 rfl (zyN ?_)))
  refine zbi rfl (fun h22 => ?_) (fun h22 => ?_)
  ·
   have h22:=beq_iff_eq.1 h22
   refine zyG (zyR 1 rfl (zaS rfl zaL (zyN ?_)))
   refine zbi rfl (fun h23 => ?_) (fun h23 => ?_)
   ·
    have h23:=beq_iff_eq.1 h23
    refine zyG (zyR 1 rfl (zyN (zau (zag (zaf ?_)))))
    exact zbj results71 (a:=s.st) (c:=1)
   have h23:=beq_eq_false_iff_ne.1 h23
   refine zal (zae (zay (zyG (zyR 1 rfl (zyN (zau ?_))))))
   exact zbj results71 (a:=s.st) (c:=0)
  have h22:=beq_eq_false_iff_ne.1 h22
  refine zyG (zaS rfl zaL (zyR 1 rfl (zyN ?_)))
  refine zbi rfl (fun h24 => ?_) (fun h24 => ?_)
  ·
   have h24:=beq_iff_eq.1 h24
   refine zyG (zyR 1 rfl (zaS rfl zaL (zyN ?_)))
   refine zbi rfl (fun h25 => ?_) (fun h25 => ?_)
   ·
    have h25:=beq_iff_eq.1 h25
    refine zyG (zyR 1 rfl (zyN (zau (zag (zaf ?_)))))
    exact zbj results71 (a:=s.st) (c:=1)
   have h25:=beq_eq_false_iff_ne.1 h25
   refine zal (zae (zay (zyG (zyR 1 rfl (zyN (zau ?_))))))
   exact zbj results71 (a:=s.st) (c:=0)
  have h24:=beq_eq_false_iff_ne.1 h24
  refine zyG (zaS rfl zaL (zyR 1 rfl (zyN ?_)))
  refine zbi rfl (fun h26 => ?_) (fun h26 => ?_)
  ·
   have h26:=beq_iff_eq.1 h26
   refine zyG (zyR 1 rfl (zaS rfl zaL (zyR 1 rfl ?_)))
   refine zeP (s:=72) rfl (fun h27 => ?_) (fun h27 => ?_)
   ·
    have h27:=beq_iff_eq.1 h27
    refine zaa zhp rfl dc rfl (show _=1 from rfl) (zaj (k:=1) zfY rfl dc rfl rfl rfl (zaS rfl zaL (zyR 1 rfl (zyN ?_))))
    refine zbi rfl (fun h28 => ?_) (fun h28 => ?_)
    ·
     have h28:=beq_iff_eq.1 h28
     refine zyG (zyR 1 rfl (zai rfl dc rfl (zaa zcd rfl dc rfl (show _=0 from rfl) ?_)))
     refine zaT (k:=0) (l':=(scC 7 s)) zeI rfl rfl rfl rfl rfl (fun _ _=>rfl) rfl ?_
     refine zyH (zyR 1 rfl (zyN (zau (zag (zaf ?_)))))
     exact zbj results71 (a:=7) (c:=1)
    have h28:=beq_eq_false_iff_ne.1 h28
    refine zal (zae (zay (zyG (zyR 1 rfl (zyN (zau ?_))))))
    exact zbj results71 (a:=s.st) (c:=0)
   have h27:=beq_eq_false_iff_ne.1 h27
   refine zyR 4 rfl (zyN (zaM rfl (zal (zae (zay (zyG (zyR 1 rfl (zaP ?_))))))))
   refine zay (zau ?_)
   exact zbj results71 (a:=s.st) (c:=0)
  have h26:=beq_eq_false_iff_ne.1 h26
  refine zal (zae (zay (zyG (zyR 1 rfl (zyN (zau ?_))))))
  exact zbj results71 (a:=s.st) (c:=0)
 have h1:=beq_eq_false_iff_ne.1 h1
 refine zas (zaS rfl zaL (zyR 1 rfl (zyN ?_)))
 refine zbi rfl (fun h29 => ?_) (fun h29 => ?_)
 ·
  have h29:=beq_iff_eq.1 h29
  refine zaE (zyG (zyR 1 rfl (zaS rfl zaL (zyN ?_))))
  refine zbi rfl (fun h30 => ?_) (fun h30 => ?_)
  ·
   have h30:=beq_iff_eq.1 h30
   refine zyG (zyR 1 rfl (zai rfl dc rfl (zaa zcd rfl dc rfl (show _=0 from rfl) ?_)))
   refine zaT (k:=0) (l':=(scC 1 s)) zeI rfl rfl rfl rfl rfl (fun _ _=>rfl) rfl ?_
   refine zyH (zyR 1 rfl (zyN (zau (zaf (zag (zaf ?_))))))
   exact zbj results71 (a:=1) (c:=1)
  have h30:=beq_eq_false_iff_ne.1 h30
  refine zal (zay (zyG (zyR 1 rfl (zai rfl dc rfl (zaa zcd rfl dc rfl (show _=0 from rfl) (zaj (k:=0) zbW rfl dc rfl rfl rfl (zaS rfl zaL (zyR 1 rfl ?_))))))))
  refine zeP (s:=25) rfl (fun h31 => ?_) (fun h31 => ?_)
  ·
   have h31:=beq_iff_eq.1 h31
   refine zaV (k:=1) (cs:=(unC uz)) zeQ rfl dc rfl rfl rfl rfl (zbg (v:=.bool (zlw uz)) (vs:=[.agg (unC uz).toArray]) rfl dc rfl rfl rfl zww (ztS uz) (zyR 1 rfl (zyN ?_)))
   refine zbi rfl (fun h32 => ?_) (fun h32 => ?_)
   ·
    refine zaE ?_
    refine zgB (β:=Unit) 6 5 _ [(0,29,zP b),(1,30,zP b),(2,31,.agg (unC uz).toArray),(3,32,zP b),(4,33,zP b)] (fun _b=>[]) (fun _b=>[cells b (scC 2 s) 167,cells b1 (unC uz) 165]) mixed kr kr rfl dc dc (by rfl) kr kr (zyE 2 0 rfl (zao ?_ (zao ?_ (zao ?_ (zbU DrawPreX.nil))))) (fun _b=>(zyE 2 0 rfl (zao ?_ (zao ?_ (zao ?_ (zbU DrawPreX.nil)))))) ?_ ?_
    · exact fun D n d c u i=>zaV (k:=1) (cs:=(unC uz)) zeQ rfl dc (zbd (by rfl) rfl) rfl rfl rfl (zar 2 u i)
    · exact fun D n d c u i=>zai rfl dc (zam 0 u d) (zar 3 u i)
    · exact fun D n d c u i=>zaa zcd rfl dc (zam 3 u d) (show _=0 from rfl) (zar 4 u i)
    · exact fun D n d c u i=>zaV (k:=1) (cs:=(unC uz)) zeQ rfl dc (zbd (by rfl) rfl) rfl rfl rfl (zar 2 u i)
    · exact fun D n d c u i=>zai rfl dc (zam 0 u d) (zar 3 u i)
    · exact fun D n d c u i=>zaa zcd rfl dc (zam 3 u d) (show _=0 from rfl) (zar 4 u i)
    ·
     intro D hn hd hcl
     refine zaT (k:=0) (l':=(scC 2 s)) zeI rfl (zaI (m:=4) kr rfl (hd 4 dc)) rfl rfl rfl (fun _ _=>rfl) rfl ?_
     exact fun a w ha hw=>⟨(),ha,hw⟩
    intro _b
    refine zai rfl dc rfl (zaa zho rfl dc rfl (show _=4 from rfl) (zaZ (k:=0) (vs:=(unC uz)) (l':=[zI 2,zI s.tk.k,zI (s.tk.f:Int),zI (s.tk.t:Int),zI uz.k,.int .i32 (uz.r:Int),zI (uz.f:Int),zI (uz.t:Int),.bool uz.al]) zim rfl rfl rfl rfl rfl (Nat.le_of_ble_eq_true rfl) rfl rfl (zyH (zyR 1 rfl (zyN (zau (zag (zaf ?_))))))))
    exact zbj results71 (a:=2) (c:=2)
   refine zal (zae (zay (zyG (zyR 1 rfl (zyN (zau ?_))))))
   exact zbj results71 (a:=s.st) (c:=0)
  have h31:=beq_eq_false_iff_ne.1 h31
  refine zyR 3 rfl (zyN (zaM rfl (zal (zae (zay (zyG (zyR 1 rfl (zyN ?_))))))))
  refine zau ?_
  exact zbj results71 (a:=s.st) (c:=0)
 have h29:=beq_eq_false_iff_ne.1 h29
 refine zaE (zyG (zaS rfl zaL (zyR 1 rfl (zyN ?_))))
 refine zbi rfl (fun h33 => ?_) (fun h33 => ?_)
 ·
  have h33:=beq_iff_eq.1 h33
  refine zal (zay ?_)
  refine zbi rfl (fun h34 => ?_) (fun h34 => ?_)
  ·
   have h34:=beq_iff_eq.1 h34
   refine zaE (zyG (zyR 1 rfl (zaS rfl zaL (zyN ?_))))
   refine zbi rfl (fun h35 => ?_) (fun h35 => ?_)
   ·
    have h35:=beq_iff_eq.1 h35
    refine zyG (zyR 1 rfl (zai rfl dc rfl (zaa zcd rfl dc rfl (show _=0 from rfl) ?_)))
    refine zaT (k:=0) (l':=(scC 3 s)) zeI rfl rfl rfl rfl rfl (fun _ _=>rfl) rfl ?_
    refine zyH (zyR 1 rfl (zyN (zau (zaf (zag (zaf ?_))))))
    exact zbj results71 (a:=3) (c:=1)
   have h35:=beq_eq_false_iff_ne.1 h35
   refine zal (zay (zyG (zyR 1 rfl (zai rfl dc rfl (zaa zcd rfl dc rfl (show _=0 from rfl) (zaj (k:=0) zbW rfl dc rfl rfl rfl (zaS rfl zaL (zyR 1 rfl ?_))))))))
   refine zeP (s:=49) rfl (fun h36 => ?_) (fun h36 => ?_)
   ·
    have h36:=beq_iff_eq.1 h36
    refine zaV (k:=1) (cs:=(unC uz)) zeQ rfl dc rfl rfl rfl rfl (zbg (v:=.bool (dot uz)) (vs:=[.agg (unC uz).toArray]) rfl dc rfl rfl rfl zrM (zvA uz) (zyR 1 rfl (zyN ?_)))
    refine zbi rfl (fun h37 => ?_) (fun h37 => ?_)
    ·
     refine zaE ?_
     refine zgB (β:=Unit) 6 5 _ [(0,53,zP b),(1,54,zP b),(2,55,.agg (unC uz).toArray),(3,56,zP b),(4,57,zP b)] (fun _b=>[]) (fun _b=>[cells b (scC 4 s) 167,cells b1 (unC uz) 165]) mixed kr kr rfl dc dc (by rfl) kr kr (zyE 2 0 rfl (zao ?_ (zao ?_ (zao ?_ (zbU DrawPreX.nil))))) (fun _b=>(zyE 2 0 rfl (zao ?_ (zao ?_ (zao ?_ (zbU DrawPreX.nil)))))) ?_ ?_
     · exact fun D n d c u i=>zaV (k:=1) (cs:=(unC uz)) zeQ rfl dc (zbd (by rfl) rfl) rfl rfl rfl (zar 2 u i)
     · exact fun D n d c u i=>zai rfl dc (zam 0 u d) (zar 3 u i)
     · exact fun D n d c u i=>zaa zcd rfl dc (zam 3 u d) (show _=0 from rfl) (zar 4 u i)
     · exact fun D n d c u i=>zaV (k:=1) (cs:=(unC uz)) zeQ rfl dc (zbd (by rfl) rfl) rfl rfl rfl (zar 2 u i)
     · exact fun D n d c u i=>zai rfl dc (zam 0 u d) (zar 3 u i)
     · exact fun D n d c u i=>zaa zcd rfl dc (zam 3 u d) (show _=0 from rfl) (zar 4 u i)
     ·
      intro D hn hd hcl
      refine zaT (k:=0) (l':=(scC 4 s)) zeI rfl (zaI (m:=4) kr rfl (hd 4 dc)) rfl rfl rfl (fun _ _=>rfl) rfl ?_
      exact fun a w ha hw=>⟨(),ha,hw⟩
     intro _b
     refine zai rfl dc rfl (zaa zho rfl dc rfl (show _=4 from rfl) (zaZ (k:=0) (vs:=(unC uz)) (l':=[zI 4,zI s.tk.k,zI (s.tk.f:Int),zI (s.tk.t:Int),zI uz.k,.int .i32 (uz.r:Int),zI (uz.f:Int),zI (uz.t:Int),.bool uz.al]) zim rfl rfl rfl rfl rfl (Nat.le_of_ble_eq_true rfl) rfl rfl (zyH (zyR 1 rfl (zyN (zau (zag (zaf ?_))))))))
     exact zbj results71 (a:=4) (c:=2)
    refine zal (zae (zay (zyG (zyR 1 rfl (zyN (zau ?_))))))
    exact zbj results71 (a:=s.st) (c:=0)
   have h36:=beq_eq_false_iff_ne.1 h36
   refine zyR 3 rfl (zyN (zaM rfl (zal (zae (zay (zyG (zyR 1 rfl (zyN ?_))))))))
   refine zau ?_
   exact zbj results71 (a:=s.st) (c:=0)
  have h34:=beq_eq_false_iff_ne.1 h34
  refine zyG (zaS rfl zaL (zyR 1 rfl (zyN ?_)))
  refine zbi rfl (fun h38 => ?_) (fun h38 => ?_)
  ·
   have h38:=beq_iff_eq.1 h38
   refine zyG (zyR 1 rfl (zaS rfl zaL (zyN ?_)))
   refine zbi rfl (fun h39 => ?_) (fun h39 => ?_)
   ·
    have h39:=beq_iff_eq.1 h39
    refine zyG (zyR 1 rfl (zyN (zau (zag (zaf ?_)))))
    exact zbj results71 (a:=s.st) (c:=1)
   have h39:=beq_eq_false_iff_ne.1 h39
   refine zal (zae (zay (zyG (zyR 1 rfl (zyN (zau ?_))))))
   exact zbj results71 (a:=s.st) (c:=0)
  have h38:=beq_eq_false_iff_ne.1 h38
  refine zyG (zaS rfl zaL (zyR 1 rfl (zyN ?_)))
  refine zbi rfl (fun h40 => ?_) (fun h40 => ?_)
  ·
   have h40:=beq_iff_eq.1 h40
   refine zyG (zyR 1 rfl (zaS rfl zaL (zyN ?_)))
   refine zbi rfl (fun h41 => ?_) (fun h41 => ?_)
   ·
    have h41:=beq_iff_eq.1 h41
    refine zyG (zyR 1 rfl (zyN (zau (zag (zaf ?_)))))
    exact zbj results71 (a:=s.st) (c:=1)
   have h41:=beq_eq_false_iff_ne.1 h41
   refine zal (zae (zay (zyG (zyR 1 rfl (zyN (zau ?_))))))
   exact zbj results71 (a:=s.st) (c:=0)
  have h40:=beq_eq_false_iff_ne.1 h40
  refine zyG (zaS rfl zaL (zyR 1 rfl (zyN ?_)))
  refine zbi rfl (fun h42 => ?_) (fun h42 => ?_)
  ·
   have h42:=beq_iff_eq.1 h42
   refine zyG (zyR 1 rfl (zaS rfl zaL (zyR 1 rfl ?_)))
   refine zeP (s:=72) rfl (fun h43 => ?_) (fun h43 => ?_)
   ·
    have h43:=beq_iff_eq.1 h43
    refine zaa zhp rfl dc rfl (show _=1 from rfl) (zaj (k:=1) zfY rfl dc rfl rfl rfl (zaS rfl zaL (zyR 1 rfl (zyN ?_))))
    refine zbi rfl (fun h44 => ?_) (fun h44 => ?_)
    ·
     have h44:=beq_iff_eq.1 h44
     refine zyG (zyR 1 rfl (zai rfl dc rfl (zaa zcd rfl dc rfl (show _=0 from rfl) ?_)))
     refine zaT (k:=0) (l':=(scC 7 s)) zeI rfl rfl rfl rfl rfl (fun _ _=>rfl) rfl ?_
     refine zyH (zyR 1 rfl (zyN (zau (zag (zaf ?_)))))
     exact zbj results71 (a:=7) (c:=1)
    have h44:=beq_eq_false_iff_ne.1 h44
    refine zal (zae (zay (zyG (zyR 1 rfl (zyN (zau ?_))))))
    exact zbj results71 (a:=s.st) (c:=0)
   have h43:=beq_eq_false_iff_ne.1 h43
   refine zyR 4 rfl (zyN (zaM rfl (zal (zae (zay (zyG (zyR 1 rfl (zaP ?_))))))))
   refine zay (zau ?_)
   exact zbj results71 (a:=s.st) (c:=0)
  have h42:=beq_eq_false_iff_ne.1 h42
  refine zal (zae (zay (zyG (zyR 1 rfl (zyN (zau ?_))))))
  exact zbj results71 (a:=s.st) (c:=0)
 have h33:=beq_eq_false_iff_ne.1 h33
 refine zas (zaS rfl zaL (zyR 1 rfl (zyN ?_)))
 refine zbi rfl (fun h45 => ?_) (fun h45 => ?_)
 ·
  have h45:=beq_iff_eq.1 h45
  refine zaE (zyG (zyR 1 rfl (zaS rfl zaL (zyN ?_))))
  refine zbi rfl (fun h46 => ?_) (fun h46 => ?_)
  ·
   have h46:=beq_iff_eq.1 h46
   refine zyG (zyR 1 rfl (zai rfl dc rfl (zaa zcd rfl dc rfl (show _=0 from rfl) ?_)))
   refine zaT (k:=0) (l':=(scC 3 s)) zeI rfl rfl rfl rfl rfl (fun _ _=>rfl) rfl ?_
   refine zyH (zyR 1 rfl (zyN (zau (zaf (zag (zaf ?_))))))
   exact zbj results71 (a:=3) (c:=1)
  have h46:=beq_eq_false_iff_ne.1 h46
  refine zal (zay (zyG (zyR 1 rfl (zai rfl dc rfl (zaa zcd rfl dc rfl (show _=0 from rfl) (zaj (k:=0) zbW rfl dc rfl rfl rfl (zaS rfl zaL (zyR 1 rfl ?_))))))))
  refine zeP (s:=49) rfl (fun h47 => ?_) (fun h47 => ?_)
  ·
   have h47:=beq_iff_eq.1 h47
   refine zaV (k:=1) (cs:=(unC uz)) zeQ rfl dc rfl rfl rfl rfl (zbg (v:=.bool (dot uz)) (vs:=[.agg (unC uz).toArray]) rfl dc rfl rfl rfl zrM (zvA uz) (zyR 1 rfl (zyN ?_)))
   refine zbi rfl (fun h48 => ?_) (fun h48 => ?_)
   ·
    refine zaE ?_
    refine zgB (β:=Unit) 6 5 _ [(0,53,zP b),(1,54,zP b),(2,55,.agg (unC uz).toArray),(3,56,zP b),(4,57,zP b)] (fun _b=>[]) (fun _b=>[cells b (scC 4 s) 167,cells b1 (unC uz) 165]) mixed kr kr rfl dc dc (by rfl) kr kr (zyE 2 0 rfl (zao ?_ (zao ?_ (zao ?_ (zbU DrawPreX.nil))))) (fun _b=>(zyE 2 0 rfl (zao ?_ (zao ?_ (zao ?_ (zbU DrawPreX.nil)))))) ?_ ?_
    · exact fun D n d c u i=>zaV (k:=1) (cs:=(unC uz)) zeQ rfl dc (zbd (by rfl) rfl) rfl rfl rfl (zar 2 u i)
    · exact fun D n d c u i=>zai rfl dc (zam 0 u d) (zar 3 u i)
    · exact fun D n d c u i=>zaa zcd rfl dc (zam 3 u d) (show _=0 from rfl) (zar 4 u i)
    · exact fun D n d c u i=>zaV (k:=1) (cs:=(unC uz)) zeQ rfl dc (zbd (by rfl) rfl) rfl rfl rfl (zar 2 u i)
    · exact fun D n d c u i=>zai rfl dc (zam 0 u d) (zar 3 u i)
    · exact fun D n d c u i=>zaa zcd rfl dc (zam 3 u d) (show _=0 from rfl) (zar 4 u i)
    ·
     intro D hn hd hcl
     refine zaT (k:=0) (l':=(scC 4 s)) zeI rfl (zaI (m:=4) kr rfl (hd 4 dc)) rfl rfl rfl (fun _ _=>rfl) rfl ?_
     exact fun a w ha hw=>⟨(),ha,hw⟩
    intro _b
    refine zai rfl dc rfl (zaa zho rfl dc rfl (show _=4 from rfl) (zaZ (k:=0) (vs:=(unC uz)) (l':=[zI 4,zI s.tk.k,zI (s.tk.f:Int),zI (s.tk.t:Int),zI uz.k,.int .i32 (uz.r:Int),zI (uz.f:Int),zI (uz.t:Int),.bool uz.al]) zim rfl rfl rfl rfl rfl (Nat.le_of_ble_eq_true rfl) rfl rfl (zyH (zyR 1 rfl (zyN (zau (zag (zaf ?_))))))))
    exact zbj results71 (a:=4) (c:=2)
   refine zal (zae (zay (zyG (zyR 1 rfl (zyN (zau ?_))))))
   exact zbj results71 (a:=s.st) (c:=0)
  have h47:=beq_eq_false_iff_ne.1 h47
  refine zyR 3 rfl (zyN (zaM rfl (zal (zae (zay (zyG (zyR 1 rfl (zyN ?_))))))))
  refine zau ?_
  exact zbj results71 (a:=s.st) (c:=0)
 have h45:=beq_eq_false_iff_ne.1 h45
 refine zyG (zaS rfl zaL (zyR 1 rfl (zyN ?_)))
 refine zbi rfl (fun h49 => ?_) (fun h49 => ?_)
 ·
  have h49:=beq_iff_eq.1 h49
  refine zyG (zyR 1 rfl (zaS rfl zaL (zyN ?_)))
  refine zbi rfl (fun h50 => ?_) (fun h50 => ?_)
  ·
   have h50:=beq_iff_eq.1 h50
   refine zyG (zyR 1 rfl (zyN (zau (zag (zaf ?_)))))
   exact zbj results71 (a:=s.st) (c:=1)
  have h50:=beq_eq_false_iff_ne.1 h50
  refine zal (zae (zay (zyG (zyR 1 rfl (zyN (zau ?_))))))
  exact zbj results71 (a:=s.st) (c:=0)
 have h49:=beq_eq_false_iff_ne.1 h49
 refine zyG (zaS rfl zaL (zyR 1 rfl (zyN ?_)))
 refine zbi rfl (fun h51 => ?_) (fun h51 => ?_)
 ·
  have h51:=beq_iff_eq.1 h51
  refine zyG (zyR 1 rfl (zaS rfl zaL (zyN ?_)))
  refine zbi rfl (fun h52 => ?_) (fun h52 => ?_)
  ·
   have h52:=beq_iff_eq.1 h52
   refine zyG (zyR 1 rfl (zyN (zau (zag (zaf ?_)))))
   exact zbj results71 (a:=s.st) (c:=1)
  have h52:=beq_eq_false_iff_ne.1 h52
  refine zal (zae (zay (zyG (zyR 1 rfl (zyN (zau ?_))))))
  exact zbj results71 (a:=s.st) (c:=0)
 have h51:=beq_eq_false_iff_ne.1 h51
 refine zyG (zaS rfl zaL (zyR 1 rfl (zyN ?_)))
 refine zbi rfl (fun h53 => ?_) (fun h53 => ?_)
 ·
  have h53:=beq_iff_eq.1 h53
  refine zyG (zyR 1 rfl (zaS rfl zaL (zyR 1 rfl ?_)))
  refine zeP (s:=72) rfl (fun h54 => ?_) (fun h54 => ?_)
  ·
   have h54:=beq_iff_eq.1 h54
   refine zaa zhp rfl dc rfl (show _=1 from rfl) (zaj (k:=1) zfY rfl dc rfl rfl rfl (zaS rfl zaL (zyR 1 rfl (zyN ?_))))
   refine zbi rfl (fun h55 => ?_) (fun h55 => ?_)
   ·
    have h55:=beq_iff_eq.1 h55
    refine zyG (zyR 1 rfl (zai rfl dc rfl (zaa zcd rfl dc rfl (show _=0 from rfl) ?_)))
    refine zaT (k:=0) (l':=(scC 7 s)) zeI rfl rfl rfl rfl rfl (fun _ _=>rfl) rfl ?_
    refine zyH (zyR 1 rfl (zyN (zau (zag (zaf ?_)))))
    exact zbj results71 (a:=7) (c:=1)
   have h55:=beq_eq_false_iff_ne.1 h55
   refine zal (zae (zay (zyG (zyR 1 rfl (zyN (zau ?_))))))
   exact zbj results71 (a:=s.st) (c:=0)
  have h54:=beq_eq_false_iff_ne.1 h54
  refine zyR 4 rfl (zyN (zaM rfl (zal (zae (zay (zyG (zyR 1 rfl (zaP ?_))))))))
  refine zay (zau ?_)
  exact zbj results71 (a:=s.st) (c:=0)
 have h53:=beq_eq_false_iff_ne.1 h53
 refine zal (zae (zay (zyG (zyR 1 rfl (zyN (zau ?_))))))
 exact zbj results71 (a:=s.st) (c:=0)
theorem zvG (b:Nat) (s:Sc) (uz:Un):Fn prog 73 [zP b,.agg #[zI uz.k,.int .i32 uz.r,zI uz.f,zI uz.t,.bool uz.al]] [cells b (scV s) 167] (fun _:Unit=>.tuple #[]) (fun _=>[cells b (scV (began s uz)) 167]):=by
 refine Fn.intro func73 rfl ntmps73 (by simp) ?_
 intro w0 K
 refine zyG ?_
 refine zdi rfl dc rfl (fun b1 => ?_)
 refine zyH (zyR 1 rfl (zaa zeN rfl dc rfl (show _=2 from rfl) (zaV (k:=1) (cs:=[zI (uz.f:Int),zI (uz.t:Int)]) zne rfl dc rfl rfl rfl rfl ?_)))
 refine zbA (v:=.agg #[zI 6,zI (uz.f:Int),zI (uz.t:Int)]) (ps:=[(0,.const (zI 6)),(1,.tmp 6)]) rfl dc rfl (fun _=>by kernel_rfl) ?_
 refine zai rfl dc rfl (zaa ze5 rfl dc rfl (show _=1 from rfl) (zaZ (k:=0) (vs:=[zI 6,zI (uz.f:Int),zI (uz.t:Int)]) (l':=[zI s.st,zI 6,zI (uz.f:Int),zI (uz.t:Int),zI s.h.k,.int .i32 (s.h.r:Int),zI (s.h.f:Int),zI (s.h.t:Int),.bool s.h.al]) zwc rfl rfl rfl rfl rfl (Nat.le_of_ble_eq_true rfl) rfl rfl (zyH (zyR 1 rfl (zai rfl dc rfl (zaa zcd rfl dc rfl (show _=0 from rfl) ?_))))))
 refine zaT (k:=0) (l':=[zI 9,zI 6,zI (uz.f:Int),zI (uz.t:Int),zI s.h.k,.int .i32 (s.h.r:Int),zI (s.h.f:Int),zI (s.h.t:Int),.bool s.h.al]) zeI rfl rfl rfl rfl rfl (fun _ _=>rfl) rfl ?_
 refine zyH (zaa zlT rfl dc rfl (show _=0 from rfl) (zaj (k:=1) zia rfl dc rfl rfl rfl (zyN (zaG (zyG (zaS rfl zaL (zyR 1 rfl (zaP ?_))))))))
 refine zay ?_
 refine zbi rfl (fun h1 => ?_) (fun h1 => ?_)
 ·
  have h1:=beq_iff_eq.1 h1
  refine zas (zyR 2 rfl (zai rfl dc rfl (zaa ze5 rfl dc rfl (show _=1 from rfl) (zaa zgv rfl dc rfl (show _=1 from rfl) ?_))))
  refine zaT (k:=0) (l':=[zI 9,zI 1,zI (uz.f:Int),zI (uz.t:Int),zI s.h.k,.int .i32 (s.h.r:Int),zI (s.h.f:Int),zI (s.h.t:Int),.bool s.h.al]) zeI rfl rfl rfl rfl rfl (fun _ _=>rfl) rfl ?_
  refine zai rfl dc rfl (zaa zcd rfl dc rfl (show _=0 from rfl) ?_)
  refine zaT (k:=0) (l':=[zI 1,zI 1,zI (uz.f:Int),zI (uz.t:Int),zI s.h.k,.int .i32 (s.h.r:Int),zI (s.h.f:Int),zI (s.h.t:Int),.bool s.h.al]) zeI rfl rfl rfl rfl rfl (fun _ _=>rfl) rfl ?_
  refine zaP (zae ?_)
  exact zeX (.inr rfl) results73 (by simp_all [began,begins,scV] <;> omega)
 have h1:=beq_eq_false_iff_ne.1 h1
 refine zyG (zaS rfl zaL (zyR 1 rfl (zyN ?_)))
 refine zbi rfl (fun h2 => ?_) (fun h2 => ?_)
 ·
  have h2:=beq_iff_eq.1 h2
  refine zas (zyR 2 rfl (zai rfl dc rfl (zaa ze5 rfl dc rfl (show _=1 from rfl) (zaa zgv rfl dc rfl (show _=1 from rfl) ?_))))
  refine zaT (k:=0) (l':=[zI 9,zI 2,zI (uz.f:Int),zI (uz.t:Int),zI s.h.k,.int .i32 (s.h.r:Int),zI (s.h.f:Int),zI (s.h.t:Int),.bool s.h.al]) zeI rfl rfl rfl rfl rfl (fun _ _=>rfl) rfl ?_
  refine zai rfl dc rfl (zaa zcd rfl dc rfl (show _=0 from rfl) ?_)
  refine zaT (k:=0) (l':=[zI 3,zI 2,zI (uz.f:Int),zI (uz.t:Int),zI s.h.k,.int .i32 (s.h.r:Int),zI (s.h.f:Int),zI (s.h.t:Int),.bool s.h.al]) zeI rfl rfl rfl rfl rfl (fun _ _=>rfl) rfl ?_
  refine zaP (zae ?_)
  exact zeX (.inr rfl) results73 (by simp_all [began,begins,scV] <;> omega)
 have h2:=beq_eq_false_iff_ne.1 h2
 refine zyG (zaS rfl zaL (zyR 1 rfl (zyN ?_)))
 refine zbi rfl (fun h3 => ?_) (fun h3 => ?_)
 ·
  have h3:=beq_iff_eq.1 h3
  refine zas (zyR 2 rfl (zai rfl dc rfl (zaa ze5 rfl dc rfl (show _=1 from rfl) (zaa zgv rfl dc rfl (show _=1 from rfl) ?_))))
  refine zaT (k:=0) (l':=[zI 9,zI 3,zI (uz.f:Int),zI (uz.t:Int),zI s.h.k,.int .i32 (s.h.r:Int),zI (s.h.f:Int),zI (s.h.t:Int),.bool s.h.al]) zeI rfl rfl rfl rfl rfl (fun _ _=>rfl) rfl ?_
  refine zai rfl dc rfl (zaa zcd rfl dc rfl (show _=0 from rfl) ?_)
  refine zaT (k:=0) (l':=[zI 5,zI 3,zI (uz.f:Int),zI (uz.t:Int),zI s.h.k,.int .i32 (s.h.r:Int),zI (s.h.f:Int),zI (s.h.t:Int),.bool s.h.al]) zeI rfl rfl rfl rfl rfl (fun _ _=>rfl) rfl ?_
  refine zaP (zae ?_)
  exact zeX (.inr rfl) results73 (by simp_all [began,begins,scV] <;> omega)
 have h3:=beq_eq_false_iff_ne.1 h3
 refine zyG (zaS rfl zaL (zyR 1 rfl (zyN ?_)))
 refine zbi rfl (fun h4 => ?_) (fun h4 => ?_)
 ·
  have h4:=beq_iff_eq.1 h4
  refine zas (zyR 2 rfl (zai rfl dc rfl (zaa ze5 rfl dc rfl (show _=1 from rfl) (zaa zgv rfl dc rfl (show _=1 from rfl) ?_))))
  refine zaT (k:=0) (l':=[zI 9,zI 7,zI (uz.f:Int),zI (uz.t:Int),zI s.h.k,.int .i32 (s.h.r:Int),zI (s.h.f:Int),zI (s.h.t:Int),.bool s.h.al]) zeI rfl rfl rfl rfl rfl (fun _ _=>rfl) rfl ?_
  refine zai rfl dc rfl (zaa zcd rfl dc rfl (show _=0 from rfl) ?_)
  refine zaT (k:=0) (l':=[zI 6,zI 7,zI (uz.f:Int),zI (uz.t:Int),zI s.h.k,.int .i32 (s.h.r:Int),zI (s.h.f:Int),zI (s.h.t:Int),.bool s.h.al]) zeI rfl rfl rfl rfl rfl (fun _ _=>rfl) rfl ?_
  refine zaP (zae ?_)
  exact zeX (.inr rfl) results73 (by simp_all [began,begins,scV] <;> omega)
 have h4:=beq_eq_false_iff_ne.1 h4
 refine zyG (zaS rfl zaL (zyR 1 rfl (zyN ?_)))
 refine zbi rfl (fun h5 => ?_) (fun h5 => ?_)
 ·
  have h5:=beq_iff_eq.1 h5
  refine zyG (zyR 2 rfl (zai rfl dc rfl (zaa ze5 rfl dc rfl (show _=1 from rfl) (zaa zgv rfl dc rfl (show _=1 from rfl) ?_))))
  refine zaT (k:=0) (l':=[zI 9,zI 4,zI (uz.f:Int),zI (uz.t:Int),zI s.h.k,.int .i32 (s.h.r:Int),zI (s.h.f:Int),zI (s.h.t:Int),.bool s.h.al]) zeI rfl rfl rfl rfl rfl (fun _ _=>rfl) rfl ?_
  refine zai rfl dc rfl (zaa zcd rfl dc rfl (show _=0 from rfl) ?_)
  refine zaT (k:=0) (l':=[zI 7,zI 4,zI (uz.f:Int),zI (uz.t:Int),zI s.h.k,.int .i32 (s.h.r:Int),zI (s.h.f:Int),zI (s.h.t:Int),.bool s.h.al]) zeI rfl rfl rfl rfl rfl (fun _ _=>rfl) rfl ?_
  refine zyH (zaa zhp rfl dc rfl (show _=1 from rfl) (zaj (k:=1) zfY rfl dc rfl rfl rfl (zaS rfl zaL (zyN ?_))))
  refine zbi rfl (fun h6 => ?_) (fun h6 => ?_)
  ·
   have h6:=beq_iff_eq.1 h6
   refine zas (zyR 1 rfl (zai rfl dc rfl (zaa zcd rfl dc rfl (show _=0 from rfl) ?_)))
   refine zaT (k:=0) (l':=[zI 8,zI 4,zI (uz.f:Int),zI (uz.t:Int),zI s.h.k,.int .i32 (s.h.r:Int),zI (s.h.f:Int),zI (s.h.t:Int),.bool s.h.al]) zeI rfl rfl rfl rfl rfl (fun _ _=>rfl) rfl ?_
   refine zaP (zae ?_)
   exact zeX (.inr rfl) results73 (by simp_all [began,begins,scV] <;> omega)
  have h6:=beq_eq_false_iff_ne.1 h6
  refine zal (zae ?_)
  exact zeX (.inr rfl) results73 (by simp_all [began,begins,scV] <;> omega)
 have h5:=beq_eq_false_iff_ne.1 h5
 refine zaE (zyG (zaS rfl zaL (zyR 1 rfl (zyN ?_))))
 refine zbi rfl (fun h7 => ?_) (fun h7 => ?_)
 ·
  have h7:=beq_iff_eq.1 h7
  refine zal (zay ?_)
  refine zbi rfl (fun h8 => ?_) (fun h8 => ?_)
  ·
   have h8:=beq_iff_eq.1 h8
   refine zas (zyR 1 rfl (zai rfl dc rfl (zaa ze5 rfl dc rfl (show _=1 from rfl) (zaa zgv rfl dc rfl (show _=1 from rfl) ?_))))
   refine zaT (k:=0) (l':=[zI 9,zI 5,zI (uz.f:Int),zI (uz.t:Int),zI s.h.k,.int .i32 (s.h.r:Int),zI (s.h.f:Int),zI (s.h.t:Int),.bool s.h.al]) zeI rfl rfl rfl rfl rfl (fun _ _=>rfl) rfl ?_
   refine zaP (zae ?_)
   exact zeX (.inr rfl) results73 (by simp_all [began,begins,scV] <;> omega)
  have h8:=beq_eq_false_iff_ne.1 h8
  refine zal (zae ?_)
  exact zeX (.inr rfl) results73 (by simp_all [began,begins,scV] <;> omega)
 have h7:=beq_eq_false_iff_ne.1 h7
 refine zyG (zaS rfl zaL (zyR 1 rfl (zyN ?_)))
 refine zbi rfl (fun h9 => ?_) (fun h9 => ?_)
 ·
  have h9:=beq_iff_eq.1 h9
  refine zal (zay ?_)
  refine zbi rfl (fun h10 => ?_) (fun h10 => ?_)
  ·
   have h10:=beq_iff_eq.1 h10
   refine zas (zyR 1 rfl (zai rfl dc rfl (zaa ze5 rfl dc rfl (show _=1 from rfl) (zaa zgv rfl dc rfl (show _=1 from rfl) ?_))))
   refine zaT (k:=0) (l':=[zI 9,zI 5,zI (uz.f:Int),zI (uz.t:Int),zI s.h.k,.int .i32 (s.h.r:Int),zI (s.h.f:Int),zI (s.h.t:Int),.bool s.h.al]) zeI rfl rfl rfl rfl rfl (fun _ _=>rfl) rfl ?_
   refine zaP (zae ?_)
   exact zeX (.inr rfl) results73 (by simp_all [began,begins,scV] <;> omega)
  have h10:=beq_eq_false_iff_ne.1 h10
  refine zal (zae ?_)
  exact zeX (.inr rfl) results73 (by simp_all [began,begins,scV] <;> omega)
 have h9:=beq_eq_false_iff_ne.1 h9
 refine zas (zaS rfl zaL (zyR 1 rfl (zyN ?_)))
 refine zbi rfl (fun h11 => ?_) (fun h11 => ?_)
 ·
  have h11:=beq_iff_eq.1 h11
  refine zas (zyR 1 rfl (zai rfl dc rfl (zaa ze5 rfl dc rfl (show _=1 from rfl) (zaa zgv rfl dc rfl (show _=1 from rfl) ?_))))
  refine zaT (k:=0) (l':=[zI 9,zI 5,zI (uz.f:Int),zI (uz.t:Int),zI s.h.k,.int .i32 (s.h.r:Int),zI (s.h.f:Int),zI (s.h.t:Int),.bool s.h.al]) zeI rfl rfl rfl rfl rfl (fun _ _=>rfl) rfl ?_
  refine zaP (zae ?_)
  exact zeX (.inr rfl) results73 (by simp_all [began,begins,scV] <;> omega)
 have h11:=beq_eq_false_iff_ne.1 h11
 refine zal (zae ?_)
 exact zeX (.inr rfl) results73 (by simp_all [began,begins,scV] <;> omega)
theorem zza {l:Nat} {zs:List Tk} {I X:List Tk→Asn} {w:World} {C:Nat→Prop} (hy:YC prog l tkA zs I X w C) (b:Nat) (s:Sc) (pre post:List Tk) (hz:zs=pre++zfd s++post) :
  FnW prog 72 [zP b,.func (.yield l) #[] #[]] [cells b (scV s) 167,I pre] (fun x:Option (List Tk×Tk×List Tk)=>.bool x.isNone)
   (fun x=>match x with | none=>[cells b (scV s) 167,I (pre++zfd s)] | some g=>[cells b (scV s) 167,X (pre++g.1++[g.2.1]),fact (zfd s=g.1++g.2.1::g.2.2)]) w C:=by
 refine FnW.intro func72 rfl ntmps72 (by simp) ?_
 refine zyG (zyR 1 rfl (zyN (zaE (zyG (zyR 1 rfl (zai rfl dc rfl (zaa zcd rfl dc rfl (show _=0 from rfl) (zaj (k:=0) zbW rfl dc rfl rfl rfl (zyN ?_)))))))))
 refine zaG (zyG (zaS rfl zaL (zyR 1 rfl (zyN ?_))))
 refine zbi rfl (fun h1 => ?_) (fun h1 => ?_)
 ·
  have h1:=beq_iff_eq.1 h1
  refine zyG (zyR 1 rfl (zyN (zau (zag (zaf ?_)))))
  have hen:zfd s=[]:=by unfold zfd; simp_all
  refine zgc (k:=1) rfl (show I pre=I (pre++zfd s) from (by simp [hen])) ?_
  exact zbt (rs:=[.tmp 4]) (none:Option (List Tk×Tk×List Tk)) (.inl rfl) results72 (.cons (.tmp rfl) .nil) rfl (zab [0,1] kr rfl)
 have h1:=beq_eq_false_iff_ne.1 h1
 refine zaE (zyG (zaS rfl zaL (zyR 1 rfl (zyN ?_))))
 refine zbi rfl (fun h2 => ?_) (fun h2 => ?_)
 ·
  have h2:=beq_iff_eq.1 h2
  refine zal (zay ?_)
  refine zbi rfl (fun h3 => ?_) (fun h3 => ?_)
  ·
   have h3:=beq_iff_eq.1 h3
   refine zaE ?_
   have hen:zfd s=[s.tk,⟨5,s.h.f,s.h.t⟩]:=by unfold zfd; simp_all
   refine zas (zyR 2 rfl (zai rfl dc rfl (zaa ze5 rfl dc rfl (show _=1 from rfl) (zaV (k:=0) (cs:=[zI s.tk.k,zI (s.tk.f:Int),zI (s.tk.t:Int)]) zrl rfl dc rfl rfl rfl rfl ?_))))
   refine zdm hy rfl dc rfl (pre:=pre) (e:=s.tk) (post:=[⟨5,s.h.f,s.h.t⟩]++post) (by rw [hz,hen]; simp) rfl (k:=1) rfl ?_ ?_
   ·
    refine zyR 3 rfl (zai rfl dc rfl (zaa zho rfl dc rfl (show _=4 from rfl) (zaa zeN rfl dc rfl (show _=6 from rfl) (zaV (k:=0) (cs:=[zI (s.h.f:Int),zI (s.h.t:Int)]) zne rfl dc rfl rfl rfl rfl ?_))))
    refine zbA (v:=.agg #[zI 5,zI (s.h.f:Int),zI (s.h.t:Int)]) (ps:=[(0,.const (zI 5)),(1,.tmp 26)]) rfl dc rfl (fun _=>by kernel_rfl) ?_
    refine zdm hy rfl dc rfl (pre:=(pre++[s.tk])) (e:=(⟨5,s.h.f,s.h.t⟩:Tk)) (post:=post) (by rw [hz,hen]; simp) rfl (k:=1) rfl ?_ ?_
    ·
     refine zyR 2 rfl (zyN (zau (zag (zaf (zgc (k:=1) rfl (show I ((pre++[s.tk])++[(⟨5,s.h.f,s.h.t⟩:Tk)])=I (pre++zfd s) from (by simp [hen])) ?_)))))
     exact zbt (rs:=[.tmp 4]) (none:Option (List Tk×Tk×List Tk)) (.inl rfl) results72 (.cons (.tmp rfl) .nil) rfl (zab [0,1] kr rfl)
    refine zyR 2 rfl (zyN (zau (zag (zaf (zgc (k:=1) rfl (show X ((pre++[s.tk])++[(⟨5,s.h.f,s.h.t⟩:Tk)])=X (pre++(([s.tk],(⟨5,s.h.f,s.h.t⟩:Tk),[]):List Tk×Tk×List Tk).1++[(([s.tk],(⟨5,s.h.f,s.h.t⟩:Tk),[]):List Tk×Tk×List Tk).2.1]) from (by simp)) ?_)))))
    exact zk4 (rs:=[.tmp 4]) (As:=[cells b (scV s) 167,X (pre++(([s.tk],(⟨5,s.h.f,s.h.t⟩:Tk),[]):List Tk×Tk×List Tk).1++[(([s.tk],(⟨5,s.h.f,s.h.t⟩:Tk),[]):List Tk×Tk×List Tk).2.1])]) (p:=zfd s=(([s.tk],(⟨5,s.h.f,s.h.t⟩:Tk),[]):List Tk×Tk×List Tk).1++(([s.tk],(⟨5,s.h.f,s.h.t⟩:Tk),[]):List Tk×Tk×List Tk).2.1::(([s.tk],(⟨5,s.h.f,s.h.t⟩:Tk),[]):List Tk×Tk×List Tk).2.2) (some (([s.tk],(⟨5,s.h.f,s.h.t⟩:Tk),[]):List Tk×Tk×List Tk)) (.inl rfl) results72 (.cons (.tmp rfl) .nil) rfl (zab [0,1] kr rfl) (by rw [hen]; rfl)
   refine zyR 11 rfl (zyN (zau ?_))
   refine zag (zaf (zgc (k:=1) rfl (show X (pre++[s.tk])=X (pre++(([],s.tk,[(⟨5,s.h.f,s.h.t⟩:Tk)]):List Tk×Tk×List Tk).1++[(([],s.tk,[(⟨5,s.h.f,s.h.t⟩:Tk)]):List Tk×Tk×List Tk).2.1]) from (by simp)) ?_))
   exact zk4 (rs:=[.tmp 4]) (As:=[cells b (scV s) 167,X (pre++(([],s.tk,[(⟨5,s.h.f,s.h.t⟩:Tk)]):List Tk×Tk×List Tk).1++[(([],s.tk,[(⟨5,s.h.f,s.h.t⟩:Tk)]):List Tk×Tk×List Tk).2.1])]) (p:=zfd s=(([],s.tk,[(⟨5,s.h.f,s.h.t⟩:Tk)]):List Tk×Tk×List Tk).1++(([],s.tk,[(⟨5,s.h.f,s.h.t⟩:Tk)]):List Tk×Tk×List Tk).2.1::(([],s.tk,[(⟨5,s.h.f,s.h.t⟩:Tk)]):List Tk×Tk×List Tk).2.2) (some (([],s.tk,[(⟨5,s.h.f,s.h.t⟩:Tk)]):List Tk×Tk×List Tk)) (.inl rfl) results72 (.cons (.tmp rfl) .nil) rfl (zab [0,1] kr rfl) (by rw [hen]; rfl)
  have h3:=beq_eq_false_iff_ne.1 h3
  refine zal (zae (zay (zaE ?_)))
  have hen:zfd s=[s.tk]:=by unfold zfd; simp_all
  refine zas (zyR 2 rfl (zai rfl dc rfl (zaa ze5 rfl dc rfl (show _=1 from rfl) (zaV (k:=0) (cs:=[zI s.tk.k,zI (s.tk.f:Int),zI (s.tk.t:Int)]) zrl rfl dc rfl rfl rfl rfl ?_))))
  refine zdm hy rfl dc rfl (pre:=pre) (e:=s.tk) (post:=post) (by rw [hz,hen]; simp) rfl (k:=1) rfl ?_ ?_
  ·
   refine zyR 1 rfl (zyN (zau (zgc (k:=1) rfl (show I (pre++[s.tk])=I (pre++zfd s) from (by simp [hen])) ?_)))
   exact zbt (rs:=[.tmp 4]) (none:Option (List Tk×Tk×List Tk)) (.inl rfl) results72 (.cons (.tmp rfl) .nil) rfl (zab [0,1] kr rfl)
  refine zyR 1 rfl (zyN (zau (zgc (k:=1) rfl (show X (pre++[s.tk])=X (pre++(([],s.tk,[]):List Tk×Tk×List Tk).1++[(([],s.tk,[]):List Tk×Tk×List Tk).2.1]) from (by simp)) ?_)))
  exact zk4 (rs:=[.tmp 4]) (As:=[cells b (scV s) 167,X (pre++(([],s.tk,[]):List Tk×Tk×List Tk).1++[(([],s.tk,[]):List Tk×Tk×List Tk).2.1])]) (p:=zfd s=(([],s.tk,[]):List Tk×Tk×List Tk).1++(([],s.tk,[]):List Tk×Tk×List Tk).2.1::(([],s.tk,[]):List Tk×Tk×List Tk).2.2) (some (([],s.tk,[]):List Tk×Tk×List Tk)) (.inl rfl) results72 (.cons (.tmp rfl) .nil) rfl (zab [0,1] kr rfl) (by rw [hen]; rfl)
 have h2:=beq_eq_false_iff_ne.1 h2
 refine zas (zaS rfl zaL (zyR 1 rfl (zyN ?_)))
 refine zbi rfl (fun h4 => ?_) (fun h4 => ?_)
 ·
  have h4:=beq_iff_eq.1 h4
  refine zaE ?_
  have hen:zfd s=[s.tk,⟨5,s.h.f,s.h.t⟩]:=by unfold zfd; simp_all
  refine zas (zyR 2 rfl (zai rfl dc rfl (zaa ze5 rfl dc rfl (show _=1 from rfl) (zaV (k:=0) (cs:=[zI s.tk.k,zI (s.tk.f:Int),zI (s.tk.t:Int)]) zrl rfl dc rfl rfl rfl rfl ?_))))
  refine zdm hy rfl dc rfl (pre:=pre) (e:=s.tk) (post:=[⟨5,s.h.f,s.h.t⟩]++post) (by rw [hz,hen]; simp) rfl (k:=1) rfl ?_ ?_
  ·
   refine zyR 3 rfl (zai rfl dc rfl (zaa zho rfl dc rfl (show _=4 from rfl) (zaa zeN rfl dc rfl (show _=6 from rfl) (zaV (k:=0) (cs:=[zI (s.h.f:Int),zI (s.h.t:Int)]) zne rfl dc rfl rfl rfl rfl ?_))))
   refine zbA (v:=.agg #[zI 5,zI (s.h.f:Int),zI (s.h.t:Int)]) (ps:=[(0,.const (zI 5)),(1,.tmp 26)]) rfl dc rfl (fun _=>by kernel_rfl) ?_
   refine zdm hy rfl dc rfl (pre:=(pre++[s.tk])) (e:=(⟨5,s.h.f,s.h.t⟩:Tk)) (post:=post) (by rw [hz,hen]; simp) rfl (k:=1) rfl ?_ ?_
   ·
    refine zyR 2 rfl (zyN (zau (zag (zaf (zgc (k:=1) rfl (show I ((pre++[s.tk])++[(⟨5,s.h.f,s.h.t⟩:Tk)])=I (pre++zfd s) from (by simp [hen])) ?_)))))
    exact zbt (rs:=[.tmp 4]) (none:Option (List Tk×Tk×List Tk)) (.inl rfl) results72 (.cons (.tmp rfl) .nil) rfl (zab [0,1] kr rfl)
   refine zyR 2 rfl (zyN (zau (zag (zaf (zgc (k:=1) rfl (show X ((pre++[s.tk])++[(⟨5,s.h.f,s.h.t⟩:Tk)])=X (pre++(([s.tk],(⟨5,s.h.f,s.h.t⟩:Tk),[]):List Tk×Tk×List Tk).1++[(([s.tk],(⟨5,s.h.f,s.h.t⟩:Tk),[]):List Tk×Tk×List Tk).2.1]) from (by simp)) ?_)))))
   exact zk4 (rs:=[.tmp 4]) (As:=[cells b (scV s) 167,X (pre++(([s.tk],(⟨5,s.h.f,s.h.t⟩:Tk),[]):List Tk×Tk×List Tk).1++[(([s.tk],(⟨5,s.h.f,s.h.t⟩:Tk),[]):List Tk×Tk×List Tk).2.1])]) (p:=zfd s=(([s.tk],(⟨5,s.h.f,s.h.t⟩:Tk),[]):List Tk×Tk×List Tk).1++(([s.tk],(⟨5,s.h.f,s.h.t⟩:Tk),[]):List Tk×Tk×List Tk).2.1::(([s.tk],(⟨5,s.h.f,s.h.t⟩:Tk),[]):List Tk×Tk×List Tk).2.2) (some (([s.tk],(⟨5,s.h.f,s.h.t⟩:Tk),[]):List Tk×Tk×List Tk)) (.inl rfl) results72 (.cons (.tmp rfl) .nil) rfl (zab [0,1] kr rfl) (by rw [hen]; rfl)
  refine zyR 11 rfl (zyN (zau ?_))
  refine zag (zaf (zgc (k:=1) rfl (show X (pre++[s.tk])=X (pre++(([],s.tk,[(⟨5,s.h.f,s.h.t⟩:Tk)]):List Tk×Tk×List Tk).1++[(([],s.tk,[(⟨5,s.h.f,s.h.t⟩:Tk)]):List Tk×Tk×List Tk).2.1]) from (by simp)) ?_))
  exact zk4 (rs:=[.tmp 4]) (As:=[cells b (scV s) 167,X (pre++(([],s.tk,[(⟨5,s.h.f,s.h.t⟩:Tk)]):List Tk×Tk×List Tk).1++[(([],s.tk,[(⟨5,s.h.f,s.h.t⟩:Tk)]):List Tk×Tk×List Tk).2.1])]) (p:=zfd s=(([],s.tk,[(⟨5,s.h.f,s.h.t⟩:Tk)]):List Tk×Tk×List Tk).1++(([],s.tk,[(⟨5,s.h.f,s.h.t⟩:Tk)]):List Tk×Tk×List Tk).2.1::(([],s.tk,[(⟨5,s.h.f,s.h.t⟩:Tk)]):List Tk×Tk×List Tk).2.2) (some (([],s.tk,[(⟨5,s.h.f,s.h.t⟩:Tk)]):List Tk×Tk×List Tk)) (.inl rfl) results72 (.cons (.tmp rfl) .nil) rfl (zab [0,1] kr rfl) (by rw [hen]; rfl)
 have h4:=beq_eq_false_iff_ne.1 h4
 refine zal (zae (zay (zaE ?_)))
 have hen:zfd s=[s.tk]:=by unfold zfd; simp_all
 refine zas (zyR 2 rfl (zai rfl dc rfl (zaa ze5 rfl dc rfl (show _=1 from rfl) (zaV (k:=0) (cs:=[zI s.tk.k,zI (s.tk.f:Int),zI (s.tk.t:Int)]) zrl rfl dc rfl rfl rfl rfl ?_))))
 refine zdm hy rfl dc rfl (pre:=pre) (e:=s.tk) (post:=post) (by rw [hz,hen]; simp) rfl (k:=1) rfl ?_ ?_
 ·
  refine zyR 1 rfl (zyN (zau (zgc (k:=1) rfl (show I (pre++[s.tk])=I (pre++zfd s) from (by simp [hen])) ?_)))
  exact zbt (rs:=[.tmp 4]) (none:Option (List Tk×Tk×List Tk)) (.inl rfl) results72 (.cons (.tmp rfl) .nil) rfl (zab [0,1] kr rfl)
 refine zyR 1 rfl (zyN (zau (zgc (k:=1) rfl (show X (pre++[s.tk])=X (pre++(([],s.tk,[]):List Tk×Tk×List Tk).1++[(([],s.tk,[]):List Tk×Tk×List Tk).2.1]) from (by simp)) ?_)))
 exact zk4 (rs:=[.tmp 4]) (As:=[cells b (scV s) 167,X (pre++(([],s.tk,[]):List Tk×Tk×List Tk).1++[(([],s.tk,[]):List Tk×Tk×List Tk).2.1])]) (p:=zfd s=(([],s.tk,[]):List Tk×Tk×List Tk).1++(([],s.tk,[]):List Tk×Tk×List Tk).2.1::(([],s.tk,[]):List Tk×Tk×List Tk).2.2) (some (([],s.tk,[]):List Tk×Tk×List Tk)) (.inl rfl) results72 (.cons (.tmp rfl) .nil) rfl (zab [0,1] kr rfl) (by rw [hen]; rfl)
theorem zuF {F:Fence} {P:Program} {w0:World} {K:Nat→Prop} {N:Nat} {dfs:List Deferred} {ops:Array Oper} {Q:Exit→Act→World→Prop} {rest:List Oper} {σ:List (Nat×Value)} {L:List Asn} {k:Nat} {p:Prop}
    (hk:L[k]?=some (Go.Proofs.YtmmhmppcemfdcaaGreatDoor.fact p)) (h:p→TO F P w0 K N dfs ops Q rest σ L):TO F P w0 K N dfs ops Q rest σ L:=fun a w ha hw=>by
  obtain ⟨C1,_,h2,_⟩:=hw.focus' hk
  exact h h2.2 a w ha hw
theorem zqC (s:Sc) (u:Un) (h2:(zlk s.st u).2≠2) (h1:(zlk s.st u).2≠1):zcz s u=s:=by
  have h3:(zlk s.st u).1=s.st:=by
    revert h2 h1
    unfold zlk
    repeat' split
    all_goals simp_all
  unfold zcz
  rw [if_neg h2,h3]
theorem zth (s:zBA) (hs:s.size≤4611686018427387904) (Bs:Nat):Itr prog 69 [zP Bs] tkA (zti (units (pcs s.data.toList))) [(Bs,.cells #[.string s] 9 (0,0))]:=by
 refine Itr.intro func69 rfl ntmps69 (by simp) ?_
 intro l w0 K I X hRo hy
 refine zyG ?_
 refine zdi rfl dc rfl (fun b1 => ?_)
 refine zyH ?_
 refine zbh zym rfl dc (fun b2 => ?_)
 refine zyN (zaE (zyG (zgF (i:=0) hRo zhk rfl dc rfl rfl rfl (zcE (vs:=[.string s]) rfl dc rfl rfl rfl zAo (zuX s) Splits.nil ?_))))
 rintro bp
 refine zyN (zaG ?_)
 refine zgA (α:=Un) (β:=List Tk×Sc) (γ:=List Tk×Tk×List Tk) (δ:=Nat) (ps:=[7]) hRo rfl zAh (zsc s (by omega) bp) (fun pre b=>zha pre=b) (fun pre b=>[cells b1 [.func (.yield l) #[] #[]] 162,cells b2 [zI b.2.st,zI b.2.tk.k,zI (b.2.tk.f:Int),zI (b.2.tk.t:Int),zI b.2.h.k,.int .i32 (b.2.h.r:Int),zI (b.2.h.f:Int),zI (b.2.h.t:Int),.bool b.2.h.al] 167,I b.1]) (fun c pre g=>c=.ret∧zti (units (pcs s.data.toList))=g.1++g.2.1::g.2.2) (fun c pre g=>[X (g.1++[g.2.1])]) (fun pre x b j=>[(2,zP b1),(3,zP b2),(4,zP j)]) (fun pre x b j=>[cells b1 [.func (.yield l) #[] #[]] 162,cells b2 [zI b.2.st,zI b.2.tk.k,zI (b.2.tk.f:Int),zI (b.2.tk.t:Int),zI b.2.h.k,.int .i32 (b.2.h.r:Int),zI (b.2.h.f:Int),zI (b.2.h.t:Int),.bool b.2.h.al] 167,I b.1,cells j (unC x) 165]) ([],sc0) rfl (zab [1,2,0] kr rfl) ⟨.inl ⟨3,rfl⟩,trivial⟩ (fun _=>rfl) dc ?_ ?_ ?_ ?_
 ·
  rintro lp rc pre x post b w1 K1 hxs hext hro hinv
  refine zas ?_
  refine zbh zvP rfl dc (fun b3 => ?_)
  refine zaZ (k:=3) (vs:=(unC x)) (l':=(unC x)) zim rfl rfl rfl rfl rfl (Nat.le_of_ble_eq_true rfl) rfl rfl ?_
  refine zaP ?_
  exact fun a w ha hw=>⟨b3,(zbf rfl) _ _ _ ha,hw.weaken (zab [0,1,2,3] kr rfl)⟩
 ·
  rintro lp rc pre x post b j w1 K1 hxs hext hro hinv
  obtain ⟨E,sc⟩:=b
  have hinv:zha pre=(E,sc):=hinv
  have hsn:=zsq pre x
  rw [hinv] at hsn
  by_cases h2:(zlk sc.st x).2=2
  ·
   refine zaG ?_
   refine zfL (β:=Unit) (l:=0) (fun _=>False) (fun _=>[(2,zP b1),(3,zP b2),(4,zP j)]) (fun _=>[cells b1 [.func (.yield l) #[] #[]] 162,cells b2 [zI ((zcz sc x).st),zI ((zcz sc x).tk.k),zI ((zcz sc x).tk.f:Int),zI ((zcz sc x).tk.t:Int),zI ((zcz sc x).h.k),.int .i32 ((zcz sc x).h.r:Int),zI ((zcz sc x).h.f:Int),zI ((zcz sc x).h.t:Int),.bool ((zcz sc x).h.al)] 167,I E,cells j (unC x) 165]) rfl ?_ ?_
   ·
    refine zaE (zyG (zaV (k:=3) (cs:=(unC x)) zeQ rfl dc rfl rfl rfl rfl (zcE (vs:=[zP b2,.agg (unC x).toArray]) rfl dc rfl rfl rfl zxG (zqD b2 sc x) (zab [1] kr rfl) ?_)))
    rintro ⟨⟩
    refine zyN (zaG (zyG (zaS rfl (zbZ (congrArg Value.bool (show ((((zlk sc.st x).2):Int)==2)=true from (beq_iff_eq.2 h2))) zaL) (zyR 1 rfl (zyN (zba rfl (zbu (zcZ dc (zaq (zcy (by simp) ?_))))))))))
    refine zaJ ?_
    exact zcN (E,zcz sc x) (by show zha (pre++[x])=_; rw [hsn]; simp only [zlv,zcz]; rw [if_pos h2,if_pos h2]) (zab [0,4,2] kr rfl)
   rintro ⟨⟩ hI
   exact hI.elim
  by_cases h1:(zlk sc.st x).2=1
  ·
   refine zaG ?_
   refine zfL (β:=Unit) (l:=0) (fun _=>True) (fun _=>[(2,zP b1),(3,zP b2),(4,zP j)]) (fun _=>[cells b1 [.func (.yield l) #[] #[]] 162,cells b2 [zI ((zcz sc x).st),zI ((zcz sc x).tk.k),zI ((zcz sc x).tk.f:Int),zI ((zcz sc x).tk.t:Int),zI ((zcz sc x).h.k),.int .i32 ((zcz sc x).h.r:Int),zI ((zcz sc x).h.f:Int),zI ((zcz sc x).h.t:Int),.bool ((zcz sc x).h.al)] 167,I E,cells j (unC x) 165]) rfl ?_ ?_
   ·
    refine zaE (zyG (zaV (k:=3) (cs:=(unC x)) zeQ rfl dc rfl rfl rfl rfl (zcE (vs:=[zP b2,.agg (unC x).toArray]) rfl dc rfl rfl rfl zxG (zqD b2 sc x) (zab [1] kr rfl) ?_)))
    rintro ⟨⟩
    refine zyN (zaG (zyG (zaS rfl (zbZ (congrArg Value.bool (show ((((zlk sc.st x).2):Int)==2)=false from (beq_eq_false_iff_ne.2 h2))) zaL) (zyR 1 rfl (zyN (zaM rfl (zyG (zaS rfl (zbZ (congrArg Value.bool (show ((((zlk sc.st x).2):Int)==1)=true from (beq_iff_eq.2 h1))) zaL) (zyR 1 rfl ?_)))))))))
    refine zyN (zba rfl (zx2 (zpU (zqW ?_))))
    exact zxZ () trivial (zbf rfl) (zab [0,4,2,3] kr rfl)
   rintro ⟨⟩ hI
   refine zaE (zal (zay (zas (zaa zeN rfl dc rfl (show _=2 from rfl) (zaa zdK rfl dc rfl (show _=3 from rfl) (zaj (k:=3) zbW rfl dc rfl rfl rfl (zaa ze5 rfl dc rfl (show _=1 from rfl) (zaa zrJ rfl dc rfl (show _=2 from rfl) (zaa zdK rfl dc rfl (show _=3 from rfl) ?_)))))))))
   refine zaT (k:=1) (l':=[zI ((zcz sc x).st),zI ((zcz sc x).tk.k),zI ((zcz sc x).tk.f:Int),zI (x.t:Int),zI ((zcz sc x).h.k),.int .i32 ((zcz sc x).h.r:Int),zI ((zcz sc x).h.f:Int),zI ((zcz sc x).h.t:Int),.bool ((zcz sc x).h.al)]) zeI rfl rfl rfl rfl rfl (fun _ _=>rfl) rfl ?_
   refine zaP (zuC (by simp) (zae ?_))
   exact zcN (E,⟨(zlk sc.st x).1,⟨sc.tk.k,sc.tk.f,x.t⟩,(zcz sc x).h⟩) (by show zha (pre++[x])=_; rw [hsn]; simp only [zlv,zcz]; rw [if_neg h2,if_pos h1,if_neg h2]) (zab [0,1,2] kr rfl)
  refine zaG ?_
  refine zfL (β:=Unit) (l:=0) (fun _=>False) (fun _=>[(2,zP b1),(3,zP b2),(4,zP j)]) (fun _=>[cells b1 [.func (.yield l) #[] #[]] 162,cells b2 [zI ((zcz sc x).st),zI ((zcz sc x).tk.k),zI ((zcz sc x).tk.f:Int),zI ((zcz sc x).tk.t:Int),zI ((zcz sc x).h.k),.int .i32 ((zcz sc x).h.r:Int),zI ((zcz sc x).h.f:Int),zI ((zcz sc x).h.t:Int),.bool ((zcz sc x).h.al)] 167,I E,cells j (unC x) 165]) rfl ?_ ?_
  ·
   refine zaE (zyG (zaV (k:=3) (cs:=(unC x)) zeQ rfl dc rfl rfl rfl rfl (zcE (vs:=[zP b2,.agg (unC x).toArray]) rfl dc rfl rfl rfl zxG (zqD b2 sc x) (zab [1] kr rfl) ?_)))
   rintro ⟨⟩
   refine zyN (zaG (zyG (zaS rfl (zbZ (congrArg Value.bool (show ((((zlk sc.st x).2):Int)==2)=false from (beq_eq_false_iff_ne.2 h2))) zaL) (zyR 1 rfl (zyN (zaM rfl (zyG (zaS rfl (zbZ (congrArg Value.bool (show ((((zlk sc.st x).2):Int)==1)=false from (beq_eq_false_iff_ne.2 h1))) zaL) (zyR 1 rfl ?_)))))))))
   refine zyN (zaM rfl (zal (zae (zay (zaE (zyG (zaj (k:=0) zwg rfl dc rfl rfl rfl ?_)))))))
   refine zx1 (k:=4) rfl (show cells b2 [zI ((zcz sc x).st),zI ((zcz sc x).tk.k),zI ((zcz sc x).tk.f:Int),zI ((zcz sc x).tk.t:Int),zI ((zcz sc x).h.k),.int .i32 ((zcz sc x).h.r:Int),zI ((zcz sc x).h.f:Int),zI ((zcz sc x).h.t:Int),.bool ((zcz sc x).h.al)] 167=cells b2 [zI sc.st,zI sc.tk.k,zI (sc.tk.f:Int),zI (sc.tk.t:Int),zI sc.h.k,.int .i32 (sc.h.r:Int),zI (sc.h.f:Int),zI (sc.h.t:Int),.bool sc.h.al] 167 from (congrArg (fun z=>cells b2 (scV z) 167) (zqC sc x h2 h1))) ?_
   obtain ⟨q,hq⟩:=zw1 pre post x (by rw [hinv]; exact ⟨h2,h1⟩)
   rw [hinv,← hxs] at hq
   refine zrX (vs:=[zP b2,.func (.yield l) #[] #[]]) rfl dc rfl rfl rfl zze (fun w C hx=>zza (hy.later (hext.trans hx)) b2 sc E q hq) (zab [4,2] kr rfl) ?_
   rintro (_ | g)
   ·
    refine zdt rfl dc rfl zct (zyN (zaM rfl (zal (zay (zyG (zaV (k:=3) (cs:=(unC x)) zeQ rfl dc rfl rfl rfl rfl (zcE (vs:=[zP b2,.agg (unC x).toArray]) rfl dc rfl rfl rfl zAn (zvG b2 sc x) (zab [5] kr rfl) ?_)))))))
    rintro ⟨⟩
    refine zyN (zaE (zbu (zaq (zcy (by simp) (zaJ ?_)))))
    exact zcN (E++zfd sc,began sc x) (by show zha (pre++[x])=_; rw [hsn,zmt (E,sc) x h2 h1]) (zab [0,7,6] kr rfl)
   refine zuF (k:=7) rfl (fun hg => ?_)
   refine zdt rfl dc rfl zct (zyN (zba rfl (zau (zaf (zcy (by simp) (zag ?_))))))
   exact zdx (E++g.1,g.2.1,g.2.2++q) ⟨rfl,by rw [hq,hg]; simp⟩ (zab [6] kr rfl)
  rintro ⟨⟩ hI
  exact hI.elim
 ·
  rintro d b hinv
  obtain ⟨E,sc⟩:=b
  have hinv:zha (units (pcs s.data.toList))=(E,sc):=hinv
  refine zae (zay (zas (zaj (k:=4) zwg rfl dc rfl rfl rfl ?_)))
  have hq:zti (units (pcs s.data.toList))=E++zfd sc++[]:=by rw [List.append_nil]; unfold zti; rw [hinv]
  refine zrX (vs:=[zP b2,.func (.yield l) #[] #[]]) rfl dc rfl rfl rfl zze (fun w C hx=>zza (hy.later hx) b2 sc E [] hq) (zab [5,6] kr rfl) ?_
  rintro (_ | g)
  ·
   refine zaP ?_
   have he:I (zti (units (pcs s.data.toList)))=I (E++zfd sc):=by rw [hq,List.append_nil]
   exact zhA (ds:=[d]) (.inr rfl) (zab [7] kr rfl) results69 he (zab [9] kr rfl)
  refine zuF (k:=10) rfl (fun hg => ?_)
  refine zaP ?_
  exact zhg (ds:=[d]) (E++g.1) g.2.1 g.2.2 (by rw [hq,hg]; simp) (.inr rfl) (zab [7] kr rfl) results69 (zab [9] kr rfl)
 rintro d c pre x post g hxs hX
 obtain ⟨E,n,q⟩:=g
 obtain ⟨rfl,hq⟩:=hX
 refine zau (zag (zaf ?_))
 exact zhg (ds:=[d]) E n q hq (.inl rfl) (zab [5] kr rfl) results69 (zab [4] kr rfl)
theorem zw0 (s:zBA):Fn prog 46 [.string s] [] (fun b:Nat=>.func (.func 69) #[] #[zP b]) (fun b=>[cells b [.string s] 9]):=by
 refine Fn.intro func46 rfl ntmps46 (by simp) ?_
 intro w0 K
 refine zyG ?_
 refine zdi rfl dc rfl (fun b1 => ?_)
 refine zyR 1 rfl (zyH (zfU (x1:=[]) (x2:=[.tmp 1]) rfl dc rfl rfl (zyR 1 rfl (zyN (zau ?_)))))
 exact zbt (rs:=[.tmp 2]) b1 (.inl rfl) results46 (.cons (.tmp rfl) .nil) rfl (zab [0] kr rfl)
def wds (l:List Tk):List (Nat×Nat):=l.filterMap fun t=>if t.k=1 then some (t.f,t.t) else none
def spV (p:Nat×Nat):List Value:=[zI (p.1:Int),zI (p.2:Int)]
def spA (p:Nat×Nat):List Value:=[.agg (spV p).toArray]
theorem zr9 (s:zBA) (hs:s.size≤4611686018427387904) (Bs:Nat):Itr prog 45 [zP Bs] spA (wds (zti (units (pcs s.data.toList)))) [(Bs,.cells #[.string s] 9 (0,0))]:=by
 refine Itr.intro func45 rfl ntmps45 (by simp) ?_
 intro l w0 K I X hRo hy
 refine zyG ?_
 refine zdi rfl dc rfl (fun b1 => ?_)
 refine zyH (zgF (i:=0) hRo zhk rfl dc rfl rfl rfl (zcE (vs:=[.string s]) rfl dc rfl rfl rfl zAA (zw0 s) Splits.nil ?_))
 rintro bp
 refine zyN (zaG ?_)
 refine zgA (α:=Tk) (β:=Unit) (γ:=List (Nat×Nat)×(Nat×Nat)×List (Nat×Nat)) (δ:=Nat) (ps:=[6]) hRo rfl zAp (zth s (by omega) bp) (fun pre b=>True) (fun pre b=>[cells b1 [.func (.yield l) #[] #[]] 113,I (wds pre)]) (fun c pre g=>c=.ret∧wds (zti (units (pcs s.data.toList)))=g.1++g.2.1::g.2.2) (fun c pre g=>[X (g.1++[g.2.1])]) (fun pre x b j=>[(2,zP b1),(3,zP j)]) (fun pre x b j=>[cells b1 [.func (.yield l) #[] #[]] 113,I (wds pre),cells j [zI x.k,zI (x.f:Int),zI (x.t:Int)] 118]) () trivial (zab [1,0] kr rfl) ⟨.inl ⟨2,rfl⟩,trivial⟩ (fun _=>rfl) dc ?_ ?_ ?_ ?_
 ·
  rintro lp rc pre x post b w1 K1 hxs hext hro hinv
  refine zas ?_
  refine zbh zyu rfl dc (fun b2 => ?_)
  refine zaZ (k:=2) (vs:=[zI x.k,zI (x.f:Int),zI (x.t:Int)]) (l':=[zI x.k,zI (x.f:Int),zI (x.t:Int)]) zwc rfl rfl rfl rfl rfl (Nat.le_of_ble_eq_true rfl) rfl rfl ?_
  refine zaP ?_
  exact fun a w ha hw=>⟨b2,(zbf rfl) _ _ _ ha,hw.weaken (zab [0,1,2] kr rfl)⟩
 ·
  rintro lp rc pre x post b j w1 K1 hxs hext hro hinv
  by_cases hk:x.k=1
  ·
   refine zaG (zyG (zaa zgv rfl dc rfl (show _=0 from rfl) (zaj (k:=2) zbW rfl dc rfl rfl rfl (zaS rfl (zbZ (congrArg Value.bool (show ((x.k:Int)==1)=true from (beq_iff_eq.2 hk))) zaL) (zyR 1 rfl (zaj (k:=0) zyW rfl dc rfl rfl rfl (zaa zrJ rfl dc rfl (show _=1 from rfl) (zaV (k:=2) (cs:=[zI (x.f:Int),zI (x.t:Int)]) zne rfl dc rfl rfl rfl rfl ?_))))))))
   have hq:wds (zti (units (pcs s.data.toList)))=wds pre++(x.f,x.t)::wds post:=by rw [hxs]; simp [wds,hk]
   refine zdm (hy.later hext) rfl dc rfl hq rfl (k:=1) rfl ?_ ?_
   ·
    refine zdt rfl dc rfl zct (zyR 1 rfl (zyN (zaM rfl (zal (zae (zgc (k:=1) rfl (show I (wds pre++[(x.f,x.t)])=I (wds (pre++[x])) from (by simp [wds,hk])) ?_))))))
    exact zcN () trivial (zab [0,1] kr rfl)
   refine zdt rfl dc rfl zct (zyR 1 rfl (zyN (zba rfl (zau (zag ?_)))))
   exact zdx (wds pre,(x.f,x.t),wds post) ⟨rfl,hq⟩ (zab [1] kr rfl)
  refine zaG (zyG (zaa zgv rfl dc rfl (show _=0 from rfl) (zaj (k:=2) zbW rfl dc rfl rfl rfl (zaS rfl (zbZ (congrArg Value.bool (show ((x.k:Int)==1)=false from (beq_eq_false_iff_ne.2 hk))) zaL) (zyR 7 rfl (zaP ?_))))))
  refine zay (zaM rfl (zal (zae (zgc (k:=1) rfl (show I (wds pre)=I (wds (pre++[x])) from (by simp [wds,hk])) ?_))))
  exact zcN () trivial (zab [0,1] kr rfl)
 ·
  rintro d b hinv
  refine zae ?_
  exact zhA (ds:=[d]) (.inr rfl) (zab [5] kr rfl) results45 rfl (zab [4] kr rfl)
 rintro d c pre x post g hxs hX
 obtain ⟨E,n,q⟩:=g
 obtain ⟨rfl,hq⟩:=hX
 refine zau (zag ?_)
 exact zhg (ds:=[d]) E n q hq (.inl rfl) (zab [4] kr rfl) results45 (zab [3] kr rfl)
theorem zuV (s:zBA):Fn prog 18 [.string s] [] (fun b:Nat=>.func (.func 45) #[] #[zP b]) (fun b=>[cells b [.string s] 9]):=by
 refine Fn.intro func18 rfl ntmps18 (by simp) ?_
 intro w0 K
 refine zyG ?_
 refine zdi rfl dc rfl (fun b1 => ?_)
 refine zyR 1 rfl (zyH (zfU (x1:=[]) (x2:=[.tmp 1]) rfl dc rfl rfl (zyR 1 rfl (zyN (zau ?_)))))
 exact zbt (rs:=[.tmp 2]) b1 (.inl rfl) results18 (.cons (.tmp rfl) .nil) rfl (zab [0] kr rfl)
def zBb (s:zBA):List (Nat×Nat):=wds (zti (units (pcs s.data.toList)))
abbrev zLit3:zBA:=⟨#[68,111,110,39,116,32,103,111,44,32,109,111,116,104,101,114,45,105,110,45,108,97,119]⟩
def zdP (x1:Nat×Nat) (ag1:Int→Option Bool) (words4:Int):Option Bool := grd (I64 (words4+1)) <| ag1 (words4+1)
def zeO  : Option Bool := zbE (fun (j1:Int→Int→Int→Int→Int→Bool→Int→Int→Option Bool) => zan (zhT (⟨#[97,195,169,255]⟩:zBA)) fun (r1:(Int×Int)) => zan (zkC (⟨#[97,195,169,255]⟩:zBA) 1) fun (r2:(zaX×Int)) => grd (zLit3.size≤4611686018427387904) <| zbE (fun (dn1:Int→Option Bool) => zcQ dn1 (zdP) (zBb zLit3) 0
) (fun (words4:Int) => j1 r1.1 r1.2 r2.1.At r2.1.Width r2.1.Rune r2.1.Broken r2.2 words4
)
) (fun (n1:Int) (b1:Int) (p1:Int) (p2:Int) (p3:Int) (p4:Bool) (e1:Int) (words1:Int) => zaB ((n1:Int)==3) ( zaB ((b1:Int)==1) ( zaB ((e1:Int)==0) ( zaB (zfp (⟨p1,p2,p3,p4⟩:zaX) (⟨1,2,233,false⟩:zaX)) ( zaB ((words1:Int)==3) ( zan (zjy (⟨#[83,116,114,97,195,159,101]⟩:zBA)) fun (r3:zBA) => zaB (decide (r3=(⟨#[115,116,114,97,115,115,101]⟩:zBA))) ( zan (zhf (⟨#[101,204,129,120]⟩:zBA)) fun (r4:Int) => some ((r4:Int)==2)
) ( some false
)
) ( some false
)
) ( some false
)
) ( some false
)
) ( some false
)
) ( some false
)
)
theorem zjd  {r:Bool} (h:zeO=some r):FnP prog 4 [] (.bool r):=by
 unfold zeO at h
 refine FnP.intro func4 rfl ntmps4 (by simp) ?_
 intro w0 K
 refine zgz ?_
 obtain ⟨j1,hj1,h⟩:=zbT h
 refine za8 (β:=Int×Int×Int×Int×Int×Bool×Int×Int×Nat×Nat×(List Nat)) 4 rfl (fun b=>j1 b.1 b.2.1 b.2.2.1 b.2.2.2.1 b.2.2.2.2.1 b.2.2.2.2.2.1 b.2.2.2.2.2.2.1 b.2.2.2.2.2.2.2.1=some r) (fun b=>zec b.2.2.2.2.2.2.2.2.2.2) (fun b=>[(1,zI b.1),(2,zI b.2.1),(3,zP b.2.2.2.2.2.2.2.2.1),(4,zI b.2.2.2.2.2.2.1),(5,zP b.2.2.2.2.2.2.2.2.2.1)]) (fun b=>[cells b.2.2.2.2.2.2.2.2.1 [zI b.2.2.1,zI b.2.2.2.1,.int .i32 b.2.2.2.2.1,.bool b.2.2.2.2.2.1] 60,cells b.2.2.2.2.2.2.2.2.2.1 [zI b.2.2.2.2.2.2.2.1] 3,zhG ((b.2.2.2.2.2.2.2.2.2.2:List Nat).map zib)]) (fun cut => ?_) ?_
 ·
  refine zyG (zyR 1 rfl (zyH ?_))
  obtain ⟨r1,hq1,h⟩:=zbL h
  refine zbg (v:=.tuple #[zI r1.1,zI r1.2]) (vs:=[.string (⟨#[97,195,169,255]⟩:zBA)]) rfl dc rfl rfl rfl zAT (zng hq1) (zyR 1 rfl (zaN rfl dc rfl rfl (zaN rfl dc rfl rfl (zyR 2 rfl (zyH ?_)))))
  obtain ⟨r2,hq2,h⟩:=zbL h
  refine zbg (v:=.tuple #[.agg (zr2 r2.1).toArray,zI r2.2]) (vs:=[.string (⟨#[97,195,169,255]⟩:zBA),zI 1]) rfl dc rfl rfl rfl zAS (zqg hq2) (zyR 1 rfl (zaN rfl dc rfl rfl (zaN rfl dc rfl rfl ?_)))
  refine zbh zlt rfl dc (fun b4 => ?_)
  refine zaZ (k:=1) (vs:=(zr2 r2.1)) (l':=(zr2 r2.1)) zhE rfl rfl rfl rfl rfl (show _≤_ by simp) rfl rfl ?_
  refine zyR 1 rfl (zyH ?_)
  refine zbh zyk rfl dc (fun b5 => ?_)
  refine zaT (k:=2) (l':=[zI 0]) zeI rfl rfl rfl rfl rfl (fun _ _=>rfl) rfl ?_
  refine zyN (cut (zyG (zcE (vs:=[.string zLit3]) rfl dc rfl rfl rfl zAR (zuV zLit3) Splits.nil ?_)))
  rintro b6
  refine zyN (zaG ?_)
  obtain ⟨hg1,h⟩:=zbQ h
  obtain ⟨dn1,hdn1,h⟩:=zbT h
  refine zgA (α:=Nat×Nat) (β:=Int) (γ:=Unit) (δ:=Unit) (ps:=[15]) Ro.nil rfl zAB (zr9 zLit3 hg1 b6) (fun pre b=>∀ post,zBb zLit3=pre++post→zcQ dn1 (zdP) post b=some r) (fun pre b=>[cells b4 (zr2 r2.1) 60,cells b5 [zI b] 3]) (fun c pre g=>False) (fun c pre g=>[]) (fun pre x b j=>[(0,.bool false),(1,zI r1.1),(2,zI r1.2),(3,zP b4),(4,zI r2.2),(5,zP b5),(14,.func (.func 45) #[] #[zP b6])]) (fun pre x b j=>[cells b4 (zr2 r2.1) 60,cells b5 [zI b] 3]) 0 (fun post e=>by rw [List.nil_append] at e; subst e; exact h) (zab [1,2] kr rfl) ⟨.inl ⟨3,rfl⟩,trivial⟩ (fun _=>rfl) dc ?_ ?_ ?_ ?_
  ·
   rintro lp rc pre x1 post words4 w1 K1 hxs1 hext hro hinv
   refine zal ?_
   exact fun a w ha hw=>⟨(),(zbf rfl) _ _ _ ha,hw.weaken (zab [0,1] kr rfl)⟩
  ·
   rintro lp rc pre x1 post1 words4 _ w1 K1 hxs1 hext hro hinv
   have h:=hinv (x1::post1) hxs1
   obtain ⟨ag1,hag1⟩:∃ ag,ag=zcQ dn1 (zdP) post1:=⟨_,rfl⟩
   have h:zdP x1 ag1 words4=some r:=by rw [hag1]; exact h
   unfold zdP at h
   refine zaG (zas (zaj (k:=1) zbW rfl dc rfl rfl rfl ?_))
   obtain ⟨hg2,h⟩:=zbQ h
   refine zaS rfl (zbb (r:=words4+1) (IntWalk.i64_in _ hg2)) ?_
   refine zaT (k:=1) (l':=[zI (words4+1)]) zeI rfl rfl rfl rfl rfl (fun _ _=>rfl) rfl ?_
   refine zaP (zae ?_)
   exact zcN (words4+1) (fun post2 e2=>by have e9:=zds hxs1 e2; subst e9; subst hag1; exact h) (zab [0,1] kr rfl)
  ·
   rintro dm1 words4 hinv
   have h:dn1 words4=some r:=hinv [] (List.append_nil _).symm
   rw [hdn1] at h
   refine zew (k:=6) (j:=0) rfl rfl dc ?_
   refine zae ?_
   exact zak (r1.1,r1.2,r2.1.At,r2.1.Width,r2.1.Rune,r2.1.Broken,r2.2,words4,b4,b5,dm1::([]:List Nat)) h rfl (zbf rfl) (zab [4,5,0] kr rfl)
  rintro dm1 c pre x1 post g hxs hX
  exact (show False from hX).elim
 rintro ⟨n1,b1,p1,p2,p3,p4,e1,words1,b2,b3,ds1⟩ h
 rw [hj1] at h
 refine zyG (zyR 1 rfl (zaS rfl zaL (zyR 1 rfl ?_)))
 refine zyS (s:=20) rfl h (fun h => ?_) (fun h => ?_)
 ·
  refine zyR 1 rfl (zaS rfl zaL (zyR 2 rfl ?_))
  refine zyS (s:=24) rfl h (fun h => ?_) (fun h => ?_)
  ·
   refine zyR 1 rfl (zaS rfl zaL (zyR 2 rfl ?_))
   refine zyS (s:=28) rfl h (fun h => ?_) (fun h => ?_)
   ·
    refine zaV (k:=0) (cs:=[zI p1,zI p2,.int .i32 p3,.bool p4]) zfN rfl dc rfl rfl rfl rfl ?_
    refine zbA (v:=.agg #[zI 1,zI 2,.int .i32 233,.bool false]) (ps:=[(0,.const (zI 1)),(1,.const (zI 2)),(2,.const (.int .i32 233))]) rfl dc rfl (fun _=>by kernel_rfl) ?_
    refine zaS rfl (zsL (⟨p1,p2,p3,p4⟩:zaX) (⟨1,2,233,false⟩:zaX)) (zyR 2 rfl ?_)
    refine zyS (s:=33) rfl h (fun h => ?_) (fun h => ?_)
    ·
     refine zaj (k:=1) zbW rfl dc rfl rfl rfl (zaS rfl zaL (zyR 2 rfl ?_))
     refine zyS (s:=37) rfl h (fun h => ?_) (fun h => ?_)
     ·
      obtain ⟨r3,hq3,h⟩:=zbL h
      refine zbg (v:=.string r3) (vs:=[.string (⟨#[83,116,114,97,195,159,101]⟩:zBA)]) rfl dc rfl rfl rfl zAQ (zpr hq3) (zaS rfl zhv (zyR 2 rfl ?_))
      refine zyS (s:=41) rfl h (fun h => ?_) (fun h => ?_)
      ·
       obtain ⟨r4,hq4,h⟩:=zbL h
       refine zbg (v:=zI r4) (vs:=[.string (⟨#[101,204,129,120]⟩:zBA)]) rfl dc rfl rfl rfl zAP (zlF hq4) (zaS rfl zaL (zyR 2 rfl (zyN (zau ?_))))
       cases h
       exact zdh (rs:=[.tmp 0]) ds1 () (.inl rfl) (zbq (k:=2) rfl) results4 (.cons (.tmp rfl) .nil) rfl Splits.nil
      refine zyR 4 rfl (zyN (zau ?_))
      cases h
      exact zdh (rs:=[.tmp 0]) ds1 () (.inl rfl) (zbq (k:=2) rfl) results4 (.cons (.tmp rfl) .nil) rfl Splits.nil
     refine zyR 8 rfl (zyN (zau ?_))
     cases h
     exact zdh (rs:=[.tmp 0]) ds1 () (.inl rfl) (zbq (k:=2) rfl) results4 (.cons (.tmp rfl) .nil) rfl Splits.nil
    refine zyR 12 rfl (zyN ?_)
    refine zau ?_
    cases h
    exact zdh (rs:=[.tmp 0]) ds1 () (.inl rfl) (zbq (k:=2) rfl) results4 (.cons (.tmp rfl) .nil) rfl Splits.nil
   refine zyR 14 rfl ?_
   refine zyR 3 rfl (zyN (zau ?_))
   cases h
   exact zdh (rs:=[.tmp 0]) ds1 () (.inl rfl) (zbq (k:=2) rfl) results4 (.cons (.tmp rfl) .nil) rfl Splits.nil
  refine zyR 14 rfl ?_
  refine zyR 7 rfl (zyN (zau ?_))
  cases h
  exact zdh (rs:=[.tmp 0]) ds1 () (.inl rfl) (zbq (k:=2) rfl) results4 (.cons (.tmp rfl) .nil) rfl Splits.nil
 refine zyR 14 rfl ?_
 refine zyR 11 rfl (zyN (zau ?_))
 cases h
 exact zdh (rs:=[.tmp 0]) ds1 () (.inl rfl) (zbq (k:=2) rfl) results4 (.cons (.tmp rfl) .nil) rfl Splits.nil
def zck (cuts1:List Int) (j1:(List zBA)→zBA→Option Bool) (ag1:(List zBA)→zBA→Int→Option Bool) (other4:List zBA) (rest4:zBA) (x3:Int):Option Bool := zaB (decide ((x3:Int)<(cuts1.length:Int))) ( zbE (fun (j2:(List zBA)→zBA→Option Bool) => zan (zdf cuts1 x3) fun (q1:Int) => zaB (decide (((max q1 1):Int)<(rest4.size:Int))) ( grd (0≤(0:Int)∧(0:Int)≤(max q1 1)∧(max q1 1:Int)≤(rest4.size:Int)) <| grd (other4.length+1≤2147483648) <| grd (0≤(max q1 1:Int)∧(max q1 1:Int)≤(rest4.size:Int)∧((rest4.size:Int):Int)≤(rest4.size:Int)) <| j2 (other4++[zdR rest4 0 (max q1 1)]) (zdR rest4 (max q1 1) (rest4.size:Int))
) ( j2 other4 rest4
)
) (fun (other5:List zBA) (rest5:zBA) => grd (I64 (x3+1)) <| ag1 other5 rest5 (x3+1)
)
) ( j1 other4 rest4
)
def zdp (p1:zaC) (l1:zaO) (k1:Int) (cuts1:List Int):Option Bool := zan (zeS p1 k1) fun (r1:(zax×Int)) => zan (zg8 r1.1.Text r1.1.Indent l1) fun (r2:((List zBA)×Int×Int)) => zan (zgn r2.1 r1.1.Indent l1) fun (r3:(Int×Int)) => zaB ((r1.2:Int) != 0) ( some false
) ( zaB ((r2.2.2:Int) != 0) ( some false
) ( zaB ((r3.2:Int) != 0) ( some false
) ( zaB ((r3.1:Int) != r2.2.1) ( some false
) ( zan (zeY r2.1 (⟨#[]⟩:zBA)) fun (r4:zBA) => zaB (!decide (r4=r1.1.Text)) ( some false
) ( zbE (fun (j1:(List zBA)→zBA→Option Bool) => za1 (fun _ _ _=>none) (zck cuts1 j1) zcD ([]:List zBA) r1.1.Text 0
) (fun (other1:List zBA) (rest1:zBA) => grd (other1.length+1≤2147483648) <| zan (zgn (other1++[rest1]) r1.1.Indent l1) fun (r5:(Int×Int)) => zaB ((r5.2:Int) != 0) ( some true
) ( some (decide ((r2.2.1:Int)≤r5.1))
)
)
)
)
)
)
)
theorem ziS {bp1:Nat} {p1:zaC} {p1_h0 p1_h1:Hd} {l1:zaO} {k1:Int} {vvcuts1 vcuts1:Value} {Lcuts1:List Int} {kcuts1:Nat} {cuts1:List Int} (hwcuts1:Vw vvcuts1 Lcuts1 1 kcuts1 vcuts1 cuts1) {r:Bool} (h:zdp p1 l1 k1 cuts1=some r):FnR prog 15 [zP bp1,.agg (zr0 l1).toArray,zI k1,vcuts1] [cells bp1 [.string p1.told_title,p1_h0.v,p1_h1.v,.string p1.source] 76,zv7 p1_h0.v p1.told_lines,zv8 p1_h1.v p1.told_stanzas,zeJ (zlp (.i64)) 1 vvcuts1 kcuts1 Lcuts1] [] (fun _:Unit=>(.bool r)) (fun _=>[]):=by
 unfold zdp at h
 refine FnR.intro func15 rfl ntmps15 (by simp) ?_
 intro w0 K hrd
 refine zyG ?_
 refine zdi rfl dc rfl (fun b1 => ?_)
 refine zyR 1 rfl (zyH (zyR 2 rfl ?_))
 obtain ⟨r1,hq1,h⟩:=zbL h
 refine zbK (v:=.tuple #[.agg (zr1 r1.1).toArray,zI r1.2]) (vs:=[zP bp1,zI k1]) hrd rfl dc rfl rfl rfl zAD (zkF (bp1:=bp1) (p1:=p1) (p1_h0:=p1_h0) (p1_h1:=p1_h1) hq1) (.ro 0 rfl (.ro 1 rfl (.ro 2 rfl .nil))) (zyR 1 rfl (zaN rfl dc rfl rfl (zaN rfl dc rfl rfl ?_)))
 refine zbh zoU rfl dc (fun b2 => ?_)
 refine zaZ (k:=1) (vs:=(zr1 r1.1)) (l':=(zr1 r1.1)) zjH rfl rfl rfl rfl rfl (show _≤_ by simp) rfl rfl (zyR 1 rfl (zyH (zaa ziN rfl dc rfl (show _=0 from rfl) (zaj (k:=1) zhk rfl dc rfl rfl rfl (zaa ziM rfl dc rfl (show _=1 from rfl) (zaj (k:=1) zbW rfl dc rfl rfl rfl (zaV (k:=0) (cs:=(zr0 l1)) zjs rfl dc rfl rfl rfl rfl ?_)))))))
 obtain ⟨r2,hq2,h⟩:=zbL h
 refine zcE (vs:=[.string r1.1.Text,zI r1.1.Indent,.agg (zr0 l1).toArray]) rfl dc rfl rfl rfl zAC (zpg (l1:=l1) hq2) Splits.nil ?_
 rintro v1
 refine zbJ (k:=2) rfl (fun hd1 he1 => ?_)
 subst he1
 refine zyR 1 rfl (zaN rfl dc rfl rfl (zaN rfl dc rfl rfl (zaN rfl dc rfl rfl (zyR 3 rfl (zyH (zyR 1 rfl (zaa ziM rfl dc rfl (show _=1 from rfl) (zaj (k:=1) zbW rfl dc rfl rfl rfl ?_))))))))
 refine zaV (k:=0) (cs:=(zr0 l1)) zjs rfl dc rfl rfl rfl rfl ?_
 refine zhx (k:=2) rfl (fun hw1 => ?_)
 obtain ⟨r3,hq3,h⟩:=zbL h
 refine zbK (v:=.tuple #[zI r3.1,zI r3.2]) (vs:=[hd1.v,zI r1.1.Indent,.agg (zr0 l1).toArray]) hrd rfl dc rfl rfl rfl zzp (zli (l1:=l1) hw1 hq3) (.own (As:=[zv2 hd1.v r2.1]) (zab [2] kr rfl) (fun _ _ h=>zhH zey (sepL.one1.1 h)) .nil) ?_
 refine zyR 1 rfl (zaN rfl dc rfl rfl (zaN rfl dc rfl rfl (zyR 2 rfl (zyN (zaE (zaE ?_))))))
 refine zeH (b:=(r1.2:Int) != 0) (fun hb1 => ?_) (fun hb1 => ?_)
 ·
  have h:=zgT hb1 h
  refine zbB 20 [(0,44,zI r1.2),(1,45,.bool true),(2,46,.bool true),(3,47,undef),(4,48,undef),(5,49,.bool true),(6,50,.bool true),(7,51,undef),(8,52,undef),(9,53,.bool true),(10,54,.bool true),(11,55,undef),(12,56,undef),(13,57,undef),(14,58,.bool true),(15,59,.bool true),(16,60,undef),(17,61,undef),(18,62,undef),(19,63,undef)] mixed kr kr dc (by rfl) kr kr (zyP 1 0 rfl (zad ?_ (zyP 18 2 rfl DrawPre.nil))) ?_
  · exact fun D n d c u i=>zb6 rfl dc (zam 0 u d) rfl zbH (zdF (show Value.bool ((r1.2:Int) != 0)=Value.bool true from congrArg Value.bool hb1) (zar 1 u i))
  refine zyR 2 rfl (zyN (zba rfl (zyG (zyR 1 rfl (zyN (zau (zaf ?_)))))))
  cases h
  exact za2 8 results15
 have h:=zgU hb1 h
 refine zeH (b:=(r2.2.2:Int) != 0) (fun hb2 => ?_) (fun hb2 => ?_)
 ·
  have h:=zgT hb2 h
  refine zbB 20 [(0,44,zI r1.2),(1,45,.bool false),(2,46,.bool false),(3,47,zI r2.2.2),(4,48,.bool true),(5,49,.bool true),(6,50,.bool true),(7,51,undef),(8,52,undef),(9,53,.bool true),(10,54,.bool true),(11,55,undef),(12,56,undef),(13,57,undef),(14,58,.bool true),(15,59,.bool true),(16,60,undef),(17,61,undef),(18,62,undef),(19,63,undef)] mixed kr kr dc (by rfl) kr kr (zyP 1 0 rfl (zad ?_ (zyP 2 2 rfl (zad ?_ (zyP 15 5 rfl DrawPre.nil))))) ?_
  · exact fun D n d c u i=>zb6 rfl dc (zam 0 u d) rfl zbH (zdF (show Value.bool ((r1.2:Int) != 0)=Value.bool false from congrArg Value.bool hb1) (zar 1 u i))
  · exact fun D n d c u i=>zb6 (zeV rfl (zam 2 u d)) dc (zam 3 u d) rfl zbH (zdF (show Value.bool ((r2.2.2:Int) != 0)=Value.bool true from congrArg Value.bool hb2) (zar 4 u i))
  refine zyR 2 rfl (zyN (zba rfl (zyG (zyR 1 rfl (zyN (zau (zaf ?_)))))))
  cases h
  exact za2 8 results15
 have h:=zgU hb2 h
 refine zeH (b:=(r3.2:Int) != 0) (fun hb3 => ?_) (fun hb3 => ?_)
 ·
  have h:=zgT hb3 h
  refine zbB 20 [(0,44,zI r1.2),(1,45,.bool false),(2,46,.bool false),(3,47,zI r2.2.2),(4,48,.bool false),(5,49,.bool false),(6,50,.bool false),(7,51,zI r3.2),(8,52,.bool true),(9,53,.bool true),(10,54,.bool true),(11,55,undef),(12,56,undef),(13,57,undef),(14,58,.bool true),(15,59,.bool true),(16,60,undef),(17,61,undef),(18,62,undef),(19,63,undef)] mixed kr kr dc (by rfl) kr kr (zyP 1 0 rfl (zad ?_ (zyP 2 2 rfl (zad ?_ (zyP 3 5 rfl (zad ?_ (zyP 11 9 rfl DrawPre.nil))))))) ?_
  · exact fun D n d c u i=>zb6 rfl dc (zam 0 u d) rfl zbH (zdF (show Value.bool ((r1.2:Int) != 0)=Value.bool false from congrArg Value.bool hb1) (zar 1 u i))
  · exact fun D n d c u i=>zb6 (zeV rfl (zam 2 u d)) dc (zam 3 u d) rfl zbH (zdF (show Value.bool ((r2.2.2:Int) != 0)=Value.bool false from congrArg Value.bool hb2) (zar 4 u i))
  · exact fun D n d c u i=>zb6 (zeV rfl (zam 6 u d)) dc (zam 7 u d) rfl zbH (zdF (show Value.bool ((r3.2:Int) != 0)=Value.bool true from congrArg Value.bool hb3) (zar 8 u i))
  refine zyR 2 rfl (zyN (zba rfl (zyG (zyR 1 rfl (zyN (zau (zaf ?_)))))))
  cases h
  exact za2 8 results15
 have h:=zgU hb3 h
 refine zeH (b:=(r3.1:Int) != r2.2.1) (fun hb4 => ?_) (fun hb4 => ?_)
 ·
  have h:=zgT hb4 h
  refine zbB 20 [(0,44,zI r1.2),(1,45,.bool false),(2,46,.bool false),(3,47,zI r2.2.2),(4,48,.bool false),(5,49,.bool false),(6,50,.bool false),(7,51,zI r3.2),(8,52,.bool false),(9,53,.bool false),(10,54,.bool false),(11,55,zI r3.1),(12,56,zI r2.2.1),(13,57,.bool true),(14,58,.bool true),(15,59,.bool true),(16,60,undef),(17,61,undef),(18,62,undef),(19,63,undef)] mixed kr kr dc (by rfl) kr kr (zyP 1 0 rfl (zad ?_ (zyP 2 2 rfl (zad ?_ (zyP 3 5 rfl (zad ?_ (zyP 4 9 rfl (zad ?_ (zyP 6 14 rfl DrawPre.nil))))))))) ?_
  · exact fun D n d c u i=>zb6 rfl dc (zam 0 u d) rfl zbH (zdF (show Value.bool ((r1.2:Int) != 0)=Value.bool false from congrArg Value.bool hb1) (zar 1 u i))
  · exact fun D n d c u i=>zb6 (zeV rfl (zam 2 u d)) dc (zam 3 u d) rfl zbH (zdF (show Value.bool ((r2.2.2:Int) != 0)=Value.bool false from congrArg Value.bool hb2) (zar 4 u i))
  · exact fun D n d c u i=>zb6 (zeV rfl (zam 6 u d)) dc (zam 7 u d) rfl zbH (zdF (show Value.bool ((r3.2:Int) != 0)=Value.bool false from congrArg Value.bool hb3) (zar 8 u i))
  · exact fun D n d c u i=>zb6 (zeV rfl (zam 10 u d)) dc (zam 11 u d) (zam 12 u d) zbH (zdF (show Value.bool ((r3.1:Int) != r2.2.1)=Value.bool true from congrArg Value.bool hb4) (zar 13 u i))
  refine zyR 2 rfl (zyN (zba rfl (zyG (zyR 1 rfl (zyN (zau (zaf ?_)))))))
  cases h
  exact za2 8 results15
 have h:=zgU hb4 h
 obtain ⟨r4,hq4,h⟩:=zbL h
 refine zbB 20 [(0,44,zI r1.2),(1,45,.bool false),(2,46,.bool false),(3,47,zI r2.2.2),(4,48,.bool false),(5,49,.bool false),(6,50,.bool false),(7,51,zI r3.2),(8,52,.bool false),(9,53,.bool false),(10,54,.bool false),(11,55,zI r3.1),(12,56,zI r2.2.1),(13,57,.bool false),(14,58,.bool false),(15,59,.bool false),(16,60,hd1.v),(17,61,.string r4),(18,62,zP b2),(19,63,.string r1.1.Text)] mixed kr kr dc (by rfl) kr kr (zyP 1 0 rfl (zad ?_ (zyP 2 2 rfl (zad ?_ (zyP 3 5 rfl (zad ?_ (zyP 4 9 rfl (zad ?_ (zyP 3 14 rfl (zad ?_ (zad ?_ (zad ?_ DrawPre.nil)))))))))))) ?_
 · exact fun D n d c u i=>zb6 rfl dc (zam 0 u d) rfl zbH (zdF (show Value.bool ((r1.2:Int) != 0)=Value.bool false from congrArg Value.bool hb1) (zar 1 u i))
 · exact fun D n d c u i=>zb6 (zeV rfl (zam 2 u d)) dc (zam 3 u d) rfl zbH (zdF (show Value.bool ((r2.2.2:Int) != 0)=Value.bool false from congrArg Value.bool hb2) (zar 4 u i))
 · exact fun D n d c u i=>zb6 (zeV rfl (zam 6 u d)) dc (zam 7 u d) rfl zbH (zdF (show Value.bool ((r3.2:Int) != 0)=Value.bool false from congrArg Value.bool hb3) (zar 8 u i))
 · exact fun D n d c u i=>zb6 (zeV rfl (zam 10 u d)) dc (zam 11 u d) (zam 12 u d) zbH (zdF (show Value.bool ((r3.1:Int) != r2.2.1)=Value.bool false from congrArg Value.bool hb4) (zar 13 u i))
 ·
  intro D hn hd hcl hu hi
  refine zhx (k:=2) rfl (fun hw2 => ?_)
  refine zbK (v:=.string r4) (vs:=[hd1.v,.string (⟨#[]⟩:zBA)]) hrd (zeV rfl (zaI (m:=15) hu rfl (hd 15 dc))) dc rfl (evL.cons (zaI (m:=16) hu rfl (hd 16 dc)) (evL.cons rfl evL.nil)) rfl zzo (zio hw2 hq4) (.own (As:=[zv2 hd1.v r2.1]) (zab [2] kr rfl) (fun _ _ h=>zhH zey (sepL.one1.1 h)) .nil) ?_
  exact zko 17 hu hi rfl
 · exact fun D n d c u i=>zaa ziN (zeV rfl (zam 15 u d)) dc (zbd (by rfl) rfl) (show _=0 from rfl) (zar 18 u i)
 · exact fun D n d c u i=>zaj (k:=1) zhk (zeV rfl (zam 15 u d)) dc (zam 18 u d) rfl rfl (zar 19 u i)
 refine zaS rfl zgW (zyR 1 rfl (zyN ?_))
 refine zyB rfl h (fun h => ?_) (fun h => ?_)
 ·
  refine zyG (zyR 1 rfl (zyN (zau (zaf ?_))))
  cases h
  exact za2 8 results15
 refine zal (zay ?_)
 obtain ⟨j1,hj1,h⟩:=zbT h
 refine za8 (β:=(List zBA)×zBA×Hd) 2 rfl (fun b=>j1 b.1 b.2.1=some r) (fun b=>[]) (fun b=>[(5,zP b1),(9,zP b2),(12,zI r2.2.1),(16,b.2.2.v),(17,.string b.2.1)]) (fun b=>[cells b1 (zr0 l1) 23,cells b2 (zr1 r1.1) 50,zv2 b.2.2.v b.1]) (fun cut => ?_) ?_
 ·
  refine zyG (zyR 1 rfl (zyH (zaa ziN rfl dc rfl (show _=0 from rfl) (zaj (k:=1) zhk rfl dc rfl rfl rfl (zyR 1 rfl (zyN (cut (zaE ?_))))))))
  refine zas (zyR 1 rfl (zcO hwcuts1 rfl dc rfl underlying24 (zyR 1 rfl (zyN (zaG (zer (enc:=zkv) (e:=9) (size:=1) ?_))))))
  refine zbP (β:=Nat×(List zBA)×zBA×Int×Hd) (fun b=>za1 (fun _ _ _=>none) (zck cuts1 j1) b.1 b.2.1 b.2.2.1 b.2.2.2.1=some r) (fun b=>[]) (fun b=>[(5,zP b1),(9,zP b2),(12,zI r2.2.1),(16,b.2.2.2.2.v),(17,.string b.2.2.1),(68,vcuts1),(69,zI (cuts1.length:Int)),(70,zI b.2.2.2.1)]) (fun b=>[cells b1 (zr0 l1) 23,cells b2 (zr1 r1.1) 50,zv2 b.2.2.2.2.v b.2.1]) (fun b=>b.1) (zcD,([]:List zBA),r1.1.Text,0,Hd.nil) h rfl (zbf rfl) (zab [0,1,3] kr rfl) ?_
  rintro ⟨n1,other4,rest4,x3,hd5⟩ h
  cases n1 with
  | zero=>exact zdO h
  | succ n1 =>
   obtain ⟨ag1,hag1⟩:∃ ag,ag=za1 (fun _ _ _=>none) (zck cuts1 j1) n1:=⟨_,rfl⟩
   have h:zck cuts1 j1 ag1 other4 rest4 x3=some r:=by rw [hag1]; exact h
   unfold zck at h
   refine zyG (zaS rfl zbF (zyN (zaE ?_)))
   refine zyB rfl h (fun h => ?_) (fun h => ?_)
   ·
    refine zal (zay ?_)
    obtain ⟨j2,hj2,h⟩:=zbT h
    refine za8 (β:=(List zBA)×zBA×Hd) 0 rfl (fun b=>j2 b.1 b.2.1=some r) (fun b=>[]) (fun b=>[(5,zP b1),(9,zP b2),(12,zI r2.2.1),(16,b.2.2.v),(17,.string b.2.1),(68,vcuts1),(69,zI (cuts1.length:Int)),(70,zI x3)]) (fun b=>[cells b1 (zr0 l1) 23,cells b2 (zr1 r1.1) 50,zv2 b.2.2.v b.1]) (fun cut => ?_) ?_
    ·
     refine cut (zaG (zyG ?_))
     obtain ⟨q1,hq5,h⟩:=zbL h
     refine zbv hwcuts1 hq5 underlying24 zeI rfl dc rfl rfl rfl (zcW (n:=kcuts1+(x3:Int).toNat) (j:=0) (i:=3) (q:=q1) hrd rfl (by omega) zbW rfl dc rfl (Vw.get hwcuts1 hq5) rfl rfl (zyR 1 rfl (zyH (zyR 1 rfl (zk5 rfl dc rfl rfl (zyR 1 rfl (zyH ?_)))))))
     refine zyR 2 rfl (zbC rfl dc rfl underlying9 (zaS rfl zbF (zyN ?_)))
     refine zyB rfl h (fun h => ?_) (fun h => ?_)
     ·
      obtain ⟨hg1,h⟩:=zbQ h
      obtain ⟨hg2,h⟩:=zbQ h
      obtain ⟨hg3,h⟩:=zbQ h
      refine zgG 1 ?_
      refine let vals1:(Nat×Hd)→List (Nat×Nat×Value):=fun b=>[(0,80,hd5.v),(1,81,.string rest4),(2,82,zI (max q1 1)),(3,83,.string (zdR rest4 0 (max q1 1))),(4,84,.slice (some ⟨b.1,0,none⟩) 1 1),(5,85,b.2.v),(6,86,.string rest4),(7,87,zI (max q1 1)),(8,88,.string (zdR rest4 (max q1 1) (rest4.size:Int))),(9,16,b.2.v)]; let LL1:(Nat→Prop)→(Nat×Hd)→List Asn:=fun D b=>[cells b1 (zr0 l1) 23,cells b2 (zr1 r1.1) 50,eD D (zv2 hd5.v other4) [(5,zv2 b.2.v (other4++[zdR rest4 0 (max q1 1)]))],eD D emp [(4,cells b.1 [.string (zdR rest4 0 (max q1 1))] 9)]]; ?_
      have zhq:zyQ [4,5] LL1:=fun i h D b=>zac rfl (zac rfl (zac (zkr rfl h) (zac (zkr rfl h) rfl)))
      refine zeb (β:=Nat×Hd) 10 ((0:Nat),Hd.nil) vals1 LL1 mixed kr kr dc (fun _=>rfl) (zez (zac zci (zac zci rfl))) (zyq zhq rfl (fun _=>rfl) (fun _=>rfl) ?_ (zm5 zhq (fun _=>rfl) (fun _=>rfl) 2 1 (fun _=>rfl) rfl (zhC zhq rfl (fun _=>rfl) (fun _=>rfl) ?_ (zaF ?_ (zaF ?_ (zm5 zhq (fun _=>rfl) (fun _=>rfl) 2 6 (fun _=>rfl) rfl (zhC zhq rfl (fun _=>rfl) (fun _=>rfl) ?_ (zm5 zhq (fun _=>rfl) (fun _=>rfl) 1 9 (fun _=>rfl) rfl DrawG.nil)))))))) ?_
      · exact fun D ⟨b3,hd7⟩ n d c u i=>zgq rfl dc (zpB (by intro p hp ht hD; simp [vals1] at hp; rcases hp with rfl | rfl | rfl | rfl | rfl | rfl | rfl | rfl | rfl | rfl <;> simp at ht <;> exact n (c 9 _ rfl hD 0 dc)) rfl) (zar 0 u i)
      · exact fun D ⟨b3,hd7⟩ n d c u i=>⟨_,(zez (zac (zah (fun hD=>n (c 4 _ rfl (c 5 _ rfl hD 4 dc) 3 dc)) zat) (zac (zah (fun hD=>n (c 4 _ rfl hD 3 dc)) zat) rfl))),zdA rfl dc (zam 1 u d) zj7 (evO.some (zam 2 u d)) (zcX (i:=0) (j:=max q1 1) underlying9 (.inl ⟨rfl,rfl⟩) (.inr rfl) hg1) (zar 3 u i)⟩
      ·
       intro D b hn hd hcl
       obtain ⟨zb0,hd7⟩:=b
       refine zaY (zez (zac (zah (fun hD=>hn (hcl 5 _ rfl hD 4 dc)) zat) (zac (zah hn zat) rfl))) ?_
       refine zbc (cs:=[.string (zdR rest4 0 (max q1 1))]) (te:=9) (ps:=[(0,.tmp 83)]) rfl dc (evP.cons (zaI (m:=3) rfl rfl (hd 3 dc)) evP.nil) (fun _=>by kernel_rfl) (fun b3 => ?_)
       refine zdg 3 rfl rfl ?_
       exact za4 (b:=(zb0,hd7)) (b3,hd7) 4 (by rfl) (by rfl) rfl (zzQ (zaz (fun hD=>absurd hD hn) (zn7 rfl))) (zez (zac ((zav (by rfl)).trans (zah (fun hD=>hn (hcl 5 _ rfl hD 4 dc)) zat)) (zac (zaW (Or.inr rfl) rfl) rfl)))
      ·
       intro D b hn hd hcl
       obtain ⟨b3,zb1⟩:=b
       refine zaY (zez (zac (zah hn zat) (zac (zaW (hd 4 dc) rfl) rfl))) ?_
       refine zbx (k:=2) (k2:=3) (ys:=[zdR rest4 0 (max q1 1)]) underlying38 zyc zey zkg rfl dc (zaI (m:=0) rfl rfl (hd 0 dc)) (zaI (m:=4) rfl rfl (hd 4 dc)) rfl rfl rfl rfl hg2 (fun v2 => ?_)
       refine zbJ (k:=2) rfl (fun hd7 he2 => ?_)
       subst he2
       exact za4 (b:=(b3,zb1)) (b3,hd7) 5 (by rfl) (by rfl) rfl (zn7 (zaz (fun hD=>absurd hD hn) (zuT (zaz (fun hD=>absurd (hcl 9 _ rfl hD 5 dc) hn) rfl)))) (zez (zac (zaW (Or.inr rfl) rfl) (zac ((zav (by rfl)).trans (zaW (hd 4 dc) rfl)) rfl)))
      · exact fun D ⟨b3,hd7⟩ n d c u i=>⟨_,(zfu rfl),zdA rfl dc (zam 6 u d) (evO.some (zam 7 u d)) zj7 (zcX (i:=max q1 1) (j:=(rest4.size:Int)) underlying9 (.inr rfl) (.inl ⟨rfl,rfl⟩) hg3) (zar 8 u i)⟩
      intro D b hall
      obtain ⟨b3,hd7⟩:=b
      refine zaY (zez (zac (zaW (hall 5 dc) rfl) (zac (zaW (hall 4 dc) rfl) rfl))) (zyR 1 rfl (zaP (zae ?_)))
      exact zak (other4++[zdR rest4 0 (max q1 1)],zdR rest4 (max q1 1) (rest4.size:Int),hd7) h rfl (zbf rfl) (zab [0,1,2] kr rfl)
     refine zal (zae ?_)
     exact zak (other4,rest4,hd5) h rfl (zbf rfl) (zab [0,1,2] kr rfl)
    rintro ⟨other5,rest5,hd6⟩ h
    rw [hj2] at h
    refine zas ?_
    obtain ⟨hg4,h⟩:=zbQ h
    refine zaS rfl (zbb (r:=x3+1) (IntWalk.i64_in _ hg4)) (zyR 1 rfl (zaP ?_))
    subst hag1
    exact zbr (n1,other5,rest5,x3+1,hd6) h (Nat.lt_succ_self _) rfl (zbf rfl) (zab [0,1,2] kr rfl)
   refine zbu (zaq (zaq (zaJ ?_)))
   exact zak (other4,rest4,hd5) h rfl (zbf rfl) (zab [0,1,2] kr rfl)
 rintro ⟨other1,rest1,hd2⟩ h
 rw [hj1] at h
 refine zyG (zyR 2 rfl ?_)
 refine zbc (cs:=[.string rest1]) (te:=9) (ps:=[(0,.tmp 91)]) rfl dc rfl (fun _=>by kernel_rfl) (fun b4 => ?_)
 obtain ⟨hg5,h⟩:=zbQ h
 refine zbx (k:=2) (k2:=3) (ys:=[rest1]) underlying38 zyc zey zkg rfl dc rfl rfl rfl rfl rfl rfl hg5 (fun v3 => ?_)
 refine zbJ (k:=2) rfl (fun hd8 he3 => ?_)
 subst he3
 refine zyR 1 rfl (zyH (zyR 1 rfl (zaa ziM rfl dc rfl (show _=1 from rfl) (zaj (k:=1) zbW rfl dc rfl rfl rfl (zaV (k:=0) (cs:=(zr0 l1)) zjs rfl dc rfl rfl rfl rfl ?_)))))
 refine zhx (k:=2) rfl (fun hw3 => ?_)
 obtain ⟨r5,hq6,h⟩:=zbL h
 refine zbK (v:=.tuple #[zI r5.1,zI r5.2]) (vs:=[hd8.v,zI r1.1.Indent,.agg (zr0 l1).toArray]) hrd rfl dc rfl rfl rfl zzp (zli (l1:=l1) hw3 hq6) (.own (As:=[zv2 hd8.v (other1++[rest1])]) (zab [2] kr rfl) (fun _ _ h=>zhH zey (sepL.one1.1 h)) .nil) ?_
 refine zyR 1 rfl (zaN rfl dc rfl rfl (zaN rfl dc rfl rfl (zyR 2 rfl (zyH (zyR 1 rfl (zaS rfl zbH (zyR 1 rfl ?_)))))))
 refine zyS (s:=104) rfl h (fun h => ?_) (fun h => ?_)
 ·
  refine zyR 5 rfl (zyN (zau ?_))
  cases h
  exact za2 8 results15
 refine zyR 2 rfl (zaS rfl zbG (zyR 2 rfl (zyN (zau ?_))))
 cases h
 exact za2 8 results15
def zeU (b1:zb5) (k1:Int):Option ((List zap)×Int) := zaB (decide ((k1:Int)<0)) ( some (([]:List zap),5)
) ( zaB (decide (((b1.pages.length:Int):Int)≤k1)) ( some (([]:List zap),5)
) ( zan (zdf b1.pages k1) fun (x1:List zap) => zan (zfh x1) fun (r1:(List zap)) => some (r1,0)
)
)
theorem zkH {bb1:Nat} {b1:zb5} {b1_h0:Hd} {k1:Int} {r:((List zap)×Int)} (h:zeU b1 k1=some r):FnR prog 9 [zP bb1,zI k1] [cells bb1 [zI b1.layout_Width,zI b1.layout_Height,zI b1.layout_Turn,zI b1.layout_Every,b1_h0.v,zI b1.cost] 89,zgf zbp zbz 37 1 b1_h0.v b1.pages] [] (fun v0:Value=>.tuple #[v0,zI r.2]) (fun v0=>[zv1 v0 r.1]):=by
 unfold zeU at h
 refine FnR.intro func9 rfl ntmps9 (by simp) ?_
 intro w0 K hrd
 refine zyG (zyR 2 rfl (zyN (zaE (zaG (zyG (zyR 1 rfl (zaS rfl (zcq underlying34) (zyR 1 rfl (zaP ?_)))))))))
 refine zay (zaM rfl (zyG (zyR 1 rfl (zaS rfl zbF (zyR 1 rfl ?_)))))
 refine zyS (s:=12) rfl h (fun h => ?_) (fun h => ?_)
 ·
  refine zyR 9 rfl (zyN (zba rfl (zyG ?_)))
  refine zyR 2 rfl (zyN (zau (zag (zaf (zgE (enc:=zb9) (e:=43) (size:=6) ?_)))))
  cases h
  exact zbt (rs:=[.tmp 4,.tmp 5]) (.slice none 0 0) (.inl rfl) results9 (.cons (.tmp rfl) (.cons (.tmp rfl) .nil)) rfl (zab [0] kr rfl)
 refine zyR 2 rfl (zai rfl dc rfl (zaa zmI rfl dc rfl (show _=4 from rfl) (zbs (i:=0) hrd rfl zu6 rfl dc rfl rfl ?_)))
 obtain ⟨zs1,hz1,hV1,hrd⟩:=hrd.openN (i:=1) rfl zga ziE
 replace hrd:Rd _ _ [cells bb1 [zI b1.layout_Width,zI b1.layout_Height,zI b1.layout_Turn,zI b1.layout_Every,b1_h0.v,zI b1.cost] 89,zgf zbp zbz 37 1 b1_h0.v b1.pages,zeJ zbp 1 b1_h0.v 0 zs1,zhU zeC zs1]:=hrd
 refine zhi hz1 hV1 rfl dc rfl underlying87 (zaS rfl zbG (zyR 2 rfl (zyN ?_)))
 refine zyB rfl h (fun h => ?_) (fun h => ?_)
 ·
  refine zyG (zyR 2 rfl (zyN (zau (zag (zaf (zgE (enc:=zb9) (e:=43) (size:=6) ?_))))))
  cases h
  exact zbt (rs:=[.tmp 4,.tmp 5]) (.slice none 0 0) (.inl rfl) results9 (.cons (.tmp rfl) (.cons (.tmp rfl) .nil)) rfl (zab [0] kr rfl)
 refine zal (zae (zay (zyG (zyR 1 rfl (zai rfl dc rfl (zaa zmI rfl dc rfl (show _=4 from rfl) (zbs (i:=0) hrd rfl zu6 rfl dc rfl rfl (zyR 1 rfl ?_))))))))
 obtain ⟨x1,hq1,h⟩:=zbL h
 obtain ⟨eh1,eq1⟩:=zjk hz1 hq1
 have hrd:Rd _ _ [cells bb1 [zI b1.layout_Width,zI b1.layout_Height,zI b1.layout_Turn,zI b1.layout_Every,b1_h0.v,zI b1.cost] 89,zgf zbp zbz 37 1 b1_h0.v b1.pages,zeJ zbp 1 b1_h0.v 0 zs1,zhU zeC zs1,zrp zb9 6 eh1 x1]:=hrd.openEl (i:=3) (z:=(x1,eh1)) rfl (Vw.get hV1 eq1)
 obtain ⟨vv1,k2,L1,hV2,hrd⟩:=hrd.openSl (i:=4) rfl
 replace hrd:Rd _ _ [cells bb1 [zI b1.layout_Width,zI b1.layout_Height,zI b1.layout_Turn,zI b1.layout_Every,b1_h0.v,zI b1.cost] 89,zgf zbp zbz 37 1 b1_h0.v b1.pages,zeJ zbp 1 b1_h0.v 0 zs1,zhU zeC zs1,zrp zb9 6 eh1 x1,zeJ zb9 6 vv1 k2 L1]:=hrd
 refine zbv hV1 eq1 underlying87 zyI rfl dc rfl rfl rfl (zcW (n:=0+(k1:Int).toNat) (j:=0) (i:=2) (q:=(x1,eh1)) hrd rfl (by omega) zo1 rfl dc rfl (Vw.get hV1 eq1) rfl rfl ?_)
 obtain ⟨r1,hq2,h⟩:=zbL h
 refine zft (vs:=[eh1.v]) hrd rfl dc rfl rfl rfl zAH (zgY hV2 hq2) Splits.nil (.ro 5 rfl .nil) ?_
 rintro v1
 refine zbJ (k:=0) rfl (fun hd1 he1 => ?_)
 subst he1
 refine zyR 2 rfl (zyN (zau ?_))
 cases h
 exact zbt (rs:=[.tmp 4,.tmp 5]) hd1.v (.inl rfl) results9 (.cons (.tmp rfl) (.cons (.tmp rfl) .nil)) rfl (zab [0] kr rfl)
def zfE (a1:zap) (b1:zap) (first1:Bool):Option Bool := zaB (first1) ( zaB ((b1.Line:Int)==0) ( zaB ((b1.Stanza:Int)==0) ( some ((b1.Part:Int)==0)
) ( some false
)
) ( some false
)
) ( zaB ((b1.Line:Int)==a1.Line) ( zaB ((b1.Stanza:Int)==a1.Stanza) ( grd (I64 (a1.Part+1)) <| some ((b1.Part:Int)==(a1.Part+1))
) ( some false
)
) ( grd (I64 (a1.Line+1)) <| zaB ((b1.Line:Int)==(a1.Line+1)) ( zaB ((b1.Part:Int)==0) ( zaB ((b1.Stanza:Int)==a1.Stanza) ( some true
) ( grd (I64 (a1.Stanza+1)) <| some ((b1.Stanza:Int)==(a1.Stanza+1))
)
) ( some false
)
) ( some false
)
)
)
theorem zmp {a1:zap} {b1:zap} {first1:Bool} {r:Bool} (h:zfE a1 b1 first1=some r):FnP prog 33 [.agg (zr4 a1).toArray,.agg (zr4 b1).toArray,.bool first1] (.bool r):=by
 unfold zfE at h
 refine FnP.intro func33 rfl ntmps33 (by simp) ?_
 intro w0 K
 refine zyG ?_
 refine zdi rfl dc rfl (fun b2 => ?_)
 refine zdi rfl dc rfl (fun b3 => ?_)
 refine zyR 1 rfl (zyN (zaE (zaG (zyG (zyR 2 rfl (zyN ?_))))))
 refine zyB rfl h (fun h => ?_) (fun h => ?_)
 ·
  refine zyG (zaa zfB rfl dc rfl (show _=0 from rfl) (zaj (k:=1) zbW rfl dc rfl rfl rfl (zaS rfl zaL (zyR 1 rfl ?_))))
  refine zyS (s:=12) rfl h (fun h => ?_) (fun h => ?_)
  ·
   refine zaa zfA rfl dc rfl (show _=1 from rfl) (zaj (k:=1) zbW rfl dc rfl rfl rfl (zaS rfl zaL (zyR 2 rfl ?_)))
   refine zyS (s:=17) rfl h (fun h => ?_) (fun h => ?_)
   ·
    refine zaa zkN rfl dc rfl (show _=2 from rfl) (zaj (k:=1) zbW rfl dc rfl rfl rfl (zaS rfl zaL (zyR 2 rfl (zyN (zau (zag (zaf ?_)))))))
    cases h
    exact za2 6 results33
   refine zyR 5 rfl (zyN (zau (zag (zaf ?_))))
   cases h
   exact za2 6 results33
  refine zyR 10 rfl (zyN (zau (zag ?_)))
  refine zaf ?_
  cases h
  exact za2 6 results33
 refine zyG (zaa zfB rfl dc rfl (show _=0 from rfl) (zaj (k:=1) zbW rfl dc rfl rfl rfl (zaa zfB rfl dc rfl (show _=0 from rfl) (zaj (k:=0) zbW rfl dc rfl rfl rfl (zaS rfl zaL (zyR 1 rfl (zyN ?_)))))))
 refine zyB rfl h (fun h => ?_) (fun h => ?_)
 ·
  refine zyG (zaa zfA rfl dc rfl (show _=1 from rfl) (zaj (k:=1) zbW rfl dc rfl rfl rfl (zaa zfA rfl dc rfl (show _=1 from rfl) (zaj (k:=0) zbW rfl dc rfl rfl rfl (zaS rfl zaL (zyR 1 rfl ?_))))))
  refine zyS (s:=33) rfl h (fun h => ?_) (fun h => ?_)
  ·
   refine zaa zkN rfl dc rfl (show _=2 from rfl) (zaj (k:=1) zbW rfl dc rfl rfl rfl (zaa zkN rfl dc rfl (show _=2 from rfl) (zaj (k:=0) zbW rfl dc rfl rfl rfl ?_)))
   obtain ⟨hg1,h⟩:=zbQ h
   refine zaS rfl (zbb (r:=a1.Part+1) (IntWalk.i64_in _ hg1)) (zaS rfl zaL (zyR 2 rfl (zyN (zau (zag (zaf ?_))))))
   cases h
   exact za2 6 results33
  refine zyR 8 rfl (zyN (zau (zag (zaf ?_))))
  cases h
  exact za2 6 results33
 refine zal (zae (zay (zyG (zaa zfB rfl dc rfl (show _=0 from rfl) (zaj (k:=1) zbW rfl dc rfl rfl rfl (zaa zfB rfl dc rfl (show _=0 from rfl) (zaj (k:=0) zbW rfl dc rfl rfl rfl ?_)))))))
 obtain ⟨hg2,h⟩:=zbQ h
 refine zaS rfl (zbb (r:=a1.Line+1) (IntWalk.i64_in _ hg2)) (zaS rfl zaL (zyR 1 rfl ?_))
 refine zyS (s:=47) rfl h (fun h => ?_) (fun h => ?_)
 ·
  refine zaa zkN rfl dc rfl (show _=2 from rfl) (zaj (k:=1) zbW rfl dc rfl rfl rfl (zaS rfl zaL (zyR 2 rfl ?_)))
  refine zyS (s:=52) rfl h (fun h => ?_) (fun h => ?_)
  ·
   refine zaa zfA rfl dc rfl (show _=1 from rfl) (zaj (k:=1) zbW rfl dc rfl rfl rfl (zaa zfA rfl dc rfl (show _=1 from rfl) (zaj (k:=0) zbW rfl dc rfl rfl rfl (zaS rfl zaL (zyR 1 rfl ?_)))))
   refine zyS (s:=58) rfl h (fun h => ?_) (fun h => ?_)
   ·
    refine zyR 9 rfl (zyN (zau ?_))
    cases h
    exact za2 6 results33
   refine zaa zfA rfl dc rfl (show _=1 from rfl) (zaj (k:=1) zbW rfl dc rfl rfl rfl (zaa zfA rfl dc rfl (show _=1 from rfl) (zaj (k:=0) zbW rfl dc rfl rfl rfl ?_)))
   obtain ⟨hg3,h⟩:=zbQ h
   refine zaS rfl (zbb (r:=a1.Stanza+1) (IntWalk.i64_in _ hg3)) (zaS rfl zaL (zyR 3 rfl (zyN (zau ?_))))
   cases h
   exact za2 6 results33
  refine zyR 14 rfl ?_
  refine zyR 1 rfl (zyN (zau ?_))
  cases h
  exact za2 6 results33
 refine zyR 14 rfl ?_
 refine zyR 6 rfl (zyN (zau ?_))
 cases h
 exact za2 6 results33
def zcV (rows1:List zap) (j1:(List (List zBA))→Option ((Option zaC)×Int)) (ag1:(List (List zBA))→Int→Int→Int→Int→Int→zBA→Int→Option ((Option zaC)×Int)) (stanzas4:List (List zBA)) (last13:Int) (last14:Int) (last15:Int) (last16:Int) (last17:Int) (last18:zBA) (x3:Int):Option ((Option zaC)×Int) := zaB (decide ((x3:Int)<(rows1.length:Int))) ( zbE (fun (j2:(List (List zBA))→Int→Int→Int→Int→Int→zBA→Option ((Option zaC)×Int)) => zan (zdf rows1 x3) fun (q1:zap) => zaB ((q1.Line:Int)==(-1)) ( j2 stanzas4 last13 last14 last15 last16 last17 last18
) ( zbE (fun (j3:Bool→Bool→Option ((Option zaC)×Int)) => zan (zfE (⟨last13,last14,last15,last16,last17,last18⟩:zap) q1 (((stanzas4.length:Int):Int)==0)) fun (r1:Bool) => zaB (!r1) ( some (none,300)
) ( zaB ((q1.Part:Int)==0) ( zaB (decide ((q1.Indent:Int)<0)) ( some (none,300)
) ( zaB (decide ((1024:Int)<q1.Indent)) ( some (none,300)
) ( zan (zcB q1.Text (⟨#[32]⟩:zBA)) fun (r2:Bool) => zaB (r2) ( some (none,300)
) ( j3 true r2
)
)
)
) ( j3 false false
)
)
) (fun (x4:Bool) (x5:Bool) => zbE (fun (j4:(List (List zBA))→Option ((Option zaC)×Int)) => zaB ((q1.Stanza:Int)==(stanzas4.length:Int)) ( grd (stanzas4.length+1≤2147483648) <| j4 (stanzas4++[([]:List zBA)])
) ( j4 stanzas4
)
) (fun (stanzas6:List (List zBA)) => zan (zdf stanzas6 q1.Stanza) fun (x6:List zBA) => zbE (fun (j5:(List (List zBA))→Option ((Option zaC)×Int)) => zaB ((q1.Part:Int)==0) ( grd (0≤q1.Indent∧q1.Indent≤140737488355328) <| grd ((zcv q1.Indent).size+q1.Text.size≤9223372036854775807) <| grd (x6.length+1≤2147483648) <| j5 (stanzas6.set (q1.Stanza:Int).toNat (x6++[(zcv q1.Indent)++q1.Text]))
) ( grd (I64 ((x6.length:Int) - 1)) <| zan (zdf x6 ((x6.length:Int) - 1)) fun (q2:zBA) => grd (q2.size+q1.Text.size≤9223372036854775807) <| j5 (stanzas6.set ((q1.Stanza:Int).toNat) (x6.set ((x6.length:Int) - 1:Int).toNat (q2++q1.Text)))
)
) (fun (stanzas7:List (List zBA)) => j2 stanzas7 q1.Line q1.Stanza q1.Part q1.Indent q1.Number q1.Text
)
)
)
)
) (fun (stanzas5:List (List zBA)) (last19:Int) (last20:Int) (last21:Int) (last22:Int) (last23:Int) (last24:zBA) => grd (I64 (x3+1)) <| ag1 stanzas5 last19 last20 last21 last22 last23 last24 (x3+1)
)
) ( j1 stanzas4
)
def zg9 (title1:zBA) (rows1:List zap):Option ((Option zaC)×Int) := zbE (fun (j1:(List (List zBA))→Option ((Option zaC)×Int)) => za1 (fun _ _ _ _ _ _ _ _=>none) (zcV rows1 j1) zcD ([]:List (List zBA)) 0 0 0 0 0 ByteArray.empty 0
) (fun (stanzas1:List (List zBA)) => zan (zfO title1 stanzas1) fun (r3:((Option zaC)×Int)) => some (r3.1,r3.2)
)
theorem zph {title1:zBA} {vvrows1 vrows1:Value} {Lrows1:List zap} {krows1:Nat} {rows1:List zap} (hwrows1:Vw vvrows1 Lrows1 6 krows1 vrows1 rows1) {r:((Option zaC)×Int)} (h:zg9 title1 rows1=some r):FnR prog 11 [.string title1,vrows1] [zeJ zb9 6 vvrows1 krows1 Lrows1] [] (fun v0:Value=>.tuple #[v0,zI r.2]) (fun v0=>[zlg zbl zbk 76 v0 r.1]):=by
 unfold zg9 at h
 refine FnR.intro func11 rfl ntmps11 (by simp) ?_
 intro w0 K hrd
 obtain ⟨j1,hj1,h⟩:=zbT h
 refine za8 (β:=(List (List zBA))×Hd) 3 rfl (fun b=>j1 b.1=some r) (fun b=>[]) (fun b=>[(0,.string title1),(6,b.2.v)]) (fun b=>[zgf za9 zbn 38 1 b.2.v b.1]) (fun cut => ?_) ?_
 ·
  refine zyG (zyR 2 rfl (zyH (zyR 1 rfl (zyH ?_))))
  refine zbh zr8 rfl dc (fun b1 => ?_)
  refine zyN (cut (zyG (zyR 1 rfl (zcO hwrows1 rfl dc rfl underlying37 (zyR 1 rfl (zyN (zaG (zoQ (enc:=za9) (nest:=zbn) (e:=38) (size:=1) ?_))))))))
  refine zbP (β:=Nat×(List (List zBA))×Int×Int×Int×Int×Int×zBA×Int×Hd) (fun b=>za1 (fun _ _ _ _ _ _ _ _=>none) (zcV rows1 j1) b.1 b.2.1 b.2.2.1 b.2.2.2.1 b.2.2.2.2.1 b.2.2.2.2.2.1 b.2.2.2.2.2.2.1 b.2.2.2.2.2.2.2.1 b.2.2.2.2.2.2.2.2.1=some r) (fun b=>[]) (fun b=>[(0,.string title1),(6,b.2.2.2.2.2.2.2.2.2.v),(7,zP b1),(11,vrows1),(12,zI (rows1.length:Int)),(13,zI b.2.2.2.2.2.2.2.2.1)]) (fun b=>[zgf za9 zbn 38 1 b.2.2.2.2.2.2.2.2.2.v b.2.1,cells b1 [zI b.2.2.1,zI b.2.2.2.1,zI b.2.2.2.2.1,zI b.2.2.2.2.2.1,zI b.2.2.2.2.2.2.1,.string b.2.2.2.2.2.2.2.1] 43]) (fun b=>b.1) (zcD,([]:List (List zBA)),0,0,0,0,0,ByteArray.empty,0,Hd.nil) h rfl (zbf rfl) (zab [1,0] kr rfl) ?_
  rintro ⟨n1,stanzas4,last13,last14,last15,last16,last17,last18,x3,hd4⟩ h
  cases n1 with
  | zero=>exact zdO h
  | succ n1 =>
   obtain ⟨ag1,hag1⟩:∃ ag,ag=za1 (fun _ _ _ _ _ _ _ _=>none) (zcV rows1 j1) n1:=⟨_,rfl⟩
   have h:zcV rows1 j1 ag1 stanzas4 last13 last14 last15 last16 last17 last18 x3=some r:=by rw [hag1]; exact h
   unfold zcV at h
   refine zyG (zaS rfl zbF (zyN (zaE ?_)))
   refine zyB rfl h (fun h => ?_) (fun h => ?_)
   ·
    refine zal (zay ?_)
    obtain ⟨j2,hj2,h⟩:=zbT h
    refine za8 (β:=(List (List zBA))×Int×Int×Int×Int×Int×zBA×Hd) 0 rfl (fun b=>j2 b.1 b.2.1 b.2.2.1 b.2.2.2.1 b.2.2.2.2.1 b.2.2.2.2.2.1 b.2.2.2.2.2.2.1=some r) (fun b=>[]) (fun b=>[(0,.string title1),(6,b.2.2.2.2.2.2.2.v),(7,zP b1),(11,vrows1),(12,zI (rows1.length:Int)),(13,zI x3)]) (fun b=>[zgf za9 zbn 38 1 b.2.2.2.2.2.2.2.v b.1,cells b1 [zI b.2.1,zI b.2.2.1,zI b.2.2.2.1,zI b.2.2.2.2.1,zI b.2.2.2.2.2.1,.string b.2.2.2.2.2.2.1] 43]) (fun cut => ?_) ?_
    ·
     refine cut (zaG (zyG ?_))
     obtain ⟨q1,hq1,h⟩:=zbL h
     refine zbv hwrows1 hq1 underlying37 zjq rfl dc rfl rfl rfl (zoP (m:=krows1+(x3:Int).toNat) (j:=0) (i:=0) (q:=q1) (cs:=(zr4 q1)) hrd rfl (by omega) zoo rfl dc rfl (Vw.get hwrows1 hq1) rfl rfl rfl ?_)
     refine zbh zr8 rfl dc (fun b2 => ?_)
     refine zaZ (k:=2) (vs:=(zr4 q1)) (l':=(zr4 q1)) zjq rfl rfl rfl rfl rfl (show _≤_ by simp) rfl rfl ?_
     refine zyN (zaE (zyG (zaa zfB rfl dc rfl (show _=0 from rfl) (zaj (k:=2) zbW rfl dc rfl rfl rfl (zaS rfl zaL (zyN ?_))))))
     refine zyB rfl h (fun h => ?_) (fun h => ?_)
     ·
      refine zbu (zaq (zaJ ?_))
      exact zak (stanzas4,last13,last14,last15,last16,last17,last18,hd4) h rfl (zbf rfl) (zab [0,1] kr rfl)
     refine zal (zay ?_)
     obtain ⟨j3,hj3,h⟩:=zbT h
     refine za8 (β:=Bool×Bool) 0 rfl (fun b=>j3 b.1 b.2=some r) (fun b=>[]) (fun b=>[(0,.string title1),(6,hd4.v),(7,zP b1),(9,zP b2),(11,vrows1),(12,zI (rows1.length:Int)),(13,zI x3),(28,.pointer (some ⟨b2,2,none⟩)),(29,zI q1.Part),(30,.bool ((q1.Part:Int)==0)),(31,.bool b.1),(45,.bool b.2)]) (fun b=>[zgf za9 zbn 38 1 hd4.v stanzas4,cells b1 [zI last13,zI last14,zI last15,zI last16,zI last17,.string last18] 43,cells b2 (zr4 q1) 43]) (fun cut => ?_) ?_
     ·
      refine cut (zyG (zaV (k:=1) (cs:=[zI last13,zI last14,zI last15,zI last16,zI last17,.string last18]) zoo rfl dc rfl rfl rfl rfl (zaV (k:=2) (cs:=(zr4 q1)) zoo rfl dc rfl rfl rfl rfl (zyR 1 rfl (zi6 (k:=0) rfl dc rfl rfl underlying94 (zaS rfl zaL ?_))))))
      obtain ⟨r1,hq2,h⟩:=zbL h
      refine zbg (v:=.bool r1) (vs:=[.agg #[zI last13,zI last14,zI last15,zI last16,zI last17,.string last18],.agg (zr4 q1).toArray,.bool (((stanzas4.length:Int):Int)==0)]) rfl dc rfl rfl rfl zAG (zmp (a1:=(⟨last13,last14,last15,last16,last17,last18⟩:zap)) (b1:=q1) hq2) (zdt rfl dc rfl zct (zyR 1 rfl ?_))
      refine zyS (s:=27) rfl h (fun h => ?_) (fun h => ?_)
      ·
       refine zyR 14 rfl ?_
       refine zyR 5 rfl (zyN (zba rfl (zyG (zyR 2 rfl (zyN ?_)))))
       refine zau (zaf (zag (zaf (zaf (zag (zaf (zdQ zbl zbk 76 ?_)))))))
       cases h
       exact zbt (rs:=[.tmp 4,.tmp 5]) (.pointer none) (.inl rfl) results11 (.cons (.tmp rfl) (.cons (.tmp rfl) .nil)) rfl (zab [3] kr rfl)
      refine zaa zkN rfl dc rfl (show _=2 from rfl) (zaj (k:=2) zbW rfl dc rfl rfl rfl (zaS rfl zaL (zyR 1 rfl ?_)))
      refine zyS (s:=31) rfl h (fun h => ?_) (fun h => ?_)
      ·
       refine zaa zoC rfl dc rfl (show _=3 from rfl) (zaj (k:=2) zbW rfl dc rfl rfl rfl (zaS rfl zbF (zyR 1 rfl ?_)))
       refine zyS (s:=35) rfl h (fun h => ?_) (fun h => ?_)
       ·
        refine zyR 11 rfl (zyN (zba rfl ?_))
        refine zyG (zyR 2 rfl (zyN (zau (zaf (zag (zaf (zaf (zag (zaf (zdQ zbl zbk 76 ?_))))))))))
        cases h
        exact zbt (rs:=[.tmp 4,.tmp 5]) (.pointer none) (.inl rfl) results11 (.cons (.tmp rfl) (.cons (.tmp rfl) .nil)) rfl (zab [3] kr rfl)
       refine zaa zoC rfl dc rfl (show _=3 from rfl) (zaj (k:=2) zbW rfl dc rfl rfl rfl (zaS rfl zc1 (zyR 2 rfl ?_)))
       refine zyS (s:=40) rfl h (fun h => ?_) (fun h => ?_)
       ·
        refine zyR 6 rfl (zyN (zba rfl (zyG (zyR 2 rfl (zaP ?_)))))
        refine zay (zau (zaf (zag (zaf (zaf (zag (zaf (zdQ zbl zbk 76 ?_))))))))
        cases h
        exact zbt (rs:=[.tmp 4,.tmp 5]) (.pointer none) (.inl rfl) results11 (.cons (.tmp rfl) (.cons (.tmp rfl) .nil)) rfl (zab [3] kr rfl)
       refine zaa zoB rfl dc rfl (show _=5 from rfl) (zaj (k:=2) zhk rfl dc rfl rfl rfl ?_)
       obtain ⟨r2,hq3,h⟩:=zbL h
       refine zbg (v:=.bool r2) (vs:=[.string q1.Text,.string (⟨#[32]⟩:zBA)]) rfl dc rfl rfl rfl zzs (zgN hq3) (zyR 3 rfl (zyN ?_))
       refine zyB rfl h (fun h => ?_) (fun h => ?_)
       ·
        refine zyG (zyR 2 rfl (zyN (zau (zaf (zag (zaf (zaf (zag (zaf (zdQ zbl zbk 76 ?_))))))))))
        cases h
        exact zbt (rs:=[.tmp 4,.tmp 5]) (.pointer none) (.inl rfl) results11 (.cons (.tmp rfl) (.cons (.tmp rfl) .nil)) rfl (zab [3] kr rfl)
       refine zal ?_
       exact zak (true,r2) h rfl (zbf rfl) (zab [0,1,2] kr rfl)
      refine zyR 14 rfl ?_
      refine zyR 1 rfl (zyN (zaM rfl (zal ?_)))
      exact zak (false,false) h rfl (zbf rfl) (zab [0,1,2] kr rfl)
     rintro ⟨x4,x5⟩ h
     rw [hj3] at h
     obtain ⟨j4,hj4,h⟩:=zbT h
     refine za8 (β:=(List (List zBA))×Hd) 0 rfl (fun b=>j4 b.1=some r) (fun b=>[]) (fun b=>[(0,.string title1),(6,b.2.v),(7,zP b1),(9,zP b2),(11,vrows1),(12,zI (rows1.length:Int)),(13,zI x3),(28,.pointer (some ⟨b2,2,none⟩)),(29,zI q1.Part),(30,.bool ((q1.Part:Int)==0)),(31,.bool x4),(45,.bool x5)]) (fun b=>[zgf za9 zbn 38 1 b.2.v b.1,cells b1 [zI last13,zI last14,zI last15,zI last16,zI last17,.string last18] 43,cells b2 (zr4 q1) 43]) (fun cut => ?_) ?_
     ·
      refine cut (zyG (zaa zfA rfl dc rfl (show _=1 from rfl) (zaj (k:=2) zbW rfl dc rfl rfl rfl (zyR 1 rfl (zi6 (k:=0) rfl dc rfl rfl underlying94 (zaS rfl zaL (zyN ?_)))))))
      refine zyB rfl h (fun h => ?_) (fun h => ?_)
      ·
       refine zas (zyR 1 rfl ?_)
       refine zbc (cs:=[.slice none 0 0]) (te:=38) (ps:=[(0,.const (.slice none 0 0))]) rfl dc rfl (fun _=>by kernel_rfl) (fun b3 => ?_)
       refine zfi (enc:=zkv) (e:=9) (size:=1) ?_
       refine zeE (k:=0) rfl znk (fun zs1 hz1 => ?_)
       obtain ⟨hg1,h⟩:=zbQ h
       refine zbx (k:=0) (k2:=3) (ys:=[(([]:List zBA),Hd.nil)]) underlying94 zzD zcx zhO rfl dc rfl rfl rfl rfl rfl rfl (by rw [zx9 hz1]; exact hg1) (fun v1 => ?_)
       refine zbJ (k:=0) rfl (fun hd7 he1 => ?_)
       subst he1
       refine zfs (k:=5) rfl (zab [4] kr rfl) rfl (zpi (nest:=zbn) (zs:=zs1) (z:=(([]:List zBA),Hd.nil))) ?_
       refine zfs (k:=0) rfl (zab [5] kr rfl) rfl (ziR (enc:=za9) (nest:=zbn) (zyv hz1)) ?_
       refine zcs (L':=[zgf za9 zbn 38 1 hd7.v (stanzas4++[([]:List zBA)]),cells b1 [zI last13,zI last14,zI last15,zI last16,zI last17,.string last18] 43,cells b2 (zr4 q1) 43,cells b3 [.slice none 0 0] 38]) (zab [0,1,2,3] kr rfl) (zyR 1 rfl (zaP ?_))
       exact zak (stanzas4++[([]:List zBA)],hd7) h rfl (zbf rfl) (zab [0,1,2] kr rfl)
      refine zal ?_
      exact zak (stanzas4,hd4) h rfl (zbf rfl) (zab [0,1,2] kr rfl)
     rintro ⟨stanzas6,hd6⟩ h
     rw [hj4] at h
     refine zyG (zyR 1 rfl (zaa zfA rfl dc rfl (show _=1 from rfl) (zaj (k:=2) zbW rfl dc rfl rfl rfl ?_)))
     refine zeE (k:=0) rfl znk (fun zs2 hz2 => ?_)
     obtain ⟨x6,hq4,h⟩:=zbL h
     obtain ⟨eh1,eq1⟩:=zjk hz2 hq4
     refine za3 (k:=0) eq1 underlying94 znb rfl dc rfl rfl rfl rfl (zyR 1 rfl (zyN ?_))
     obtain ⟨j5,hj5,h⟩:=zbT h
     refine za8 (β:=(List (List zBA))) 0 rfl (fun b=>j5 b=some r) (fun b=>[]) (fun b=>[(0,.string title1),(6,hd6.v),(7,zP b1),(9,zP b2),(11,vrows1),(12,zI (rows1.length:Int)),(13,zI x3),(28,.pointer (some ⟨b2,2,none⟩)),(29,zI q1.Part),(30,.bool ((q1.Part:Int)==0)),(31,.bool x4),(45,.bool x5)]) (fun b=>[zgf za9 zbn 38 1 hd6.v b,cells b1 [zI last13,zI last14,zI last15,zI last16,zI last17,.string last18] 43,cells b2 (zr4 q1) 43]) (fun cut => ?_) ?_
     ·
      refine cut (zyG (zaa zkN rfl dc rfl (show _=2 from rfl) (zaj (k:=2) zbW rfl dc rfl rfl rfl (zaS rfl zaL (zyN ?_)))))
      refine zyB rfl h (fun h => ?_) (fun h => ?_)
      ·
       obtain ⟨hg2,h⟩:=zbQ h
       obtain ⟨hg3,h⟩:=zbQ h
       obtain ⟨hg4,h⟩:=zbQ h
       refine zi8 (k:=3) rfl (zsj (zbo eq1)) (fun _ _ => ?_)
       refine zgG 1 ?_
       refine let vals1:(Nat×Hd)→List (Nat×Nat×Value):=fun b=>[(0,62,.pointer (some ⟨zdz hd6.v,(q1.Stanza:Int).toNat*1,none⟩)),(1,63,.pointer (some ⟨zdz hd6.v,(q1.Stanza:Int).toNat*1,none⟩)),(2,64,.pointer (some ⟨zdz hd6.v,(q1.Stanza:Int).toNat*1,none⟩)),(3,65,eh1.v),(4,66,.pointer (some ⟨b2,3,none⟩)),(5,67,zI q1.Indent),(6,68,.string (zcv q1.Indent)),(7,69,.pointer (some ⟨b2,5,none⟩)),(8,70,.string q1.Text),(9,71,.string ((zcv q1.Indent)++q1.Text)),(10,72,.slice (some ⟨b.1,0,none⟩) 1 1),(11,73,b.2.v)]; let LL1:(Nat→Prop)→(Nat×Hd)→List Asn:=fun D b=>[zA9 hd6.v zs2,cells b1 [zI last13,zI last14,zI last15,zI last16,zI last17,.string last18] 43,cells b2 (zr4 q1) 43,own zbn (zs2.eraseIdx ((q1.Stanza:Int).toNat)),eD D (zv2 eh1.v x6) [(11,zv2 b.2.v (x6++[(zcv q1.Indent)++q1.Text]))],eD D emp [(10,cells b.1 [.string ((zcv q1.Indent)++q1.Text)] 9)]]; ?_
       have zhq:zyQ [10,11] LL1:=fun i h D b=>zac rfl (zac rfl (zac rfl (zac rfl (zac (zkr rfl h) (zac (zkr rfl h) rfl)))))
       refine zeb (β:=Nat×Hd) 12 ((0:Nat),Hd.nil) vals1 LL1 mixed kr kr dc (fun _=>rfl) (zfu (zac zci (zac zci rfl))) (zm5 zhq (fun _=>rfl) (fun _=>rfl) 2 0 (fun _=>rfl) rfl (zyq zhq rfl (fun _=>rfl) (fun _=>rfl) ?_ (zhC zhq rfl (fun _=>rfl) (fun _=>rfl) ?_ (zyq zhq rfl (fun _=>rfl) (fun _=>rfl) ?_ (zhC zhq rfl (fun _=>rfl) (fun _=>rfl) ?_ (zhC zhq rfl (fun _=>rfl) (fun _=>rfl) ?_ (zyq zhq rfl (fun _=>rfl) (fun _=>rfl) ?_ (zhC zhq rfl (fun _=>rfl) (fun _=>rfl) ?_ (zyq zhq rfl (fun _=>rfl) (fun _=>rfl) ?_ (zaF ?_ (zaF ?_ DrawG.nil))))))))))) ?_
       · exact fun D ⟨b4,hd8⟩ n d c u i=>zai rfl dc (zam 1 u d) (zar 2 u i)
       · exact fun D ⟨b4,hd8⟩ n d c u i=>⟨_,(zfu (zac (zah (fun hD=>n (c 11 _ rfl hD 3 dc)) zat) rfl)),zbD (i:=(q1.Stanza:Int).toNat) (j:=0) (k:=0) (q:=(x6,eh1)) znd zcx rfl dc (zam 2 u d) rfl (zbo eq1) rfl dc rfl (zar 3 u i)⟩
       · exact fun D ⟨b4,hd8⟩ n d c u i=>zaa zoC rfl dc (zbd (by rfl) rfl) (show _=3 from rfl) (zar 4 u i)
       · exact fun D ⟨b4,hd8⟩ n d c u i=>⟨_,(zfu (zac (zah (fun hD=>n (c 6 _ rfl (c 11 _ rfl hD 6 dc) 5 dc)) zat) (zac (zah (fun hD=>n (c 6 _ rfl (c 9 _ rfl (c 10 _ rfl hD 9 dc) 6 dc) 5 dc)) zat) rfl))),zaj (k:=2) zbW rfl dc (zam 4 u d) rfl rfl (zar 5 u i)⟩
       · exact fun D ⟨b4,hd8⟩ n d c u i=>⟨_,(zfu (zac (zah (fun hD=>n (c 11 _ rfl hD 6 dc)) zat) (zac (zah (fun hD=>n (c 9 _ rfl (c 10 _ rfl hD 9 dc) 6 dc)) zat) rfl))),zbg (v:=.string (zcv q1.Indent)) (vs:=[.string (⟨#[32]⟩:zBA),zI q1.Indent]) rfl dc rfl (evL.cons rfl (evL.cons (zam 5 u d) evL.nil)) rfl zzr (zrh q1.Indent hg2) (zar 6 u i)⟩
       · exact fun D ⟨b4,hd8⟩ n d c u i=>zaa zoB rfl dc (zbd (by rfl) rfl) (show _=5 from rfl) (zar 7 u i)
       · exact fun D ⟨b4,hd8⟩ n d c u i=>⟨_,(zfu (zac (zah (fun hD=>n (c 9 _ rfl (c 10 _ rfl (c 11 _ rfl hD 10 dc) 9 dc) 8 dc)) zat) (zac (zah (fun hD=>n (c 9 _ rfl (c 10 _ rfl hD 9 dc) 8 dc)) zat) rfl))),zaj (k:=2) zhk rfl dc (zam 7 u d) rfl rfl (zar 8 u i)⟩
       · exact fun D ⟨b4,hd8⟩ n d c u i=>zb6 rfl dc (zam 6 u d) (zam 8 u d) (zgX hg3) (zar 9 u i)
       ·
        intro D b hn hd hcl
        obtain ⟨zb0,hd8⟩:=b
        refine zaY (zfu (zac (zah (fun hD=>hn (hcl 11 _ rfl hD 10 dc)) zat) (zac (zah hn zat) rfl))) ?_
        refine zbc (cs:=[.string ((zcv q1.Indent)++q1.Text)]) (te:=9) (ps:=[(0,.tmp 71)]) rfl dc (evP.cons (zaI (m:=9) rfl rfl (hd 9 dc)) evP.nil) (fun _=>by kernel_rfl) (fun b4 => ?_)
        refine zdg 5 rfl rfl ?_
        exact za4 (b:=(zb0,hd8)) (b4,hd8) 10 (by rfl) (by rfl) rfl (zwL (zaz (fun hD=>absurd hD hn) (zaz (fun _=>rfl) rfl))) (zfu (zac ((zav (by rfl)).trans (zah (fun hD=>hn (hcl 11 _ rfl hD 10 dc)) zat)) (zac (zaW (Or.inr rfl) rfl) rfl)))
       ·
        intro D b hn hd hcl
        obtain ⟨b4,zb1⟩:=b
        refine zaY (zfu (zac (zah hn zat) (zac (zaW (hd 10 dc) rfl) rfl))) ?_
        refine zbx (k:=4) (k2:=5) (ys:=[(zcv q1.Indent)++q1.Text]) underlying38 zyc zey zkg rfl dc (zaI (m:=3) rfl rfl (hd 3 dc)) (zaI (m:=10) rfl rfl (hd 10 dc)) rfl rfl rfl rfl hg4 (fun v2 => ?_)
        refine zbJ (k:=4) rfl (fun hd8 he2 => ?_)
        subst he2
        exact za4 (b:=(b4,zb1)) (b4,hd8) 11 (by rfl) (by rfl) rfl (zkw (zaz (fun hD=>absurd hD hn) rfl)) (zfu (zac (zaW (Or.inr rfl) rfl) (zac ((zav (by rfl)).trans (zaW (hd 10 dc) rfl)) rfl)))
       intro D b hall
       obtain ⟨b4,hd8⟩:=b
       refine zaY (zfu (zac (zaW (hall 11 dc) rfl) (zac (zaW (hall 10 dc) rfl) rfl))) (zai rfl dc rfl ?_)
       refine zex (i:=(q1.Stanza:Int).toNat) (j:=0) (k:=0) (q:=(x6,eh1)) (q':=(x6++[(zcv q1.Indent)++q1.Text],hd8)) znb zcx rfl rfl rfl rfl (zbo eq1) rfl dc rfl (fun _ _=>rfl) ?_
       refine zfs (k:=3) rfl (zab [4] kr rfl) rfl (zpa (nest:=zbn) (zs:=zs2) (z:=(x6++[(zcv q1.Indent)++q1.Text],hd8)) (zom (zbo eq1)) zjJ) ?_
       refine zaP (zgy (k:=0) rfl (zab [3] kr rfl) rfl (ziR (enc:=za9) (nest:=zbn) (zzS hz2)) ?_)
       exact zak (stanzas6.set (q1.Stanza:Int).toNat (x6++[(zcv q1.Indent)++q1.Text])) h rfl (zbf rfl) (zab [0,1,2] kr rfl)
      obtain ⟨hg5,h⟩:=zbQ h
      obtain ⟨q2,hq5,h⟩:=zbL h
      obtain ⟨hg6,h⟩:=zbQ h
      refine zi8 (k:=3) rfl (zsj (zbo eq1)) (fun _ _ => ?_)
      refine zbB 12 [(0,75,.pointer (some ⟨zdz hd6.v,(q1.Stanza:Int).toNat*1,none⟩)),(1,76,.pointer (some ⟨zdz hd6.v,(q1.Stanza:Int).toNat*1,none⟩)),(2,77,eh1.v),(3,78,.pointer (some ⟨zdz hd6.v,(q1.Stanza:Int).toNat*1,none⟩)),(4,79,.pointer (some ⟨zdz hd6.v,(q1.Stanza:Int).toNat*1,none⟩)),(5,80,eh1.v),(6,81,zI (x6.length:Int)),(7,82,zI ((x6.length:Int) - 1)),(8,83,.pointer (some ⟨zdz eh1.v,((x6.length:Int) - 1:Int).toNat*1,none⟩)),(9,84,.string q2),(10,85,.pointer (some ⟨b2,5,none⟩)),(11,86,.string q1.Text)] mixed kr kr dc (by rfl) kr kr (zyP 1 0 rfl (zad ?_ (zad ?_ (zyP 1 3 rfl (zad ?_ (zad ?_ (zad ?_ (zad ?_ (zad ?_ (zad ?_ (zad ?_ (zad ?_ DrawPre.nil)))))))))))) ?_
      · exact fun D n d c u i=>zai rfl dc (zam 0 u d) (zar 1 u i)
      · exact fun D n d c u i=>zbD (i:=(q1.Stanza:Int).toNat) (j:=0) (k:=0) (q:=(x6,eh1)) znd zcx rfl dc (zam 1 u d) rfl (zbo eq1) rfl dc rfl (zar 2 u i)
      · exact fun D n d c u i=>zai rfl dc (zam 3 u d) (zar 4 u i)
      · exact fun D n d c u i=>zbD (i:=(q1.Stanza:Int).toNat) (j:=0) (k:=0) (q:=(x6,eh1)) znd zcx rfl dc (zam 4 u d) rfl (zbo eq1) rfl dc rfl (zar 5 u i)
      · exact fun D n d c u i=>zdu (k:=4) rfl dc (zam 5 u d) rfl underlying38 (zar 6 u i)
      · exact fun D n d c u i=>zb6 rfl dc (zam 6 u d) rfl (zce (r:=(x6.length:Int) - 1) (IntWalk.i64_in _ hg5)) (zar 7 u i)
      · exact fun D n d c u i=>za3 (k:=4) hq5 underlying38 zof rfl dc (zam 2 u d) (zam 7 u d) rfl rfl (zar 8 u i)
      · exact fun D n d c u i=>zbD (i:=((x6.length:Int) - 1:Int).toNat) (j:=0) (k:=4) (q:=q2) zhk zey rfl dc (zam 8 u d) rfl (zbo hq5) rfl dc rfl (zar 9 u i)
      · exact fun D n d c u i=>zaa zoB rfl dc (zbd (by rfl) rfl) (show _=5 from rfl) (zar 10 u i)
      · exact fun D n d c u i=>zaj (k:=2) zhk rfl dc (zam 10 u d) rfl rfl (zar 11 u i)
      refine zaS rfl (zgX hg6) (za3 (k:=4) hq5 underlying38 zof rfl dc rfl rfl rfl rfl ?_)
      refine zex (i:=((x6.length:Int) - 1:Int).toNat) (j:=0) (k:=4) (q:=q2) (q':=q2++q1.Text) zof zey rfl rfl rfl rfl (zbo hq5) rfl dc rfl (fun _ _=>rfl) ?_
      refine zaP (zuD (k:=0) rfl (zoc (zwN (zbo eq1)).symm (q1:=(x6,eh1)) (q2:=(x6.set ((x6.length:Int) - 1:Int).toNat (q2++q1.Text),eh1)) zcx rfl) (zgy (k:=3) rfl (zab [4] kr rfl) rfl (zpa (nest:=zbn) (zs:=zs2) (z:=(x6.set ((x6.length:Int) - 1:Int).toNat (q2++q1.Text),eh1)) (zom (zbo eq1)) zjJ) ?_))
      refine zgy (k:=0) rfl (zab [3] kr rfl) rfl (ziR (enc:=za9) (nest:=zbn) (zzS hz2)) ?_
      exact zak (stanzas6.set ((q1.Stanza:Int).toNat) (x6.set ((x6.length:Int) - 1:Int).toNat (q2++q1.Text))) h rfl (zbf rfl) (zab [0,1,2] kr rfl)
     rintro stanzas7 h
     rw [hj5] at h
     refine zas (zaV (k:=2) (cs:=(zr4 q1)) zoo rfl dc rfl rfl rfl rfl (zaZ (k:=1) (vs:=(zr4 q1)) (l':=(zr4 q1)) zjq rfl rfl rfl rfl rfl (show _≤_ by simp) rfl rfl (zaP (zae ?_))))
     exact zak (stanzas7,q1.Line,q1.Stanza,q1.Part,q1.Indent,q1.Number,q1.Text,hd6) h rfl (zbf rfl) (zab [0,1] kr rfl)
    rintro ⟨stanzas5,last19,last20,last21,last22,last23,last24,hd5⟩ h
    rw [hj2] at h
    refine zas ?_
    obtain ⟨hg7,h⟩:=zbQ h
    refine zaS rfl (zbb (r:=x3+1) (IntWalk.i64_in _ hg7)) (zyR 1 rfl (zaP ?_))
    subst hag1
    exact zbr (n1,stanzas5,last19,last20,last21,last22,last23,last24,x3+1,hd5) h (Nat.lt_succ_self _) rfl (zbf rfl) (zab [0,1] kr rfl)
   refine zbu (zaq (zaq (zaJ ?_)))
   exact zak (stanzas4,hd4) h rfl (zbf rfl) (zab [0] kr rfl)
 rintro ⟨stanzas1,hd1⟩ h
 rw [hj1] at h
 refine zyG (zyR 2 rfl ?_)
 obtain ⟨r3,hq6,h⟩:=zbL h
 refine zft (vs:=[.string title1,hd1.v]) hrd rfl dc rfl rfl rfl zAF (zn5 (nest:=zbn) (e:=38) (v:=hd1.v) (xs:=stanzas1) (RD1:=[]) (RD2:=[]) zcx zjj (fun zs_c0 hz_c0 hV_c0=>(zpd (vstanzas1:=hd1) hV_c0 hz_c0 hq6))) Splits.nil (.own (zab [0] kr rfl) (fun _ _ h=>sepL.one1.1 h) .nil) ?_
 rintro v3
 refine zcs (L':=[zgf za9 zbn 38 1 hd1.v stanzas1,zlg zbl zbk 76 v3 r3.1]) (zab [0,1] kr rfl) (zaN rfl dc rfl rfl (zaN rfl dc rfl rfl (zyR 2 rfl (zyN (zau ?_)))))
 cases h
 exact zbt (rs:=[.tmp 4,.tmp 5]) v3 (.inl rfl) results11 (.cons (.tmp rfl) (.cons (.tmp rfl) .nil)) rfl (zab [1] kr rfl)
def zb7 (p1:zaC) (r6:((List zap)×Int)) (j3:(List zBA)→Option Bool) (ag2:(List zBA)→Int→Option Bool) (lines9:List zBA) (x16:Int):Option Bool := zaB (decide ((x16:Int)<(r6.1.length:Int))) ( zbE (fun (j4:(List zBA)→Option Bool) => zan (zdf r6.1 x16) fun (q3:zap) => zan (zcw p1) fun (r7:Int) => zaB (decide ((r7:Int)≤q3.Line)) ( some false
) ( zaB (decide ((0:Int)≤q3.Line)) ( zan (zdf lines9 q3.Line) fun (q4:zBA) => grd (q4.size+q3.Text.size≤9223372036854775807) <| j4 (lines9.set (q3.Line:Int).toNat (q4++q3.Text))
) ( j4 lines9
)
)
) (fun (lines10:List zBA) => grd (I64 (x16+1)) <| ag2 lines10 (x16+1)
)
) ( j3 lines9
)
def zb8 (s1:zdn) (p1:zaC) (j1:(List zap)→(List zBA)→Option Bool) (p2:zb5) (r5:Int) (ag1:(List zap)→(List zBA)→Int→Option Bool) (rows4:List zap) (lines4:List zBA) (x3:Int):Option Bool := zaB (decide ((x3:Int)<r5)) ( zbE (fun (j2:(List zap)→(List zBA)→(List zap)→Int→Bool→Int→Bool→Int→Bool→Int→Int→Int→Bool→Option Bool) => zan (zeU p2 x3) fun (r6:((List zap)×Int)) => zaB ((r6.2:Int) != 0) ( some false
) ( zaB (decide (((r6.1.length:Int):Int)<1)) ( some false
) ( zaB (decide ((s1.Layout_Height:Int)<(r6.1.length:Int))) ( some false
) ( zan (zdf r6.1 0) fun (q1:zap) => zaB (decide ((q1.Line:Int)<0)) ( some false
) ( grd (I64 ((r6.1.length:Int) - 1)) <| zan (zdf r6.1 ((r6.1.length:Int) - 1)) fun (q2:zap) => zaB (decide ((q2.Line:Int)<0)) ( some false
) ( zbE (fun (j3:(List zBA)→Option Bool) => za1 (fun _ _=>none) (zb7 p1 r6 j3) zcD lines4 0
) (fun (lines6:List zBA) => grd (rows4.length+r6.1.length≤2147483648) <| j2 (rows4++r6.1) lines6 r6.1 (r6.1.length:Int) (decide (((r6.1.length:Int):Int)<1)) (r6.1.length:Int) (decide ((s1.Layout_Height:Int)<(r6.1.length:Int))) q1.Line (decide ((q1.Line:Int)<0)) (r6.1.length:Int) ((r6.1.length:Int) - 1) q2.Line (decide ((q2.Line:Int)<0))
)
)
)
)
)
)
) (fun (rows5:List zap) (lines5:List zBA) (l1:List zap) (x4:Int) (x5:Bool) (x6:Int) (x7:Bool) (x8:Int) (x9:Bool) (x10:Int) (x11:Int) (x12:Int) (x13:Bool) => grd (I64 (x3+1)) <| ag1 rows5 lines5 (x3+1)
)
) ( j1 rows4 lines4
)
def zbO (lines1:List zBA) (ek1:Option Bool) (x17:Int×zax) (ag3:Option Bool):Option Bool := zan (zdf lines1 x17.1) fun (q5:zBA) => zaB (!decide (q5=x17.2.Text)) ( ek1
) ( ag3
)
def zd9 (s1:zdn):Option Bool := zan (zeO) fun (r1:Bool) => zaB (!r1) ( some false
) ( zan (zet s1.Text) fun (r2:((Option zaC)×zbS)) => zaB ((r2.2.Err:Int) != 0) ( some r2.1.isNone
) ( zan (r2.1) fun (p1:zaC) => zan (zhK p1 (⟨s1.Layout_Width,s1.Layout_Height,s1.Layout_Turn,s1.Layout_Every⟩:zaO)) fun (r3:((Option zb5)×Int)) => zaB ((r3.2:Int) != 0) ( zaB (r3.1.isNone) ( some ((r3.2:Int)==2)
) ( some false
)
) ( zbE (fun (j1:(List zap)→(List zBA)→Option Bool) => zan (zcw p1) fun (r4:Int) => grd (0≤r4∧r4≤2147483648) <| zan (r3.1) fun (p2:zb5) => zan (zfn p2) fun (r5:Int) => za1 (fun _ _ _=>none) (zb8 s1 p1 j1 p2 r5) zcD ([]:List zap) (List.replicate (r4:Int).toNat ByteArray.empty:List zBA) 0
) (fun (rows1:List zap) (lines1:List zBA) => zbE (fun (j5:Option Bool) => zan (zef p1) fun (r8:Unit) => zan (zdk p1) fun (its1:(List (Int×zax))) => zbE (fun (ek1:Option Bool) => zbE (fun (dn1:Option Bool) => zcQ dn1 (zbO lines1 ek1) its1
) ( j5
)
) ( some false
)
) ( zbE (fun (j6:Option Bool) => zan (zgj p1) fun (r9:zBA) => zan (zg9 r9 rows1) fun (r10:((Option zaC)×Int)) => zaB ((r10.2:Int) != 0) ( zan (zeA p1) fun (r11:zBA) => zaB (decide (((r11.size:Int):Int)≤65536)) ( some false
) ( zaB ((r10.2:Int)==0) ( zan (r10.1) fun (p3:zaC) => zan (zee p3 p1) fun (r12:Bool) => zaB (!r12) ( some false
) ( j6
)
) ( j6
)
)
) ( zaB ((r10.2:Int)==0) ( zan (r10.1) fun (p4:zaC) => zan (zee p4 p1) fun (r13:Bool) => zaB (!r13) ( some false
) ( j6
)
) ( j6
)
)
) ( zan (zcw p1) fun (r14:Int) => zaB ((r14:Int)==0) ( some true
) ( zan (zcw p1) fun (r15:Int) => grd (r15≠0) <| zan (zdp p1 (⟨s1.Layout_Width,s1.Layout_Height,s1.Layout_Turn,s1.Layout_Every⟩:zaO) (Int.tmod (max s1.Line 0) r15) s1.Cuts) fun (r16:Bool) => some r16
)
)
)
)
)
)
)
theorem zh4 {s1:zdn} {s1_h0:Hd} {vvs10:Value} {ks10:Nat} {Ls10:List Int} (hws10:Vw vvs10 Ls10 1 ks10 s1_h0.v s1.Cuts) {r:Bool} (h:zd9 s1=some r):FnR prog 3 [.agg #[.string s1.Text,zI s1.Layout_Width,zI s1.Layout_Height,zI s1.Layout_Turn,zI s1.Layout_Every,zI s1.Line,s1_h0.v]] [zeJ (zlp (.i64)) 1 vvs10 ks10 Ls10] [] (fun _:Unit=>(.bool r)) (fun _=>[]):=by
 unfold zd9 at h
 refine FnR.intro func3 rfl ntmps3 (by simp) ?_
 intro w0 K hrd
 refine zgz ?_
 refine zyG ?_
 refine zdi rfl dc rfl (fun b1 => ?_)
 refine zbh zBa rfl dc (fun b2 => ?_)
 refine zyN (zaE (zgG 1 ?_))
 refine let vals1:(Nat)→List (Nat×Nat×Value):=fun b=>[(0,21,zP b1),(1,22,.string s1.Text),(2,23,.pointer (some ⟨b1,1,none⟩)),(3,24,.agg #[zI s1.Layout_Width,zI s1.Layout_Height,zI s1.Layout_Turn,zI s1.Layout_Every]),(4,25,.pointer (some ⟨b1,5,none⟩)),(5,26,zI s1.Line),(6,27,.pointer (some ⟨b1,6,none⟩)),(7,28,s1_h0.v),(8,4,zP b),(9,3,.string s1.Text),(11,5,zI s1.Line)]; let LL1:(Nat→Prop)→(Nat)→List Asn:=fun D b=>[zhG ((([]:List Nat):List Nat).map zib),cells b1 [.string s1.Text,zI s1.Layout_Width,zI s1.Layout_Height,zI s1.Layout_Turn,zI s1.Layout_Every,zI s1.Line,s1_h0.v] 26,cells b2 [.bool false] 4,eD D emp [(10,cells b [zI s1.Layout_Width,zI s1.Layout_Height,zI s1.Layout_Turn,zI s1.Layout_Every] 23),(8,cells b [zI 0,zI 0,zI 0,zI 0] 23)]]; ?_
 refine zeb (β:=Nat) 12 (0:Nat) vals1 LL1 mixed kr kr dc (fun _=>rfl) (zcK (zac zci rfl)) (zaF ?_ (zaF ?_ (zaF ?_ (zaF ?_ (zaF ?_ (zaF ?_ (zaF ?_ (zaF ?_ (zaF ?_ (zaF ?_ (zaF ?_ (zaF ?_ DrawG.nil)))))))))))) ?_
 ·
  intro D b hn hd hcl
  revert b; intro b3
  refine zaY (zcK (zac (zah (fun hD=>hn (hcl 10 _ rfl hD 0 dc)) rfl) rfl)) ?_
  refine zaa zxy rfl dc (zbd (by rfl) rfl) (show _=0 from rfl) ?_
  exact za4 b3 0 (by rfl) (by rfl) rfl (zkw rfl) (zcK (zac ((zav (by rfl)).trans (zah (fun hD=>hn (hcl 10 _ rfl hD 0 dc)) rfl)) rfl))
 ·
  intro D b hn hd hcl
  revert b; intro b3
  refine zaY (zcK (zac (zah (fun hD=>hn (hcl 10 _ rfl hD 1 dc)) rfl) rfl)) ?_
  refine zaj (k:=1) zhk rfl dc (zaI (m:=0) rfl rfl (hd 0 dc)) rfl rfl ?_
  exact za4 b3 1 (by rfl) (by rfl) rfl (zkw rfl) (zcK (zac ((zav (by rfl)).trans (zah (fun hD=>hn (hcl 10 _ rfl hD 1 dc)) rfl)) rfl))
 ·
  intro D b hn hd hcl
  revert b; intro b3
  refine zaY (zcK (zac (zah (fun hD=>hn (hcl 10 _ rfl hD 2 dc)) rfl) rfl)) ?_
  refine zaa zxx rfl dc (zbd (by rfl) rfl) (show _=1 from rfl) ?_
  exact za4 b3 2 (by rfl) (by rfl) rfl (zkw rfl) (zcK (zac ((zav (by rfl)).trans (zah (fun hD=>hn (hcl 10 _ rfl hD 2 dc)) rfl)) rfl))
 ·
  intro D b hn hd hcl
  revert b; intro b3
  refine zaY (zcK (zac (zah (fun hD=>hn (hcl 10 _ rfl hD 3 dc)) rfl) rfl)) ?_
  refine zaV (k:=1) (cs:=[zI s1.Layout_Width,zI s1.Layout_Height,zI s1.Layout_Turn,zI s1.Layout_Every]) zjs rfl dc (zaI (m:=2) rfl rfl (hd 2 dc)) rfl rfl rfl ?_
  exact za4 b3 3 (by rfl) (by rfl) rfl (zkw rfl) (zcK (zac ((zav (by rfl)).trans (zah (fun hD=>hn (hcl 10 _ rfl hD 3 dc)) rfl)) rfl))
 ·
  intro D b hn hd hcl
  revert b; intro b3
  refine zaY (zfu rfl) (zaa zxw rfl dc (zbd (by rfl) rfl) (show _=5 from rfl) ?_)
  exact za4 b3 4 (by rfl) (by rfl) rfl (zkw rfl) (zcK (zac (zav (by rfl)) rfl))
 ·
  intro D b hn hd hcl
  revert b; intro b3
  refine zaY (zfu rfl) (zaj (k:=1) zbW rfl dc (zaI (m:=4) rfl rfl (hd 4 dc)) rfl rfl ?_)
  exact za4 b3 5 (by rfl) (by rfl) rfl (zkw rfl) (zcK (zac (zav (by rfl)) rfl))
 ·
  intro D b hn hd hcl
  revert b; intro b3
  refine zaY (zfu rfl) (zaa zxv rfl dc (zbd (by rfl) rfl) (show _=6 from rfl) ?_)
  exact za4 b3 6 (by rfl) (by rfl) rfl (zkw rfl) (zcK (zac (zav (by rfl)) rfl))
 ·
  intro D b hn hd hcl
  revert b; intro b3
  refine zaY (zfu rfl) (zaj (k:=1) zhS rfl dc (zaI (m:=6) rfl rfl (hd 6 dc)) rfl rfl ?_)
  exact za4 b3 7 (by rfl) (by rfl) rfl (zkw rfl) (zcK (zac (zav (by rfl)) rfl))
 ·
  intro D b hn hd hcl
  revert b; intro _b
  refine zaY (zcK (zac (zah (fun hD=>hn (hcl 10 _ rfl hD 8 dc)) (zah hn zat)) rfl)) ?_
  refine zbh zz0 rfl dc (fun b3 => ?_)
  refine zdg 3 rfl rfl ?_
  exact za4 b3 8 (by rfl) (by rfl) rfl (zks (zaz (fun hD=>absurd hD hn) (zx7 rfl))) (zcK (zac (zah (fun h=>h.elim (fun hD=>hn (hcl 10 _ rfl hD 8 dc)) (fun h=>absurd h dc)) (zaW (Or.inr rfl) rfl)) rfl))
 ·
  intro D b hn hd hcl
  revert b; intro b3
  refine zaY (zcK (zac (zah (fun hD=>hn (hcl 10 _ rfl hD 9 dc)) (zaW (hd 8 dc) rfl)) rfl)) ?_
  refine zhj rfl dc (zaI (m:=1) rfl rfl (hd 1 dc)) ?_
  exact za4 b3 9 (by rfl) (by rfl) rfl (zkw rfl) (zcK (zac ((zav (by rfl)).trans (zah (fun hD=>hn (hcl 10 _ rfl hD 9 dc)) (zaW (hd 8 dc) rfl))) rfl))
 ·
  intro D b hn hd hcl
  revert b; intro b3
  refine zaY (zcK (zac (zah hn (zaW (hd 8 dc) rfl)) rfl)) (zaZ (k:=3) (vs:=[zI s1.Layout_Width,zI s1.Layout_Height,zI s1.Layout_Turn,zI s1.Layout_Every]) (l':=[zI s1.Layout_Width,zI s1.Layout_Height,zI s1.Layout_Turn,zI s1.Layout_Every]) zz5 rfl (zaI (m:=8) rfl rfl (hd 8 dc)) (zaI (m:=3) rfl rfl (hd 3 dc)) rfl rfl (show _≤_ by simp) rfl rfl ?_)
  exact zi5 b3 (by rfl) (zkw rfl) (zcK (zac (zaW (Or.inr rfl) rfl) rfl))
 ·
  intro D b hn hd hcl
  revert b; intro b3
  refine zaY (zcK (zac (zaW (hd 10 dc) rfl) rfl)) (zhj rfl dc (zaI (m:=5) rfl rfl (hd 5 dc)) ?_)
  exact za4 b3 10 (by rfl) (by rfl) rfl (zkw rfl) (zcK (zac ((zav (by rfl)).trans (zaW (hd 10 dc) rfl)) rfl))
 intro D b hall
 revert b; intro b3
 refine zaY (zcK (zac (zaW (hall 10 dc) rfl) rfl)) (zyR 1 rfl (zyN (zaE (zyG ?_))))
 obtain ⟨r1,hq1,h⟩:=zbL h
 refine zbg (v:=.bool r1) (vs:=[]) rfl dc rfl rfl rfl zBr (zjd hq1) (zdt rfl dc rfl zct (zyN ?_))
 refine zyB rfl h (fun h => ?_) (fun h => ?_)
 ·
  refine zyG ?_
  refine zaT (k:=2) (l':=[.bool false]) zog rfl rfl rfl rfl rfl (fun _ _=>rfl) rfl ?_
  refine zyN (zau (zaf ?_))
  cases h
  exact zdh (rs:=[.cell 2 4]) ([]:List Nat) () (.inl rfl) (zbq (k:=0) rfl) results3 (.cons (.cell zlc (k:=2) rfl rfl) .nil) rfl Splits.nil
 refine zal (zay (zyG (zyR 1 rfl ?_)))
 obtain ⟨r2,hq2,h⟩:=zbL h
 refine zcE (vs:=[.string s1.Text]) rfl dc rfl rfl rfl zBf (zlf hq2) Splits.nil ?_
 rintro v1
 refine zcs (L':=[zhG ((([]:List Nat):List Nat).map zib),cells b1 [.string s1.Text,zI s1.Layout_Width,zI s1.Layout_Height,zI s1.Layout_Turn,zI s1.Layout_Every,zI s1.Line,s1_h0.v] 26,cells b2 [.bool false] 4,cells b3 [zI s1.Layout_Width,zI s1.Layout_Height,zI s1.Layout_Turn,zI s1.Layout_Every] 23,zlg zbl zbk 76 v1 r2.1]) (zab [0,1,2,3,4] kr rfl) (zyR 1 rfl (zaN rfl dc rfl rfl (zaN rfl dc rfl rfl ?_)))
 refine zbh zwP rfl dc (fun b4 => ?_)
 refine zyR 1 rfl (zaZ (k:=5) (vs:=(zr6 r2.2)) (l':=(zr6 r2.2)) zqe rfl rfl rfl rfl rfl (show _≤_ by simp) rfl rfl ?_)
 refine zyN (zaE (zyG (zaa zxu rfl dc rfl (show _=0 from rfl) (zaj (k:=5) zz7 rfl dc rfl rfl rfl (zaS rfl zbH (zyN ?_))))))
 refine zyB rfl h (fun h => ?_) (fun h => ?_)
 ·
  refine zyG (zyR 1 rfl ?_)
  refine zpV (k:=4) rfl (fun hv1 => ?_)
  refine zaS rfl (znY underlying28 hv1) ?_
  refine zaT (k:=2) (l':=[.bool r2.1.isNone]) zog rfl rfl rfl rfl rfl (fun _ _=>rfl) rfl ?_
  refine zyN (zau (zaf ?_))
  cases h
  exact zdh (rs:=[.cell 2 4]) ([]:List Nat) () (.inl rfl) (zbq (k:=0) rfl) results3 (.cons (.cell zlc (k:=2) rfl rfl) .nil) rfl Splits.nil
 refine zal (zay (zyG (zyR 1 rfl (zaV (k:=3) (cs:=[zI s1.Layout_Width,zI s1.Layout_Height,zI s1.Layout_Turn,zI s1.Layout_Every]) zjs rfl dc rfl rfl rfl rfl ?_))))
 obtain ⟨p1,hq3,h⟩:=zbL h
 refine zmU (As:=[zlg zbl zbk 76 v1 r2.1]) (zab [4] kr rfl) (zgH hq3) ?_
 rintro ⟨b5,hd1,hd2⟩ hv2
 have hkp:=h
 subst hv2
 have h:=hkp
 obtain ⟨r3,hq4,h⟩:=zbL h
 refine zft (vs:=[zP b5,.agg #[zI s1.Layout_Width,zI s1.Layout_Height,zI s1.Layout_Turn,zI s1.Layout_Every]]) hrd rfl dc rfl rfl rfl zBq (zqr (bx1:=b5) (x1:=p1) (x1_h0:=hd1) (x1_h1:=hd2) (l1:=(⟨s1.Layout_Width,s1.Layout_Height,s1.Layout_Turn,s1.Layout_Every⟩:zaO)) hq4) Splits.nil (.own (zab [6] kr rfl) (fun _ _ h=>sepL.one1.1 h) (.own (zab [7] kr rfl) (fun _ _ h=>sepL.one1.1 h) (.own (zab [8] kr rfl) (fun _ _ h=>sepL.one1.1 h) .nil))) ?_
 rintro v2
 refine zcs (L':=[zhG ((([]:List Nat):List Nat).map zib),cells b1 [.string s1.Text,zI s1.Layout_Width,zI s1.Layout_Height,zI s1.Layout_Turn,zI s1.Layout_Every,zI s1.Line,s1_h0.v] 26,cells b2 [.bool false] 4,cells b3 [zI s1.Layout_Width,zI s1.Layout_Height,zI s1.Layout_Turn,zI s1.Layout_Every] 23,emp,cells b4 (zr6 r2.2) 31,cells b5 [.string p1.told_title,hd1.v,hd2.v,.string p1.source] 76,zv7 hd1.v p1.told_lines,zv8 hd2.v p1.told_stanzas,zlg zff zfb 89 v2 r3.1]) (zab [0,1,2,3,4,5,6,7,8,9] kr rfl) (zyR 1 rfl (zaN rfl dc rfl rfl (zaN rfl dc rfl rfl (zyR 2 rfl (zyN (zaE (zyG (zyR 1 rfl (zaS rfl zbH (zaP ?_))))))))))
 refine zay ?_
 refine zyB rfl h (fun h => ?_) (fun h => ?_)
 ·
  refine zyG (zyR 1 rfl ?_)
  refine zpV (k:=9) rfl (fun hv3 => ?_)
  refine zaS rfl (znY underlying34 hv3) (zyR 1 rfl ?_)
  refine zyS (s:=51) rfl h (fun h => ?_) (fun h => ?_)
  ·
   refine zyR 1 rfl (zaS rfl zaL (zyR 1 rfl ?_))
   refine zaT (k:=2) (l':=[.bool ((r3.2:Int)==2)]) zog rfl rfl rfl rfl rfl (fun _ _=>rfl) rfl ?_
   refine zyN (zau (zaf ?_))
   cases h
   exact zdh (rs:=[.cell 2 4]) ([]:List Nat) () (.inl rfl) (zbq (k:=0) rfl) results3 (.cons (.cell zlc (k:=2) rfl rfl) .nil) rfl Splits.nil
  refine zyR 3 rfl ?_
  refine zaT (k:=2) (l':=[.bool false]) zog rfl rfl rfl rfl rfl (fun _ _=>rfl) rfl ?_
  refine zyN (zau (zaf ?_))
  cases h
  exact zdh (rs:=[.cell 2 4]) ([]:List Nat) () (.inl rfl) (zbq (k:=0) rfl) results3 (.cons (.cell zlc (k:=2) rfl rfl) .nil) rfl Splits.nil
 refine zal (zay ?_)
 obtain ⟨j1,hj1,h⟩:=zbT h
 refine za8 (β:=(List zap)×(List zBA)×Hd×Nat×Value) 2 rfl (fun b=>j1 b.1 b.2.1=some r) (fun b=>zec ([]:List Nat)) (fun b=>[(2,zP b2),(4,zP b3),(5,zI s1.Line),(6,s1_h0.v),(7,zP b5),(11,b.2.2.1.v),(12,zP b.2.2.2.1)]) (fun b=>[cells b2 [.bool false] 4,cells b3 [zI s1.Layout_Width,zI s1.Layout_Height,zI s1.Layout_Turn,zI s1.Layout_Every] 23,cells b5 [.string p1.told_title,hd1.v,hd2.v,.string p1.source] 76,zv7 hd1.v p1.told_lines,zv8 hd2.v p1.told_stanzas,zv1 b.2.2.1.v b.1,cells b.2.2.2.1 [b.2.2.2.2] 38,zv2 b.2.2.2.2 b.2.1,zhG ((([]:List Nat):List Nat).map zib)]) (fun cut => ?_) ?_
 ·
  refine zyG (zyR 1 rfl (zyH (zyR 1 rfl ?_)))
  obtain ⟨r4,hq5,h⟩:=zbL h
  refine zbK (v:=zI r4) (vs:=[zP b5]) hrd rfl dc rfl rfl rfl zzf (zej (bp1:=b5) (p1:=p1) (p1_h0:=hd1) (p1_h1:=hd2) hq5) (.own (zab [6] kr rfl) (fun _ _ h=>sepL.one1.1 h) (.own (zab [7] kr rfl) (fun _ _ h=>sepL.one1.1 h) (.own (zab [8] kr rfl) (fun _ _ h=>sepL.one1.1 h) .nil))) ?_
  obtain ⟨hg1,h⟩:=zbQ h
  refine zk6 (z:=ByteArray.empty) underlying38 zyc zBk zey rfl dc rfl hg1 (fun v4 => ?_)
  refine zbh zzZ rfl dc (fun b7 => ?_)
  refine zaT (k:=11) (l':=[v4]) znb rfl rfl rfl rfl rfl (fun _ h=>ztG h (k:=10) rfl) rfl ?_
  refine zyN (cut (zyG (zyR 1 rfl ?_)))
  obtain ⟨p2,hq6,h⟩:=zbL h
  refine zmU (As:=[zlg zff zfb 89 v2 r3.1]) (zab [9] kr rfl) (zgH hq6) ?_
  rintro ⟨b8,hd4⟩ hv4
  have hkp:=h
  subst hv4
  have h:=hkp
  obtain ⟨r5,hq7,h⟩:=zbL h
  refine zbK (v:=zI r5) (vs:=[zP b8]) hrd rfl dc rfl rfl rfl zBp (zjX (bb1:=b8) (b1:=p2) (b1_h0:=hd4) hq7) (.own (zab [12] kr rfl) (fun _ _ h=>sepL.one1.1 h) (.own (zab [13] kr rfl) (fun _ _ h=>sepL.one1.1 h) .nil)) ?_
  refine zyR 1 rfl (zyN (zaG (zer (enc:=zb9) (e:=43) (size:=6) ?_)))
  refine zbP (β:=Nat×(List zap)×(List zBA)×Int×Hd) (fun b=>za1 (fun _ _ _=>none) (zb8 s1 p1 j1 p2 r5) b.1 b.2.1 b.2.2.1 b.2.2.2.1=some r) (fun b=>zec ([]:List Nat)) (fun b=>[(2,zP b2),(4,zP b3),(5,zI s1.Line),(6,s1_h0.v),(7,zP b5),(9,zP b8),(11,b.2.2.2.2.v),(12,zP b7),(59,zI r5),(60,zI b.2.2.2.1)]) (fun b=>[cells b2 [.bool false] 4,cells b3 [zI s1.Layout_Width,zI s1.Layout_Height,zI s1.Layout_Turn,zI s1.Layout_Every] 23,cells b5 [.string p1.told_title,hd1.v,hd2.v,.string p1.source] 76,zv7 hd1.v p1.told_lines,zv8 hd2.v p1.told_stanzas,cells b8 [zI p2.layout_Width,zI p2.layout_Height,zI p2.layout_Turn,zI p2.layout_Every,hd4.v,zI p2.cost] 89,zgf zbp zbz 37 1 hd4.v p2.pages,zv1 b.2.2.2.2.v b.2.1,cells b7 [v4] 38,zv2 v4 b.2.2.1,zhG ((([]:List Nat):List Nat).map zib)]) (fun b=>b.1) (zcD,([]:List zap),(List.replicate (r4:Int).toNat ByteArray.empty:List zBA),0,Hd.nil) h rfl (zbf rfl) (zab [2,3,6,7,8,12,13,14,11,10,0] kr rfl) ?_
  rintro ⟨n1,rows4,lines4,x3,hd7⟩ h
  cases n1 with
  | zero=>exact zdO h
  | succ n1 =>
   obtain ⟨ag1,hag1⟩:∃ ag,ag=za1 (fun _ _ _=>none) (zb8 s1 p1 j1 p2 r5) n1:=⟨_,rfl⟩
   have h:zb8 s1 p1 j1 p2 r5 ag1 rows4 lines4 x3=some r:=by rw [hag1]; exact h
   unfold zb8 at h
   refine zyG (zaS rfl zbF (zyN (zaE ?_)))
   refine zyB rfl h (fun h => ?_) (fun h => ?_)
   ·
    refine zal (zay ?_)
    obtain ⟨j2,hj2,h⟩:=zbT h
    refine za8 (β:=(List zap)×(List zBA)×(List zap)×Int×Bool×Int×Bool×Int×Bool×Int×Int×Int×Bool×Hd×Hd) 0 rfl (fun b=>j2 b.1 b.2.1 b.2.2.1 b.2.2.2.1 b.2.2.2.2.1 b.2.2.2.2.2.1 b.2.2.2.2.2.2.1 b.2.2.2.2.2.2.2.1 b.2.2.2.2.2.2.2.2.1 b.2.2.2.2.2.2.2.2.2.1 b.2.2.2.2.2.2.2.2.2.2.1 b.2.2.2.2.2.2.2.2.2.2.2.1 b.2.2.2.2.2.2.2.2.2.2.2.2.1=some r) (fun b=>zec ([]:List Nat)) (fun b=>[(2,zP b2),(4,zP b3),(5,zI s1.Line),(6,s1_h0.v),(7,zP b5),(9,zP b8),(11,b.2.2.2.2.2.2.2.2.2.2.2.2.2.1.v),(12,zP b7),(59,zI r5),(60,zI x3),(72,b.2.2.2.2.2.2.2.2.2.2.2.2.2.2.v),(73,zI b.2.2.2.1),(74,.bool b.2.2.2.2.1),(77,b.2.2.2.2.2.2.2.2.2.2.2.2.2.2.v),(78,zI b.2.2.2.2.2.1),(79,.pointer (some ⟨b3,1,none⟩)),(80,zI s1.Layout_Height),(81,.bool b.2.2.2.2.2.2.1),(84,b.2.2.2.2.2.2.2.2.2.2.2.2.2.2.v),(87,zI b.2.2.2.2.2.2.2.1),(88,.bool b.2.2.2.2.2.2.2.2.1),(91,b.2.2.2.2.2.2.2.2.2.2.2.2.2.2.v),(92,b.2.2.2.2.2.2.2.2.2.2.2.2.2.2.v),(93,zI b.2.2.2.2.2.2.2.2.2.1),(94,zI b.2.2.2.2.2.2.2.2.2.2.1),(97,zI b.2.2.2.2.2.2.2.2.2.2.2.1),(98,.bool b.2.2.2.2.2.2.2.2.2.2.2.2.1)]) (fun b=>[cells b2 [.bool false] 4,cells b3 [zI s1.Layout_Width,zI s1.Layout_Height,zI s1.Layout_Turn,zI s1.Layout_Every] 23,cells b5 [.string p1.told_title,hd1.v,hd2.v,.string p1.source] 76,zv7 hd1.v p1.told_lines,zv8 hd2.v p1.told_stanzas,cells b8 [zI p2.layout_Width,zI p2.layout_Height,zI p2.layout_Turn,zI p2.layout_Every,hd4.v,zI p2.cost] 89,zgf zbp zbz 37 1 hd4.v p2.pages,zv1 b.2.2.2.2.2.2.2.2.2.2.2.2.2.1.v b.1,cells b7 [v4] 38,zv2 v4 b.2.1,zv1 b.2.2.2.2.2.2.2.2.2.2.2.2.2.2.v b.2.2.1,zhG ((([]:List Nat):List Nat).map zib)]) (fun cut => ?_) ?_
    ·
     refine cut (zaG (zyG (zyR 2 rfl (zyH (zyR 2 rfl ?_)))))
     obtain ⟨r6,hq8,h⟩:=zbL h
     refine zft (vs:=[zP b8,zI x3]) hrd rfl dc rfl rfl rfl zBo (zkH (bb1:=b8) (b1:=p2) (b1_h0:=hd4) hq8) Splits.nil (.own (zab [5] kr rfl) (fun _ _ h=>sepL.one1.1 h) (.own (zab [6] kr rfl) (fun _ _ h=>sepL.one1.1 h) .nil)) ?_
     rintro v5
     refine zbJ (k:=11) rfl (fun hd10 he1 => ?_)
     subst he1
     refine zyR 1 rfl (zaN rfl dc rfl rfl (zaN rfl dc rfl rfl (zyR 2 rfl (zyN (zaE (zyG (zyR 1 rfl (zaS rfl zbH (zyR 1 rfl ?_)))))))))
     refine zyS (s:=71) rfl h (fun h => ?_) (fun h => ?_)
     ·
      refine zyR 14 rfl ?_
      refine zyR 14 rfl ?_
      refine zyN (zba rfl (zyG ?_))
      refine zaT (k:=0) (l':=[.bool false]) zog rfl rfl rfl rfl rfl (fun _ _=>rfl) rfl ?_
      refine zyN (zau (zaf (zag (zaf (zaf (zag (zaf ?_)))))))
      cases h
      exact zdh (rs:=[.cell 2 4]) ([]:List Nat) () (.inl rfl) (zbq (k:=10) rfl) results3 (.cons (.cell zlc (k:=0) rfl rfl) .nil) rfl Splits.nil
     refine zyR 1 rfl (zdu (k:=11) rfl dc rfl rfl underlying37 (zaS rfl zbF (zyR 2 rfl ?_)))
     refine zyS (s:=76) rfl h (fun h => ?_) (fun h => ?_)
     ·
      refine zyR 14 rfl ?_
      refine zyR 9 rfl (zyN (zba rfl (zyG ?_)))
      refine zaT (k:=0) (l':=[.bool false]) zog rfl rfl rfl rfl rfl (fun _ _=>rfl) rfl ?_
      refine zyN (zau (zaf (zag (zaf (zaf (zag (zaf ?_)))))))
      cases h
      exact zdh (rs:=[.cell 2 4]) ([]:List Nat) () (.inl rfl) (zbq (k:=10) rfl) results3 (.cons (.cell zlc (k:=0) rfl rfl) .nil) rfl Splits.nil
     refine zyR 1 rfl (zdu (k:=11) rfl dc rfl rfl underlying37 (zaa zoF rfl dc rfl (show _=1 from rfl) (zaj (k:=1) zbW rfl dc rfl rfl rfl (zaS rfl zc1 (zyR 2 rfl ?_)))))
     refine zyS (s:=83) rfl h (fun h => ?_) (fun h => ?_)
     ·
      refine zyR 14 rfl ?_
      refine zyR 2 rfl (zyN (zba rfl (zyG ?_)))
      refine zaT (k:=0) (l':=[.bool false]) zog rfl rfl rfl rfl rfl (fun _ _=>rfl) rfl ?_
      refine zyN (zau (zaf (zag (zaf (zaf (zag (zaf ?_)))))))
      cases h
      exact zdh (rs:=[.cell 2 4]) ([]:List Nat) () (.inl rfl) (zbq (k:=10) rfl) results3 (.cons (.cell zlc (k:=0) rfl rfl) .nil) rfl Splits.nil
     refine zyR 1 rfl ?_
     obtain ⟨q1,hq9,h⟩:=zbL h
     refine za3 (k:=11) hq9 underlying37 zjq rfl dc rfl rfl rfl rfl (zaa zfB rfl dc rfl (show _=((0:Int).toNat)*6 from rfl) (zbD (i:=(0:Int).toNat) (j:=0) (k:=11) (q:=q1) zbW zbN rfl dc rfl rfl (zbo hq9) rfl dc rfl (zaS rfl zbF (zyR 2 rfl ?_))))
     refine zyS (s:=90) rfl h (fun h => ?_) (fun h => ?_)
     ·
      refine zyR 9 rfl (zyN (zba rfl (zyG ?_)))
      refine zaT (k:=0) (l':=[.bool false]) zog rfl rfl rfl rfl rfl (fun _ _=>rfl) rfl ?_
      refine zyN (zau (zaf (zag (zaf (zaf (zag (zaf ?_)))))))
      cases h
      exact zdh (rs:=[.cell 2 4]) ([]:List Nat) () (.inl rfl) (zbq (k:=10) rfl) results3 (.cons (.cell zlc (k:=0) rfl rfl) .nil) rfl Splits.nil
     refine zyR 2 rfl (zdu (k:=11) rfl dc rfl rfl underlying37 ?_)
     obtain ⟨hg2,h⟩:=zbQ h
     refine zaS rfl (zce (r:=(r6.1.length:Int) - 1) (IntWalk.i64_in _ hg2)) ?_
     obtain ⟨q2,hq10,h⟩:=zbL h
     refine za3 (k:=11) hq10 underlying37 zjq rfl dc rfl rfl rfl rfl (zaa zfB rfl dc rfl (show _=(((r6.1.length:Int) - 1:Int).toNat)*6 from rfl) (zbD (i:=((r6.1.length:Int) - 1:Int).toNat) (j:=0) (k:=11) (q:=q2) zbW zbN rfl dc rfl rfl (zbo hq10) rfl dc rfl (zaS rfl zbF (zyR 1 rfl (zyN ?_)))))
     refine zyB rfl h (fun h => ?_) (fun h => ?_)
     ·
      refine zyG ?_
      refine zaT (k:=0) (l':=[.bool false]) zog rfl rfl rfl rfl rfl (fun _ _=>rfl) rfl ?_
      refine zyN (zau (zaf (zag (zaf (zaf (zag (zaf ?_)))))))
      cases h
      exact zdh (rs:=[.cell 2 4]) ([]:List Nat) () (.inl rfl) (zbq (k:=10) rfl) results3 (.cons (.cell zlc (k:=0) rfl rfl) .nil) rfl Splits.nil
     refine zal (zay ?_)
     obtain ⟨j3,hj3,h⟩:=zbT h
     refine za8 (β:=(List zBA)) 0 rfl (fun b=>j3 b=some r) (fun b=>zec ([]:List Nat)) (fun b=>[(2,zP b2),(4,zP b3),(5,zI s1.Line),(6,s1_h0.v),(7,zP b5),(9,zP b8),(11,hd7.v),(12,zP b7),(14,hd10.v),(59,zI r5),(60,zI x3),(72,hd10.v),(73,zI (r6.1.length:Int)),(74,.bool (decide (((r6.1.length:Int):Int)<1))),(77,hd10.v),(78,zI (r6.1.length:Int)),(79,.pointer (some ⟨b3,1,none⟩)),(80,zI s1.Layout_Height),(81,.bool (decide ((s1.Layout_Height:Int)<(r6.1.length:Int)))),(84,hd10.v),(85,.pointer (some ⟨zdz hd10.v,(0:Int).toNat*6,none⟩)),(86,.pointer (some ⟨zdz hd10.v,((0:Int).toNat)*6,none⟩)),(87,zI q1.Line),(88,.bool (decide ((q1.Line:Int)<0))),(91,hd10.v),(92,hd10.v),(93,zI (r6.1.length:Int)),(94,zI ((r6.1.length:Int) - 1)),(95,.pointer (some ⟨zdz hd10.v,((r6.1.length:Int) - 1:Int).toNat*6,none⟩)),(96,.pointer (some ⟨zdz hd10.v,(((r6.1.length:Int) - 1:Int).toNat)*6,none⟩)),(97,zI q2.Line),(98,.bool (decide ((q2.Line:Int)<0)))]) (fun b=>[cells b2 [.bool false] 4,cells b3 [zI s1.Layout_Width,zI s1.Layout_Height,zI s1.Layout_Turn,zI s1.Layout_Every] 23,cells b5 [.string p1.told_title,hd1.v,hd2.v,.string p1.source] 76,zv7 hd1.v p1.told_lines,zv8 hd2.v p1.told_stanzas,cells b8 [zI p2.layout_Width,zI p2.layout_Height,zI p2.layout_Turn,zI p2.layout_Every,hd4.v,zI p2.cost] 89,zgf zbp zbz 37 1 hd4.v p2.pages,zv1 hd7.v rows4,cells b7 [v4] 38,zv2 v4 b,zv1 hd10.v r6.1,zhG ((([]:List Nat):List Nat).map zib)]) (fun cut => ?_) ?_
     ·
      refine cut (zyG (zyR 1 rfl (zdu (k:=11) rfl dc rfl rfl underlying37 (zyR 1 rfl (zyN (zaG ?_))))))
      refine zbP (β:=Nat×(List zBA)×Int) (fun b=>za1 (fun _ _=>none) (zb7 p1 r6 j3) b.1 b.2.1 b.2.2=some r) (fun b=>zec ([]:List Nat)) (fun b=>[(2,zP b2),(4,zP b3),(5,zI s1.Line),(6,s1_h0.v),(7,zP b5),(9,zP b8),(11,hd7.v),(12,zP b7),(14,hd10.v),(59,zI r5),(60,zI x3),(72,hd10.v),(73,zI (r6.1.length:Int)),(74,.bool (decide (((r6.1.length:Int):Int)<1))),(77,hd10.v),(78,zI (r6.1.length:Int)),(79,.pointer (some ⟨b3,1,none⟩)),(80,zI s1.Layout_Height),(81,.bool (decide ((s1.Layout_Height:Int)<(r6.1.length:Int)))),(84,hd10.v),(85,.pointer (some ⟨zdz hd10.v,(0:Int).toNat*6,none⟩)),(86,.pointer (some ⟨zdz hd10.v,((0:Int).toNat)*6,none⟩)),(87,zI q1.Line),(88,.bool (decide ((q1.Line:Int)<0))),(91,hd10.v),(92,hd10.v),(93,zI (r6.1.length:Int)),(94,zI ((r6.1.length:Int) - 1)),(95,.pointer (some ⟨zdz hd10.v,((r6.1.length:Int) - 1:Int).toNat*6,none⟩)),(96,.pointer (some ⟨zdz hd10.v,(((r6.1.length:Int) - 1:Int).toNat)*6,none⟩)),(97,zI q2.Line),(98,.bool (decide ((q2.Line:Int)<0))),(100,hd10.v),(101,zI (r6.1.length:Int)),(102,zI b.2.2)]) (fun b=>[cells b2 [.bool false] 4,cells b3 [zI s1.Layout_Width,zI s1.Layout_Height,zI s1.Layout_Turn,zI s1.Layout_Every] 23,cells b5 [.string p1.told_title,hd1.v,hd2.v,.string p1.source] 76,zv7 hd1.v p1.told_lines,zv8 hd2.v p1.told_stanzas,cells b8 [zI p2.layout_Width,zI p2.layout_Height,zI p2.layout_Turn,zI p2.layout_Every,hd4.v,zI p2.cost] 89,zgf zbp zbz 37 1 hd4.v p2.pages,zv1 hd7.v rows4,cells b7 [v4] 38,zv2 v4 b.2.1,zv1 hd10.v r6.1,zhG ((([]:List Nat):List Nat).map zib)]) (fun b=>b.1) (zcD,lines4,0) h rfl (zbf rfl) (zab [0,1,2,3,4,5,6,7,8,9,11,10] kr rfl) ?_
      rintro ⟨n2,lines9,x16⟩ h
      cases n2 with
      | zero=>exact zdO h
      | succ n2 =>
       obtain ⟨ag2,hag2⟩:∃ ag,ag=za1 (fun _ _=>none) (zb7 p1 r6 j3) n2:=⟨_,rfl⟩
       have h:zb7 p1 r6 j3 ag2 lines9 x16=some r:=by rw [hag2]; exact h
       unfold zb7 at h
       refine zyG (zaS rfl zbF (zyN (zaE ?_)))
       refine zyB rfl h (fun h => ?_) (fun h => ?_)
       ·
        refine zal (zay ?_)
        obtain ⟨j4,hj4,h⟩:=zbT h
        refine za8 (β:=(List zBA)) 0 rfl (fun b=>j4 b=some r) (fun b=>zec ([]:List Nat)) (fun b=>[(2,zP b2),(4,zP b3),(5,zI s1.Line),(6,s1_h0.v),(7,zP b5),(9,zP b8),(11,hd7.v),(12,zP b7),(14,hd10.v),(59,zI r5),(60,zI x3),(72,hd10.v),(73,zI (r6.1.length:Int)),(74,.bool (decide (((r6.1.length:Int):Int)<1))),(77,hd10.v),(78,zI (r6.1.length:Int)),(79,.pointer (some ⟨b3,1,none⟩)),(80,zI s1.Layout_Height),(81,.bool (decide ((s1.Layout_Height:Int)<(r6.1.length:Int)))),(84,hd10.v),(85,.pointer (some ⟨zdz hd10.v,(0:Int).toNat*6,none⟩)),(86,.pointer (some ⟨zdz hd10.v,((0:Int).toNat)*6,none⟩)),(87,zI q1.Line),(88,.bool (decide ((q1.Line:Int)<0))),(91,hd10.v),(92,hd10.v),(93,zI (r6.1.length:Int)),(94,zI ((r6.1.length:Int) - 1)),(95,.pointer (some ⟨zdz hd10.v,((r6.1.length:Int) - 1:Int).toNat*6,none⟩)),(96,.pointer (some ⟨zdz hd10.v,(((r6.1.length:Int) - 1:Int).toNat)*6,none⟩)),(97,zI q2.Line),(98,.bool (decide ((q2.Line:Int)<0))),(100,hd10.v),(101,zI (r6.1.length:Int)),(102,zI x16)]) (fun b=>[cells b2 [.bool false] 4,cells b3 [zI s1.Layout_Width,zI s1.Layout_Height,zI s1.Layout_Turn,zI s1.Layout_Every] 23,cells b5 [.string p1.told_title,hd1.v,hd2.v,.string p1.source] 76,zv7 hd1.v p1.told_lines,zv8 hd2.v p1.told_stanzas,cells b8 [zI p2.layout_Width,zI p2.layout_Height,zI p2.layout_Turn,zI p2.layout_Every,hd4.v,zI p2.cost] 89,zgf zbp zbz 37 1 hd4.v p2.pages,zv1 hd7.v rows4,cells b7 [v4] 38,zv2 v4 b,zv1 hd10.v r6.1,zhG ((([]:List Nat):List Nat).map zib)]) (fun cut => ?_) ?_
        ·
         refine cut (zaG (zyG ?_))
         obtain ⟨q3,hq11,h⟩:=zbL h
         refine za3 (k:=10) hq11 underlying37 zjq rfl dc rfl rfl rfl rfl (zgr (i:=(x16:Int).toNat) (j:=0) (k:=10) (q:=q3) (cs:=(zr4 q3)) zoo zbN rfl dc rfl rfl (zbo hq11) rfl rfl rfl ?_)
         refine zbh zr8 rfl dc (fun b9 => ?_)
         refine zaZ (k:=12) (vs:=(zr4 q3)) (l':=(zr4 q3)) zjq rfl rfl rfl rfl rfl (show _≤_ by simp) rfl rfl ?_
         refine zyN (zaE (zaE ?_))
         obtain ⟨r7,hq12,h⟩:=zbL h
         refine zbB 4 [(0,106,zP b9),(1,107,zI q3.Line),(2,108,zP b5),(3,109,zI r7)] mixed kr kr dc (by rfl) kr kr (zad ?_ (zad ?_ (zyP 1 2 rfl (zad ?_ DrawPre.nil)))) ?_
         · exact fun D n d c u i=>zaa zfB rfl dc (zbd (by rfl) rfl) (show _=0 from rfl) (zar 0 u i)
         · exact fun D n d c u i=>zaj (k:=12) zbW rfl dc (zam 0 u d) rfl rfl (zar 1 u i)
         · exact fun D n d c u i=>zbK (v:=zI r7) (vs:=[zP b5]) hrd rfl dc rfl (evL.cons (zam 2 u d) evL.nil) rfl zzf (zej (bp1:=b5) (p1:=p1) (p1_h0:=hd1) (p1_h1:=hd2) hq12) (.own (zab [2] kr rfl) (fun _ _ h=>sepL.one1.1 h) (.own (zab [3] kr rfl) (fun _ _ h=>sepL.one1.1 h) (.own (zab [4] kr rfl) (fun _ _ h=>sepL.one1.1 h) .nil))) (zar 3 u i)
         refine zaS rfl zbG (zyN ?_)
         refine zyB rfl h (fun h => ?_) (fun h => ?_)
         ·
          refine zyG ?_
          refine zaT (k:=0) (l':=[.bool false]) zog rfl rfl rfl rfl rfl (fun _ _=>rfl) rfl ?_
          refine zyN (zau (zaf (zag (zaf (zaf (zag (zaf (zag (zaf (zaf (zag (zaf ?_))))))))))))
          cases h
          exact zdh (rs:=[.cell 2 4]) ([]:List Nat) () (.inl rfl) (zbq (k:=11) rfl) results3 (.cons (.cell zlc (k:=0) rfl rfl) .nil) rfl Splits.nil
         refine zal (zay (zyG (zaa zfB rfl dc rfl (show _=0 from rfl) (zaj (k:=12) zbW rfl dc rfl rfl rfl (zaS rfl zbG (zyN ?_))))))
         refine zyB rfl h (fun h => ?_) (fun h => ?_)
         ·
          obtain ⟨q4,hq13,h⟩:=zbL h
          obtain ⟨hg3,h⟩:=zbQ h
          refine zbB 7 [(0,114,v4),(1,115,zP b9),(2,116,zI q3.Line),(3,117,.pointer (some ⟨zdz v4,(q3.Line:Int).toNat*1,none⟩)),(4,118,.string q4),(5,119,.pointer (some ⟨b9,5,none⟩)),(6,120,.string q3.Text)] mixed kr kr dc (by rfl) kr kr (zad ?_ (zad ?_ (zad ?_ (zad ?_ (zad ?_ (zad ?_ (zad ?_ DrawPre.nil))))))) ?_
          · exact fun D n d c u i=>zaj (k:=8) znd rfl dc (zbd (by rfl) rfl) rfl rfl (zar 0 u i)
          · exact fun D n d c u i=>zaa zfB rfl dc (zbd (by rfl) rfl) (show _=0 from rfl) (zar 1 u i)
          · exact fun D n d c u i=>zaj (k:=12) zbW rfl dc (zam 1 u d) rfl rfl (zar 2 u i)
          · exact fun D n d c u i=>za3 (k:=9) hq13 underlying38 zof rfl dc (zam 0 u d) (zam 2 u d) rfl rfl (zar 3 u i)
          · exact fun D n d c u i=>zbD (i:=(q3.Line:Int).toNat) (j:=0) (k:=9) (q:=q4) zhk zey rfl dc (zam 3 u d) rfl (zbo hq13) rfl dc rfl (zar 4 u i)
          · exact fun D n d c u i=>zaa zoB rfl dc (zbd (by rfl) rfl) (show _=5 from rfl) (zar 5 u i)
          · exact fun D n d c u i=>zaj (k:=12) zhk rfl dc (zam 5 u d) rfl rfl (zar 6 u i)
          refine zaS rfl (zgX hg3) (za3 (k:=9) hq13 underlying38 zof rfl dc rfl rfl rfl rfl ?_)
          refine zex (i:=(q3.Line:Int).toNat) (j:=0) (k:=9) (q:=q4) (q':=q4++q3.Text) zof zey rfl rfl rfl rfl (zbo hq13) rfl dc rfl (fun _ _=>rfl) ?_
          refine zaP (zae ?_)
          exact zak (lines9.set (q3.Line:Int).toNat (q4++q3.Text)) h rfl (zbf rfl) (zab [0,1,2,3,4,5,6,7,8,9,10,11] kr rfl)
         refine zal (zae ?_)
         exact zak lines9 h rfl (zbf rfl) (zab [0,1,2,3,4,5,6,7,8,9,10,11] kr rfl)
        rintro lines10 h
        rw [hj4] at h
        refine zas ?_
        obtain ⟨hg4,h⟩:=zbQ h
        refine zaS rfl (zbb (r:=x16+1) (IntWalk.i64_in _ hg4)) (zyR 1 rfl (zaP ?_))
        subst hag2
        exact zbr (n2,lines10,x16+1) h (Nat.lt_succ_self _) rfl (zbf rfl) (zab [0,1,2,3,4,5,6,7,8,9,10,11] kr rfl)
       refine zbu (zaq (zaq (zaJ ?_)))
       exact zak lines9 h rfl (zbf rfl) (zab [0,1,2,3,4,5,6,7,8,9,10,11] kr rfl)
     rintro lines6 h
     rw [hj3] at h
     refine zas (zyR 2 rfl ?_)
     refine zhx (k:=10) rfl (fun hw1 => ?_)
     obtain ⟨hg5,h⟩:=zbQ h
     refine zq0 (k:=7) (k2:=10) underlying37 zuf zbN zeW hw1 rfl dc rfl rfl rfl rfl hg5 (fun v6 => ?_)
     refine zbJ (k:=7) rfl (fun hd11 he2 => ?_)
     subst he2
     refine zyR 1 rfl (zaP (zae ?_))
     exact zak (rows4++r6.1,lines6,r6.1,(r6.1.length:Int),decide (((r6.1.length:Int):Int)<1),(r6.1.length:Int),decide ((s1.Layout_Height:Int)<(r6.1.length:Int)),q1.Line,decide ((q1.Line:Int)<0),(r6.1.length:Int),(r6.1.length:Int) - 1,q2.Line,decide ((q2.Line:Int)<0),hd11,hd10) h rfl (zbf rfl) (zab [0,1,2,3,4,5,6,7,8,9,10,11] kr rfl)
    rintro ⟨rows5,lines5,l1,x4,x5,x6,x7,x8,x9,x10,x11,x12,x13,hd8,hd9⟩ h
    rw [hj2] at h
    refine zas ?_
    obtain ⟨hg6,h⟩:=zbQ h
    refine zaS rfl (zbb (r:=x3+1) (IntWalk.i64_in _ hg6)) (zyR 1 rfl (zaP ?_))
    subst hag1
    exact zbr (n1,rows5,lines5,x3+1,hd8) h (Nat.lt_succ_self _) rfl (zbf rfl) (zab [0,1,2,3,4,5,6,7,8,9,11] kr rfl)
   refine zbu (zaq (zaq (zaJ ?_)))
   exact zak (rows4,lines4,hd7,b7,v4) h rfl (zbf rfl) (zab [0,1,2,3,4,7,8,9,10] kr rfl)
 rintro ⟨rows1,lines1,hd3,b6,v3⟩ h
 rw [hj1] at h
 obtain ⟨j5,hj5,h⟩:=zbT h
 refine za8 (β:=(List Nat)) 0 rfl (fun b=>j5=some r) (fun b=>zec b) (fun b=>[(2,zP b2),(4,zP b3),(5,zI s1.Line),(6,s1_h0.v),(7,zP b5),(11,hd3.v)]) (fun b=>[cells b2 [.bool false] 4,cells b3 [zI s1.Layout_Width,zI s1.Layout_Height,zI s1.Layout_Turn,zI s1.Layout_Every] 23,cells b5 [.string p1.told_title,hd1.v,hd2.v,.string p1.source] 76,zv7 hd1.v p1.told_lines,zv8 hd2.v p1.told_stanzas,zv1 hd3.v rows1,zhG ((b:List Nat).map zib)]) (fun cut => ?_) ?_
 ·
  refine cut (zyG (zyR 1 rfl ?_))
  obtain ⟨r8,hq14,h⟩:=zbL h
  refine zft (vs:=[zP b5]) hrd rfl dc rfl rfl rfl zxK (zgk (bp1:=b5) (p1:=p1) (p1_h0:=hd1) (p1_h1:=hd2) hq14) Splits.nil (.own (zab [2] kr rfl) (fun _ _ h=>sepL.one1.1 h) (.own (zab [3] kr rfl) (fun _ _ h=>sepL.one1.1 h) (.own (zab [4] kr rfl) (fun _ _ h=>sepL.one1.1 h) .nil))) ?_
  rintro b10
  refine zcs (L':=[cells b2 [.bool false] 4,cells b3 [zI s1.Layout_Width,zI s1.Layout_Height,zI s1.Layout_Turn,zI s1.Layout_Every] 23,cells b5 [.string p1.told_title,hd1.v,hd2.v,.string p1.source] 76,zv7 hd1.v p1.told_lines,zv8 hd2.v p1.told_stanzas,zv1 hd3.v rows1,cells b6 [v3] 38,zv2 v3 lines1,zhG ((([]:List Nat):List Nat).map zib),cells b10 [zP b5] 28]) (zab [0,1,2,3,4,5,6,7,8,9] kr rfl) (zyN (zaG ?_))
  obtain ⟨its1,hq15,h⟩:=zbL h
  obtain ⟨ek1,hek1,h⟩:=zbT h
  obtain ⟨dn1,hdn1,h⟩:=zbT h
  refine zmY (α:=Int×zax) (β:=Unit) (γ:=Unit) (δ:=Nat) (ps:=[130,131]) hrd Ro.nil rfl zxI (zfw hq15) (fun pre b=>∀ post,its1=pre++post→zcQ dn1 (zbO lines1 ek1) post=some r) (fun pre b=>[cells b2 [.bool false] 4,cells b3 [zI s1.Layout_Width,zI s1.Layout_Height,zI s1.Layout_Turn,zI s1.Layout_Every] 23,zv1 hd3.v rows1,cells b6 [v3] 38,zv2 v3 lines1]) (fun c pre g=>(fun g=>c=.ret∧ek1=some r) g) (fun c pre g=>(fun g=>[cells b2 [.bool false] 4,cells b3 [zI s1.Layout_Width,zI s1.Layout_Height,zI s1.Layout_Turn,zI s1.Layout_Every] 23,zv1 hd3.v rows1,cells b6 [v3] 38,zv2 v3 lines1]) g) (fun pre x b j=>[(2,zP b2),(4,zP b3),(5,zI s1.Line),(6,s1_h0.v),(7,zP b5),(11,hd3.v),(12,zP b6),(129,.func (.func 32) #[] #[zP b10]),(18,zI x.1),(19,zP j)]) (fun pre x b j=>[cells b2 [.bool false] 4,cells b3 [zI s1.Layout_Width,zI s1.Layout_Height,zI s1.Layout_Turn,zI s1.Layout_Every] 23,zv1 hd3.v rows1,cells b6 [v3] 38,zv2 v3 lines1,cells j (zr1 x.2) 50]) () (fun post e=>by rw [List.nil_append] at e; subst e; exact h) (zab [0,1,5,6,7] kr rfl) (.own (As:=[cells b10 [zP b5] 28]) (zab [9] kr rfl) (fun _ _ h=>sepL.one1.1 h) (.own (As:=[cells b5 [.string p1.told_title,hd1.v,hd2.v,.string p1.source] 76]) (zab [2] kr rfl) (fun _ _ h=>sepL.one1.1 h) (.own (As:=[zv7 hd1.v p1.told_lines]) (zab [3] kr rfl) (fun _ _ h=>sepL.one1.1 h) (.own (As:=[zv8 hd2.v p1.told_stanzas]) (zab [4] kr rfl) (fun _ _ h=>sepL.one1.1 h) .nil)))) (fun _=>rfl) dc ?_ ?_ ?_ ?_
  ·
   rintro lp rc pre x17 post _ w1 K1 hxs3 hext hro hinv
   have hrd:=hrd.ext hext
   refine zyG (zyR 1 rfl (zyN (zas ?_)))
   refine zbh zoU rfl dc (fun b11 => ?_)
   refine zaZ (k:=5) (vs:=(zr1 x17.2)) (l':=(zr1 x17.2)) zjH rfl rfl rfl rfl rfl (show _≤_ by simp) rfl rfl ?_
   refine zaP ?_
   exact fun a w ha hw=>⟨b11,(zbf rfl) _ _ _ ha,hw.weaken (zab [0,1,2,3,4,5] kr rfl)⟩
  ·
   rintro lp rc pre x17 post3 _ jb1 w1 K1 hxs3 hext hro hinv
   have hrd:=hrd.ext hext
   have h:=hinv (x17::post3) hxs3
   obtain ⟨ag3,hag3⟩:∃ ag,ag=zcQ dn1 (zbO lines1 ek1) post3:=⟨_,rfl⟩
   have h:zbO lines1 ek1 x17 ag3=some r:=by rw [hag3]; exact h
   unfold zbO at h
   refine zaG (zaE ?_)
   obtain ⟨q5,hq16,h⟩:=zbL h
   refine zbB 6 [(0,132,v3),(1,133,zI x17.1),(2,134,.pointer (some ⟨zdz v3,(x17.1:Int).toNat*1,none⟩)),(3,135,.string q5),(4,136,zP jb1),(5,137,.string x17.2.Text)] mixed kr kr dc (by rfl) kr kr (zad ?_ (zyP 1 1 rfl (zad ?_ (zad ?_ (zad ?_ (zad ?_ DrawPre.nil)))))) ?_
   · exact fun D n d c u i=>zaj (k:=3) znd rfl dc (zbd (by rfl) rfl) rfl rfl (zar 0 u i)
   · exact fun D n d c u i=>za3 (k:=4) hq16 underlying38 zof rfl dc (zam 0 u d) (zam 1 u d) rfl rfl (zar 2 u i)
   · exact fun D n d c u i=>zbD (i:=(x17.1:Int).toNat) (j:=0) (k:=4) (q:=q5) zhk zey rfl dc (zam 2 u d) rfl (zbo hq16) rfl dc rfl (zar 3 u i)
   · exact fun D n d c u i=>zaa ziN rfl dc (zbd (by rfl) rfl) (show _=0 from rfl) (zar 4 u i)
   · exact fun D n d c u i=>zaj (k:=5) zhk rfl dc (zam 4 u d) rfl rfl (zar 5 u i)
   refine zaS rfl zgW (zyN ?_)
   refine zyB rfl h (fun h => ?_) (fun h => ?_)
   ·
    refine zyG ?_
    refine zaT (k:=0) (l':=[.bool false]) zog rfl rfl rfl rfl rfl (fun _ _=>rfl) rfl ?_
    refine zyN (zau (zag ?_))
    exact zdx () (show _∧_ from ⟨rfl,h⟩) (zab [0,1,2,3,4] kr rfl)
   refine zal (zae ?_)
   exact zcN () (fun post2 e2=>by have e9:=zds hxs3 e2; subst e9; subst hag3; exact h) (zab [0,1,2,3,4] kr rfl)
  ·
   rintro dm1 _ hinv
   have h:dn1=some r:=hinv [] (List.append_nil _).symm
   rw [hdn1] at h
   refine zew (k:=15) (j:=8) rfl rfl dc ?_
   refine zae ?_
   exact zak (dm1::([]:List Nat)) h rfl (zbf rfl) (zab [10,11,2,3,4,12,8] kr rfl)
  rintro dm1 c pre x17 post g hxs hX
  obtain ⟨rfl,h⟩:=(show _∧_ from hX)
  rw [hek1] at h
  refine zmX (k:=15) (j:=8) rfl rfl dc ?_
  refine zau (zag (zaf ?_))
  cases h
  exact zdh (rs:=[.cell 2 4]) (dm1::([]:List Nat)) () (.inl rfl) (zbq (k:=8) rfl) results3 (.cons (.cell zlc (k:=10) rfl rfl) .nil) rfl Splits.nil
 rintro ds1 h
 rw [hj5] at h
 obtain ⟨j6,hj6,h⟩:=zbT h
 refine za8 (β:=Unit) 1 rfl (fun b=>j6=some r) (fun b=>zec ds1) (fun b=>[(2,zP b2),(4,zP b3),(5,zI s1.Line),(6,s1_h0.v),(7,zP b5)]) (fun b=>[cells b2 [.bool false] 4,cells b3 [zI s1.Layout_Width,zI s1.Layout_Height,zI s1.Layout_Turn,zI s1.Layout_Every] 23,cells b5 [.string p1.told_title,hd1.v,hd2.v,.string p1.source] 76,zv7 hd1.v p1.told_lines,zv8 hd2.v p1.told_stanzas,zhG ((ds1:List Nat).map zib)]) (fun cut => ?_) ?_
 ·
  refine zyG (zyR 1 rfl ?_)
  obtain ⟨r9,hq17,h⟩:=zbL h
  refine zbK (v:=.string r9) (vs:=[zP b5]) hrd rfl dc rfl rfl rfl zAW (zjR (bp1:=b5) (p1:=p1) (p1_h0:=hd1) (p1_h1:=hd2) hq17) (.own (zab [2] kr rfl) (fun _ _ h=>sepL.one1.1 h) (.own (zab [3] kr rfl) (fun _ _ h=>sepL.one1.1 h) (.own (zab [4] kr rfl) (fun _ _ h=>sepL.one1.1 h) .nil))) ?_
  refine zyR 1 rfl ?_
  refine zhx (k:=5) rfl (fun hw2 => ?_)
  obtain ⟨r10,hq18,h⟩:=zbL h
  refine zft (vs:=[.string r9,hd3.v]) hrd rfl dc rfl rfl rfl zAX (zph hw2 hq18) Splits.nil (.own (As:=[zv1 hd3.v rows1]) (zab [5] kr rfl) (fun _ _ h=>zhH zbN (sepL.one1.1 h)) .nil) ?_
  rintro v7
  refine zcs (L':=[cells b2 [.bool false] 4,cells b3 [zI s1.Layout_Width,zI s1.Layout_Height,zI s1.Layout_Turn,zI s1.Layout_Every] 23,cells b5 [.string p1.told_title,hd1.v,hd2.v,.string p1.source] 76,zv7 hd1.v p1.told_lines,zv8 hd2.v p1.told_stanzas,zv1 hd3.v rows1,zhG ((ds1:List Nat).map zib),zlg zbl zbk 76 v7 r10.1]) (zab [0,1,2,3,4,5,6,7] kr rfl) (zyR 1 rfl (zaN rfl dc rfl rfl (zaN rfl dc rfl rfl (zyR 2 rfl (zyN (cut (zyG (zyR 1 rfl (zaS rfl zbH (zyR 1 rfl ?_))))))))))
  refine zyS (s:=148) rfl h (fun h => ?_) (fun h => ?_)
  ·
   refine zyR 1 rfl ?_
   obtain ⟨r11,hq19,h⟩:=zbL h
   refine zbK (v:=.string r11) (vs:=[zP b5]) hrd rfl dc rfl rfl rfl zAV (zjS (bp1:=b5) (p1:=p1) (p1_h0:=hd1) (p1_h1:=hd2) hq19) (.own (zab [2] kr rfl) (fun _ _ h=>sepL.one1.1 h) (.own (zab [3] kr rfl) (fun _ _ h=>sepL.one1.1 h) (.own (zab [4] kr rfl) (fun _ _ h=>sepL.one1.1 h) .nil))) ?_
   refine zbC rfl dc rfl underlying9 (zaS rfl zbM (zyR 2 rfl ?_))
   refine zyS (s:=154) rfl h (fun h => ?_) (fun h => ?_)
   ·
    refine zyR 9 rfl (zyN (zba rfl (zyG ?_)))
    refine zaT (k:=0) (l':=[.bool false]) zog rfl rfl rfl rfl rfl (fun _ _=>rfl) rfl ?_
    refine zyN (zau (zaf ?_))
    cases h
    exact zdh (rs:=[.cell 2 4]) ds1 () (.inl rfl) (zbq (k:=6) rfl) results3 (.cons (.cell zlc (k:=0) rfl rfl) .nil) rfl Splits.nil
   refine zyR 1 rfl (zaS rfl zaL (zyR 1 rfl ?_))
   refine zyS (s:=157) rfl h (fun h => ?_) (fun h => ?_)
   ·
    refine zyR 2 rfl ?_
    obtain ⟨p3,hq20,h⟩:=zbL h
    refine zmU (As:=[zlg zbl zbk 76 v7 r10.1]) (zab [7] kr rfl) (zgH hq20) ?_
    rintro ⟨b12,hd12,hd13⟩ hv5
    have hkp:=h
    subst hv5
    have h:=hkp
    obtain ⟨r12,hq21,h⟩:=zbL h
    refine zbK (v:=.bool r12) (vs:=[zP b12,zP b5]) hrd rfl dc rfl rfl rfl zzv (zhI (bp1:=b12) (p1:=p3) (p1_h0:=hd12) (p1_h1:=hd13) (bq1:=b5) (q1:=p1) (q1_h0:=hd1) (q1_h1:=hd2) hq21) (.own (zab [8] kr rfl) (fun _ _ h=>sepL.one1.1 h) (.own (zab [9] kr rfl) (fun _ _ h=>sepL.one1.1 h) (.own (zab [10] kr rfl) (fun _ _ h=>sepL.one1.1 h) (.own (zab [2] kr rfl) (fun _ _ h=>sepL.one1.1 h) (.own (zab [3] kr rfl) (fun _ _ h=>sepL.one1.1 h) (.own (zab [4] kr rfl) (fun _ _ h=>sepL.one1.1 h) .nil)))))) ?_
    refine zdt rfl dc rfl zct (zyR 2 rfl (zyN ?_))
    refine zyB rfl h (fun h => ?_) (fun h => ?_)
    ·
     refine zyG ?_
     refine zaT (k:=0) (l':=[.bool false]) zog rfl rfl rfl rfl rfl (fun _ _=>rfl) rfl ?_
     refine zyN (zau (zaf ?_))
     cases h
     exact zdh (rs:=[.cell 2 4]) ds1 () (.inl rfl) (zbq (k:=6) rfl) results3 (.cons (.cell zlc (k:=0) rfl rfl) .nil) rfl Splits.nil
    refine zal ?_
    exact zak () h rfl (zbf rfl) (zab [0,1,2,3,4,6] kr rfl)
   refine zyR 6 rfl (zyN (zaM rfl (zal ?_)))
   exact zak () h rfl (zbf rfl) (zab [0,1,2,3,4,6] kr rfl)
  refine zyR 7 rfl (zaS rfl zaL (zyR 1 rfl ?_))
  refine zyS (s:=157) rfl h (fun h => ?_) (fun h => ?_)
  ·
   refine zyR 2 rfl ?_
   obtain ⟨p4,hq22,h⟩:=zbL h
   refine zmU (As:=[zlg zbl zbk 76 v7 r10.1]) (zab [7] kr rfl) (zgH hq22) ?_
   rintro ⟨b13,hd14,hd15⟩ hv6
   have hkp:=h
   subst hv6
   have h:=hkp
   obtain ⟨r13,hq23,h⟩:=zbL h
   refine zbK (v:=.bool r13) (vs:=[zP b13,zP b5]) hrd rfl dc rfl rfl rfl zzv (zhI (bp1:=b13) (p1:=p4) (p1_h0:=hd14) (p1_h1:=hd15) (bq1:=b5) (q1:=p1) (q1_h0:=hd1) (q1_h1:=hd2) hq23) (.own (zab [8] kr rfl) (fun _ _ h=>sepL.one1.1 h) (.own (zab [9] kr rfl) (fun _ _ h=>sepL.one1.1 h) (.own (zab [10] kr rfl) (fun _ _ h=>sepL.one1.1 h) (.own (zab [2] kr rfl) (fun _ _ h=>sepL.one1.1 h) (.own (zab [3] kr rfl) (fun _ _ h=>sepL.one1.1 h) (.own (zab [4] kr rfl) (fun _ _ h=>sepL.one1.1 h) .nil)))))) ?_
   refine zdt rfl dc rfl zct (zyR 2 rfl (zyN ?_))
   refine zyB rfl h (fun h => ?_) (fun h => ?_)
   ·
    refine zyG ?_
    refine zaT (k:=0) (l':=[.bool false]) zog rfl rfl rfl rfl rfl (fun _ _=>rfl) rfl ?_
    refine zyN (zau (zaf ?_))
    cases h
    exact zdh (rs:=[.cell 2 4]) ds1 () (.inl rfl) (zbq (k:=6) rfl) results3 (.cons (.cell zlc (k:=0) rfl rfl) .nil) rfl Splits.nil
   refine zal ?_
   exact zak () h rfl (zbf rfl) (zab [0,1,2,3,4,6] kr rfl)
  refine zyR 6 rfl (zyN (zaM rfl (zal ?_)))
  exact zak () h rfl (zbf rfl) (zab [0,1,2,3,4,6] kr rfl)
 rintro _ h
 rw [hj6] at h
 refine zaE ?_
 obtain ⟨r14,hq24,h⟩:=zbL h
 refine zeH (b:=(r14:Int)==0) (fun hb21 => ?_) (fun hb21 => ?_)
 ·
  have h:=zgT hb21 h
  refine zbB 12 [(0,164,zP b5),(1,165,zI r14),(2,166,.bool true),(3,167,.bool true),(4,168,undef),(5,169,undef),(6,170,undef),(7,171,undef),(8,172,undef),(9,173,undef),(10,174,undef),(11,175,undef)] mixed kr kr dc (by rfl) kr kr (zyP 1 0 rfl (zad ?_ (zad ?_ (zyP 9 3 rfl DrawPre.nil)))) ?_
  · exact fun D n d c u i=>zbK (v:=zI r14) (vs:=[zP b5]) hrd rfl dc rfl (evL.cons (zam 0 u d) evL.nil) rfl zzf (zej (bp1:=b5) (p1:=p1) (p1_h0:=hd1) (p1_h1:=hd2) hq24) (.own (zab [2] kr rfl) (fun _ _ h=>sepL.one1.1 h) (.own (zab [3] kr rfl) (fun _ _ h=>sepL.one1.1 h) (.own (zab [4] kr rfl) (fun _ _ h=>sepL.one1.1 h) .nil))) (zar 1 u i)
  · exact fun D n d c u i=>zb6 rfl dc (zam 1 u d) rfl zaL (zdF (show Value.bool ((r14:Int)==0)=Value.bool true from congrArg Value.bool hb21) (zar 2 u i))
  refine zyR 2 rfl ?_
  refine zaT (k:=0) (l':=[.bool true]) zog rfl rfl rfl rfl rfl (fun _ _=>rfl) rfl ?_
  refine zyN (zau ?_)
  cases h
  exact zdh (rs:=[.cell 2 4]) ds1 () (.inl rfl) (zbq (k:=5) rfl) results3 (.cons (.cell zlc (k:=0) rfl rfl) .nil) rfl Splits.nil
 have h:=zgU hb21 h
 obtain ⟨r15,hq25,h⟩:=zbL h
 obtain ⟨hg7,h⟩:=zbQ h
 obtain ⟨r16,hq26,h⟩:=zbL h
 refine zbB 12 [(0,164,zP b5),(1,165,zI r14),(2,166,.bool false),(3,167,.bool false),(4,168,zP b5),(5,169,.agg #[zI s1.Layout_Width,zI s1.Layout_Height,zI s1.Layout_Turn,zI s1.Layout_Every]),(6,170,zI s1.Line),(7,171,zI (max s1.Line 0)),(8,172,zP b5),(9,173,zI r15),(10,174,zI (Int.tmod (max s1.Line 0) r15)),(11,175,s1_h0.v)] mixed kr kr dc (by rfl) kr kr (zyP 1 0 rfl (zad ?_ (zad ?_ (zyP 2 3 rfl (zad ?_ (zyP 1 6 rfl (zad ?_ (zyP 1 8 rfl (zad ?_ (zad ?_ (zyP 1 11 rfl DrawPre.nil))))))))))) ?_
 · exact fun D n d c u i=>zbK (v:=zI r14) (vs:=[zP b5]) hrd rfl dc rfl (evL.cons (zam 0 u d) evL.nil) rfl zzf (zej (bp1:=b5) (p1:=p1) (p1_h0:=hd1) (p1_h1:=hd2) hq24) (.own (zab [2] kr rfl) (fun _ _ h=>sepL.one1.1 h) (.own (zab [3] kr rfl) (fun _ _ h=>sepL.one1.1 h) (.own (zab [4] kr rfl) (fun _ _ h=>sepL.one1.1 h) .nil))) (zar 1 u i)
 · exact fun D n d c u i=>zb6 rfl dc (zam 1 u d) rfl zaL (zdF (show Value.bool ((r14:Int)==0)=Value.bool false from congrArg Value.bool hb21) (zar 2 u i))
 · exact fun D n d c u i=>zaV (k:=1) (cs:=[zI s1.Layout_Width,zI s1.Layout_Height,zI s1.Layout_Turn,zI s1.Layout_Every]) zjs (zeV rfl (zam 3 u d)) dc (zbd (by rfl) rfl) rfl rfl rfl (zar 5 u i)
 · exact fun D n d c u i=>zk5 (zeV rfl (zam 3 u d)) dc (zam 6 u d) rfl (zar 7 u i)
 · exact fun D n d c u i=>zbK (v:=zI r15) (vs:=[zP b5]) hrd (zeV rfl (zam 3 u d)) dc rfl (evL.cons (zam 8 u d) evL.nil) rfl zzf (zej (bp1:=b5) (p1:=p1) (p1_h0:=hd1) (p1_h1:=hd2) hq25) (.own (zab [2] kr rfl) (fun _ _ h=>sepL.one1.1 h) (.own (zab [3] kr rfl) (fun _ _ h=>sepL.one1.1 h) (.own (zab [4] kr rfl) (fun _ _ h=>sepL.one1.1 h) .nil))) (zar 9 u i)
 · exact fun D n d c u i=>zb6 (zeV rfl (zam 3 u d)) dc (zam 7 u d) (zam 9 u d) (zuw hg7 rfl) (zar 10 u i)
 refine zbK (v:=.bool r16) (vs:=[zP b5,.agg #[zI s1.Layout_Width,zI s1.Layout_Height,zI s1.Layout_Turn,zI s1.Layout_Every],zI (Int.tmod (max s1.Line 0) r15),s1_h0.v]) hrd rfl dc rfl rfl rfl zAU (ziS (bp1:=b5) (p1:=p1) (p1_h0:=hd1) (p1_h1:=hd2) (l1:=(⟨s1.Layout_Width,s1.Layout_Height,s1.Layout_Turn,s1.Layout_Every⟩:zaO)) hws10 hq26) (.own (zab [2] kr rfl) (fun _ _ h=>sepL.one1.1 h) (.own (zab [3] kr rfl) (fun _ _ h=>sepL.one1.1 h) (.own (zab [4] kr rfl) (fun _ _ h=>sepL.one1.1 h) (.ro 0 rfl .nil)))) ?_
 refine zyR 1 rfl ?_
 refine zaT (k:=0) (l':=[.bool r16]) zog rfl rfl rfl rfl rfl (fun _ _=>rfl) rfl ?_
 refine zyN (zau ?_)
 cases h
 exact zdh (rs:=[.cell 2 4]) ds1 () (.inl rfl) (zbq (k:=5) rfl) results3 (.cons (.cell zlc (k:=0) rfl rfl) .nil) rfl Splits.nil
def nb (r:zap):Bool:=r.Line != -1
theorem zwm:∀ (l:List zap) (o:Option Int),(∀ r∈l,0≤r.Line)→(pgL o l).filter nb=l
 | [],o,h=>by cases o <;> rfl
 | r::l,o,h=>by
  have hr:nb r=true:=by
   have:=h r (List.mem_cons_self ..)
   unfold nb; simp; omega
  have ih:=fun o=>zwm l o (fun x hx=>h x (List.mem_cons_of_mem _ hx))
  have hb:nb zrT=false:=rfl
  cases o with
  | none=>show (r::pgL (some r.Stanza) l).filter nb=_; rw [List.filter_cons_of_pos hr,ih]
  | some s =>
   rw [zgP]
   split
   ·rw [List.filter_cons_of_pos hr,ih]
   ·rw [List.filter_cons_of_neg (by rw [hb]; decide),List.filter_cons_of_pos hr,ih]
theorem zmo {R:Nat→Nat→Bool} {rows:List zap} (h0:∀ r∈rows,0≤r.Line):∀ (ts:List Nat) (f:Nat),zq2 R rows.length f ts→(zg5 rows f ts).flatten.filter nb=rows.drop f
 | [],f,h=>by
  have:f=rows.length:=h
  rw [this,List.drop_length]; rfl
 | t::ts,f,h=>by
  obtain ⟨h1,h2,_,h3⟩:=h
  show ((pgL none ((rows.drop f).take (t - f))::zg5 rows t ts).flatten).filter nb=_
  rw [List.flatten_cons,List.filter_append,zmo h0 ts t h3,zwm _ _ (fun r hr=>h0 r (List.mem_of_mem_drop (List.mem_of_mem_take hr)))]
  have:=List.take_append_drop (t - f) (rows.drop f)
  rw [List.drop_drop,show f+(t - f)=t by omega] at this
  exact this
def zxs (a r:zap) (first:Bool):Bool :=
 if first then decide (r.Line=0)&&(decide (r.Stanza=0)&&decide (r.Part=0))
 else if r.Line=a.Line then decide (r.Stanza=a.Stanza)&&decide (r.Part=a.Part+1)
 else decide (r.Line=a.Line+1)&&(decide (r.Part=0)&&(decide (r.Stanza=a.Stanza)||decide (r.Stanza=a.Stanza+1)))
structure Sml (a:zap):Prop where
 l:0≤a.Line∧a.Line≤1000000
 s:0≤a.Stanza∧a.Stanza≤1000000
 p:0≤a.Part∧a.Part≤1000000
theorem zxr (a r:zap) (first:Bool) (h:Sml a):zfE a r first=some (zxs a r first):=by
 obtain ⟨h1,h2,h3⟩:=h
 unfold zfE zxs
 cases first with
 | true =>
  refine zaR rfl ?_
  rw [if_pos rfl]
  by_cases e1:r.Line=0
  ·refine zaR (by simpa using e1) ?_
   by_cases e2:r.Stanza=0
   ·refine zaR (by simpa using e2) ?_
    rw [decide_eq_true e1,decide_eq_true e2,Bool.true_and,Bool.true_and]; rfl
   ·refine zaK (by simpa using e2) ?_
    rw [decide_eq_false e2,Bool.false_and,Bool.and_false]
  ·refine zaK (by simpa using e1) ?_
   rw [decide_eq_false e1,Bool.false_and]
 | false =>
  refine zaK rfl ?_
  rw [if_neg (by decide)]
  by_cases e1:r.Line=a.Line
  ·refine zaR (by simpa using e1) ?_
   rw [if_pos e1]
   by_cases e2:r.Stanza=a.Stanza
   ·refine zaR (by simpa using e2) (zcm ⟨by omega,by omega⟩ ?_)
    rw [decide_eq_true e2,Bool.true_and]; rfl
   ·refine zaK (by simpa using e2) ?_
    rw [decide_eq_false e2,Bool.false_and]
  ·refine zaK (by simpa using e1) (zcm ⟨by omega,by omega⟩ ?_)
   rw [if_neg e1]
   by_cases e2:r.Line=a.Line+1
   ·refine zaR (by simpa using e2) ?_
    by_cases e3:r.Part=0
    ·refine zaR (by simpa using e3) ?_
     by_cases e4:r.Stanza=a.Stanza
     ·refine zaR (by simpa using e4) ?_
      rw [decide_eq_true e2,decide_eq_true e3,decide_eq_true e4]; rfl
     ·refine zaK (by simpa using e4) (zcm ⟨by omega,by omega⟩ ?_)
      rw [decide_eq_true e2,decide_eq_true e3,decide_eq_false e4]; rfl
    ·refine zaK (by simpa using e3) ?_
     rw [decide_eq_false e3,Bool.false_and,Bool.and_false]
   ·refine zaK (by simpa using e2) ?_
    rw [decide_eq_false e2,Bool.false_and]
abbrev StB:Type:=List (List zBA)×zap
structure zA6 (S:List (List zBA)) (a r:zap):Prop where
 sm:Sml a
 fo:zxs a r (((S.length:Int):Int)==0)=true
 ln:r.Line≠-1
 pt:r.Part=0
 i:0≤r.Indent∧r.Indent≤1024
 sp:zcB r.Text (⟨#[32]⟩:zBA)=some false
 sz:r.Text.size≤1024
inductive Bk:List (List zBA)→zap→List zap→List (List zBA)→zap→Prop
 | nil {S a}:Bk S a [] S a
 | skip {S a r rs S' a'} (h:r.Line=-1) (hr:Bk S a rs S' a'):Bk S a (r::rs) S' a'
 | new1 {S a r rs S' a'} (h:zA6 S a r) (hs:r.Stanza=(S.length:Int)) (hl:S.length≤1000000) (hr:Bk (S++[[zcv r.Indent++r.Text]]) r rs S' a'):Bk S a (r::rs) S' a'
 | new2 {P y a r rs S' a'} (h:zA6 (P++[y]) a r) (hs:r.Stanza=(P.length:Int)) (hl:P.length≤1000000) (hy:y.length≤1000000) (hr:Bk (P++[y++[zcv r.Indent++r.Text]]) r rs S' a'):Bk (P++[y]) a (r::rs) S' a'
 | cont {P y c a r rs S' a'} (hs:r.Stanza=(P.length:Int)) (hl:P.length≤1000000) (hy:y.length≤1000000) (sm:Sml a) (e1:r.Line=a.Line) (e2:r.Stanza=a.Stanza) (e3:r.Part=a.Part+1) (hc:c.size≤1000000) (ht:r.Text.size≤1000000)
   (hr:Bk (P++[y++[c++r.Text]]) r rs S' a'):Bk (P++[y++[c]]) a (r::rs) S' a'
theorem Bk.app {S a rs S' a'} (h:Bk S a rs S' a') {rs2 S2 a2} (h2:Bk S' a' rs2 S2 a2):Bk S a (rs++rs2) S2 a2:=by
 induction h with
 | nil=>exact h2
 | skip h hr ih=>exact .skip h (ih h2)
 | new1 h hs hl hr ih=>exact .new1 h hs hl (ih h2)
 | new2 h hs hl hy hr ih=>exact .new2 h hs hl hy (ih h2)
 | cont hs hl hy sm e1 e2 e3 hc ht hr ih=>exact .cont hs hl hy sm e1 e2 e3 hc ht (ih h2)
theorem Bk.blanks {B:List zap}:∀ {S a S' a'},Bk S a (B.filter nb) S' a'→Bk S a B S' a':=by
 induction B with
 | nil=>intro S a S' a' h; exact h
 | cons r B ih =>
  intro S a S' a' h
  cases hb:nb r with
  | false =>
   rw [List.filter_cons_of_neg (by rw [hb]; decide)] at h
   have:r.Line=-1:=by unfold nb at hb; simpa using hb
   exact .skip this (ih h)
  | true =>
   rw [List.filter_cons_of_pos hb] at h
   cases h with
   | skip h hr=>exact .skip h (ih hr)
   | new1 h hs hl hr=>exact .new1 h hs hl (ih hr)
   | new2 h hs hl hy hr=>exact .new2 h hs hl hy (ih hr)
   | cont hs hl hy sm e1 e2 e3 hc ht hr=>exact .cont hs hl hy sm e1 e2 e3 hc ht (ih hr)
theorem zkj {α:Type} {B:List α} {i:Nat} {r:α} {rs:List α} (h:B.drop i=r::rs):i<B.length∧B[i]?=some r∧B.drop (i+1)=rs:=by
 have hl:=congrArg List.length h
 rw [List.length_drop,List.length_cons] at hl
 refine ⟨by omega,?_,?_⟩
 ·have:(B.drop i)[0]?=some r:=by rw [h]; rfl
  simpa using this
 ·rw [← List.drop_drop,h]; rfl
theorem zip (n:Int) (h:0≤n∧n≤1024):(zcv n).size≤1024:=by
 unfold zcv
 have:(Lib.repeatL [32] n.toNat:List UInt8).length=n.toNat:=by rw [zmk,List.length_replicate]
 show ((Lib.repeatL [32] n.toNat:List UInt8).toArray).size≤1024
 rw [List.size_toArray,this]; omega
theorem zxU (B:List zap) (hB:B.length≤4000000) (j:List (List zBA)→Option ((Option zaC)×Int)) {S a rs S' a'} (h:Bk S a rs S' a') :
  ∀ (i m:Nat),B.drop i=rs→rs.length<m→za1 (fun _ _ _ _ _ _ _ _=>none) (zcV B j) m S a.Line a.Stanza a.Part a.Indent a.Number a.Text (i:Int)=j S':=by
 induction h with
 | nil =>
  intro i m hi hm
  obtain ⟨m,rfl⟩:∃ q,m=q+1:=⟨m - 1,by simp at hm; omega⟩
  rw [zen]
  have:B.length≤i:=by
   have:=congrArg List.length hi
   rw [List.length_drop] at this; simp at this; omega
  unfold zcV
  exact zaK (decide_eq_false (by omega)) rfl
 | @skip S a r rs S' a' h hr ih =>
  intro i m hi hm
  obtain ⟨m,rfl⟩:∃ q,m=q+1:=⟨m - 1,by omega⟩
  rw [List.length_cons] at hm
  obtain ⟨hlt,hg,hd⟩:=zkj hi
  rw [zen]
  have ih':=ih (i+1) m hd (by omega)
  rw [show ((i+1:Nat):Int)=(i:Int)+1 by omega] at ih'
  generalize za1 (fun _ _ _ _ _ _ _ _=>none) (zcV B j) m=ag at ih' ⊢
  unfold zcV
  exact zaR (decide_eq_true (by omega)) (zcj (za7 (zcY hg) (zaR (by rw [h]; rfl) (zcm ⟨by omega,by omega⟩ ih'))))
 | @new1 S a r rs S' a' h hs hl hr ih =>
  intro i m hi hm
  obtain ⟨m,rfl⟩:∃ q,m=q+1:=⟨m - 1,by omega⟩
  rw [List.length_cons] at hm
  obtain ⟨hlt,hg,hd⟩:=zkj hi
  rw [zen]
  have ih':=ih (i+1) m hd (by omega)
  rw [show ((i+1:Nat):Int)=(i:Int)+1 by omega] at ih'
  generalize za1 (fun _ _ _ _ _ _ _ _=>none) (zcV B j) m=ag at ih' ⊢
  have hf:=zxr a r (((S.length:Int):Int)==0) h.sm
  rw [h.fo] at hf
  have hi0:=h.i
  have hsz:=h.sz
  have hsp:=zip r.Indent h.i
  unfold zcV
  refine zaR (decide_eq_true (by omega)) (zcj (za7 (zcY hg) (zaK (by have:=h.ln; simpa using this) (zcj (za7 hf (zaK rfl (zaR (by rw [h.pt]; rfl) (zaK (decide_eq_false (by omega)) (zaK (decide_eq_false (by omega)) (za7 h.sp (zaK rfl (zcj (zaR (by rw [hs]; simp) (zcm (by omega) ?_))))))))))))))
  have hg2:zdf (S++[([]:List zBA)]) r.Stanza=some []:=by rw [hs]; exact zcY (by simp)
  refine za7 hg2 (zcj (zaR (by rw [h.pt]; rfl) (zcm ⟨by omega,by omega⟩ (zcm (by omega) (zcm (by simp) (zcm ⟨by omega,by omega⟩ ?_))))))
  rw [hs,Int.toNat_natCast,List.set_append_right _ _ (Nat.le_refl _),Nat.sub_self]
  rw [hs] at ih'
  exact ih'
 | @new2 P y a r rs S' a' h hs hl hy hr ih =>
  intro i m hi hm
  obtain ⟨m,rfl⟩:∃ q,m=q+1:=⟨m - 1,by omega⟩
  rw [List.length_cons] at hm
  obtain ⟨hlt,hg,hd⟩:=zkj hi
  rw [zen]
  have ih':=ih (i+1) m hd (by omega)
  rw [show ((i+1:Nat):Int)=(i:Int)+1 by omega] at ih'
  generalize za1 (fun _ _ _ _ _ _ _ _=>none) (zcV B j) m=ag at ih' ⊢
  have hf:=zxr a r ((((P++[y]).length:Int):Int)==0) h.sm
  rw [h.fo] at hf
  have hi0:=h.i
  have hsz:=h.sz
  have hsp:=zip r.Indent h.i
  have hlen:(P++[y]).length=P.length+1:=by simp
  unfold zcV
  refine zaR (decide_eq_true (by omega)) (zcj (za7 (zcY hg) (zaK (by have:=h.ln; simpa using this) (zcj (za7 hf (zaK rfl (zaR (by rw [h.pt]; rfl) (zaK (decide_eq_false (by omega)) (zaK (decide_eq_false (by omega)) (za7 h.sp (zaK rfl (zcj (zaK (by rw [hs,hlen]; exact beq_eq_false_iff_ne.2 (by omega)) ?_)))))))))))))
  have hg2:zdf (P++[y]) r.Stanza=some y:=by rw [hs]; exact zcY (by simp)
  refine za7 hg2 (zcj (zaR (by rw [h.pt]; rfl) (zcm ⟨by omega,by omega⟩ (zcm (by omega) (zcm (by omega) (zcm ⟨by omega,by omega⟩ ?_))))))
  rw [hs,Int.toNat_natCast,List.set_append_right _ _ (Nat.le_refl _),Nat.sub_self]
  rw [hs] at ih'
  exact ih'
 | @cont P y c a r rs S' a' hs hl hy sm e1 e2 e3 hc ht hr ih =>
  intro i m hi hm
  obtain ⟨m,rfl⟩:∃ q,m=q+1:=⟨m - 1,by omega⟩
  rw [List.length_cons] at hm
  obtain ⟨hlt,hg,hd⟩:=zkj hi
  rw [zen]
  have ih':=ih (i+1) m hd (by omega)
  rw [show ((i+1:Nat):Int)=(i:Int)+1 by omega] at ih'
  generalize za1 (fun _ _ _ _ _ _ _ _=>none) (zcV B j) m=ag at ih' ⊢
  have hlen:(P++[y++[c]]).length=P.length+1:=by simp
  have hylen:(y++[c]).length=y.length+1:=by simp
  have hf:=zxr a r ((((P++[y++[c]]).length:Int):Int)==0) sm
  have hfo:zxs a r ((((P++[y++[c]]).length:Int):Int)==0)=true:=by
   have:((((P++[y++[c]]).length:Int):Int)==0)=false:=by rw [hlen]; simp; omega
   rw [this]; unfold zxs
   rw [if_neg (by decide),if_pos e1,decide_eq_true e2,decide_eq_true e3]; rfl
  rw [hfo] at hf
  have hp:=sm.p
  have hline:=sm.l
  have hb1:((r.Line:Int)==(-1))=false:=beq_eq_false_iff_ne.2 (by omega)
  have hb2:((r.Part:Int)==0)=false:=beq_eq_false_iff_ne.2 (by omega)
  unfold zcV
  refine zaR (decide_eq_true (by omega)) (zcj (za7 (zcY hg) (zaK hb1 (zcj (za7 hf (zaK rfl (zaK hb2 (zcj (zaK (by rw [hs,hlen]; exact beq_eq_false_iff_ne.2 (by omega)) ?_)))))))))
  have hg2:zdf (P++[y++[c]]) r.Stanza=some (y++[c]):=by rw [hs]; exact zcY (by simp)
  have hg3:zdf (y++[c]) (((y++[c]).length:Int) - 1)=some c:=by
   rw [show (((y++[c]).length:Int) - 1)=(y.length:Int) by omega]; exact zcY (by simp)
  refine za7 hg2 (zcj (zaK hb2 (zcm ⟨by omega,by omega⟩ (za7 hg3 (zcm (by omega) (zcm ⟨by omega,by omega⟩ ?_))))))
  rw [hs,Int.toNat_natCast,List.set_append_right _ _ (Nat.le_refl _),Nat.sub_self,show (((y++[c]).length:Int) - 1).toNat=y.length by omega,List.set_append_right _ _ (Nat.le_refl _),Nat.sub_self]
  rw [hs] at ih'
  exact ih'
theorem ztb {l:zaO} {k:Int} {v:zax} {p:Int} {t:zBA} (hk:0≤k∧k≤1000000) (hs:0≤v.Stanza∧v.Stanza≤1000000) (hp:0≤p∧p≤1000000):Sml (zm2 l k v p t):=⟨hk,hs,hp⟩
theorem zuu {l:zaO} {k:Int} {v:zax} (hk:0≤k∧k≤1000000) (P:List (List zBA)) (hP:v.Stanza=(P.length:Int)) (hl:P.length≤1000000) (y:List zBA) (hy:y.length≤1000000) :
  ∀ (ts:List zBA) (p:Nat) (c t:zBA),c.size+zf1 ts≤1000000→p+ts.length≤1000000→∃ a',Bk (P++[y++[c]]) (zm2 l k v (p:Int) t) (zhl l k v ((p:Int)+1) ts) (P++[y++[c++zij ts]]) a'∧Sml a'∧a'.Line=k∧a'.Stanza=v.Stanza
 | [],p,c,t,h1,h2=>by
  refine ⟨zm2 l k v (p:Int) t,?_,ztb hk ⟨by omega,by omega⟩ ⟨by omega,by omega⟩,rfl,rfl⟩
  have:c++zij []=c:=by
   show c++(⟨#[]⟩:zBA)=c
   exact ByteArray.append_empty
  rw [this]; exact .nil
 | u::ts,p,c,t,h1,h2=>by
  have h1':c.size+(u.size+zf1 ts)≤1000000:=h1
  rw [List.length_cons] at h2
  obtain ⟨a',hb,hs,hl1,hs1⟩:=zuu hk P hP hl y hy ts (p+1) (c++u) u (by rw [ByteArray.size_append]; omega) (by omega)
  refine ⟨a',.cont (r:=zm2 l k v ((p:Int)+1) u) hP hl hy (ztb hk ⟨by omega,by omega⟩ ⟨by omega,by omega⟩) rfl rfl rfl (by omega) (show u.size≤1000000 by omega) ?_,hs,hl1,hs1⟩
  rw [show (((p+1:Nat):Int))=(p:Int)+1 by omega] at hb
  have e:c++zij (u::ts)=c++u++zij ts:=by
   show c++(u++zij ts)=_
   rw [ByteArray.append_assoc]
  rw [e]; exact hb
theorem zok:∀ ts:List zBA,(zij ts).size=zf1 ts
 | []=>rfl
 | t::ts=>by
  show (t++zij ts).size=t.size+zf1 ts
  rw [ByteArray.size_append,zok ts]
structure zyg (k:Int) (S:List (List zBA)) (a:zap):Prop where
 sm:Sml a
 hd:(S.length=0∧k=0)∨(a.Line=k - 1∧a.Stanza=(S.length:Int) - 1∧0<S.length)
theorem zrU {l:zaO} (hm:zku l=true) {v:zax} (h:OkV v) (hns:∀ t u:zBA,v.Text=t++u→zcB t (⟨#[32]⟩:zBA)=some false) {k:Int} (hk:0≤k∧k≤1000000)
  {S:List (List zBA)} {a:zap} (hi:zyg k S a) (P:List (List zBA)) (y:List zBA) (hy:y.length≤1000000) (hP:P.length≤1000000) (hvS:v.Stanza=(P.length:Int)) (hS:(S=P∧y=[])∨S=P++[y]) :
  ∃ a',Bk S a (zhl l k v 0 (znx l v)) (P++[y++[zcv v.Indent++v.Text]]) a'∧zyg (k+1) (P++[y++[zcv v.Indent++v.Text]]) a':=by
 obtain ⟨w1,w2,w3⟩:=zm7 hm h.i0
 have hsz:=h.sz
 have hcat:zij (znx l v)=v.Text:=zkm (s:=v.Text) (by omega) w2 w3
 have hlen:=zqc hm h
 have hsp:=zip v.Indent h.i0
 cases hT:znx l v with
 | nil=>exact absurd hT (zsY hm h)
 | cons t0 ts =>
  rw [hT] at hcat hlen
  have hcat':v.Text=t0++zij ts:=hcat.symm
  have hts:t0.size+zf1 ts=v.Text.size:=by rw [hcat',ByteArray.size_append,zok]
  obtain ⟨a',hb,hs1,hl1,hst1⟩:=zuu (l:=l) hk P hvS hP y hy ts 0 (zcv v.Indent++t0) t0 (by rw [ByteArray.size_append]; omega) (by rw [List.length_cons] at hlen; omega)
  have e:zcv v.Indent++t0++zij ts=zcv v.Indent++v.Text:=by rw [ByteArray.append_assoc,← hcat']
  rw [e] at hb
  have hbi:zyg (k+1) (P++[y++[zcv v.Indent++v.Text]]) a':=⟨hs1,.inr ⟨by omega,by rw [hst1,hvS]; simp,by simp⟩⟩
  refine ⟨a',?_,hbi⟩
  have hnew:∀ f,f=((((S.length:Int):Int)==0))→zxs a (zm2 l k v 0 t0) f=true:=by
   intro f hf
   unfold zxs
   rcases hi.hd with ⟨h1,h2⟩ | ⟨h1,h2,h3⟩
   ·have:f=true:=by rw [hf,h1]; rfl
    have hv0:v.Stanza=0:=by
     rcases hS with ⟨rfl,_⟩ | rfl
     ·omega
     ·simp at h1
    rw [this,if_pos rfl]
    rw [decide_eq_true (show (zm2 l k v 0 t0).Line=0 from h2),decide_eq_true (show (zm2 l k v 0 t0).Stanza=0 from hv0),decide_eq_true (show (zm2 l k v 0 t0).Part=0 from rfl)]; rfl
   ·have:f=false:=by rw [hf]; exact beq_eq_false_iff_ne.2 (by omega)
    rw [this,if_neg (by decide),if_neg (show ¬ (zm2 l k v 0 t0).Line=a.Line by show ¬ k=a.Line; omega)]
    rw [decide_eq_true (show (zm2 l k v 0 t0).Line=a.Line+1 by show k=a.Line+1; omega),decide_eq_true (show (zm2 l k v 0 t0).Part=0 from rfl)]
    have:v.Stanza=a.Stanza∨v.Stanza=a.Stanza+1:=by
     rcases hS with ⟨rfl,_⟩ | rfl
     ·right; omega
     ·left; rw [h2,hvS]; simp
    rcases this with h | h
    ·rw [decide_eq_true (show (zm2 l k v 0 t0).Stanza=a.Stanza from h)]; rfl
    ·rw [decide_eq_true (show (zm2 l k v 0 t0).Stanza=a.Stanza+1 from h)]; simp
  have hN:zA6 S a (zm2 l k v 0 t0):=⟨hi.sm,hnew _ rfl,by show k≠-1; omega,rfl,h.i0,hns t0 (zij ts) hcat',by show t0.size≤1024; omega⟩
  rcases hS with ⟨rfl,rfl⟩ | rfl
  ·exact .new1 hN hvS hP hb
  ·exact .new2 hN hvS hP hy hb
theorem zBd (x:List UInt8) (t u:zBA) (h:mkB (x.drop (ind x))=t++u):zcB t (⟨#[32]⟩:zBA)=some false:=by
 obtain ⟨tl,rfl⟩:∃ tl,t=mkB tl:=⟨t.data.toList,by simp [mkB]⟩
 unfold zcB
 refine za7 (zw9 tl [32]) ?_
 have hk:∀ (X:List UInt8) (b:UInt8) (r:List UInt8),X.drop (ind X)=b::r→b≠32:=by
  intro X
  induction X with
  | nil=>intro b r h; simp at h
  | cons c X ih =>
   intro b r h
   rw [zlR] at h
   split at h
   ·rw [List.drop_succ_cons] at h; exact ih b r h
   ·rename_i hc
    rw [List.drop_zero] at h
    have:=(List.cons.inj h).1
    rw [← this]; exact hc
 have hd:x.drop (ind x)=tl++u.data.toList:=by
  have:=congrArg (fun s:zBA=>s.data.toList) h
  simp only [ByteArray.data_append,Array.toList_append,zhW] at this
  exact this
 cases tl with
 | nil=>rfl
 | cons b r =>
  have hb:=hk x b (r++u.data.toList) hd
  show some (decide (([32]:List UInt8).length≤(b::r).length)&&decide ((b::r).take ([32]:List UInt8).length=[32]))=some false
  rw [decide_eq_false (p:=(b::r).take ([32]:List UInt8).length=[32]) (fun e=>hb (List.cons.inj e).1),Bool.and_false]
section
variable {l:zaO} (hm:zku l=true)
include hm
theorem zzF {z:List Row} {k0:Nat} (ih:∀ (vs:List zax) (kk:Nat) (S:List (List zBA)) (a:zap),S.length=k0+1→kk+vs.length≤1000→(∀ v∈vs,OkV v)→vs.map zmv=(zfc (k0+1) z).map zkJ→zyg (kk:Int) S a→∃ a',Bk S a (zdq l (kk:Int) vs) (S++mkZ z) a') :
  ∀ (r:Row) (j:Nat) (vs:List zax) (kk:Nat) (P:List (List zBA)) (y:List zBA) (a:zap),P.length=k0→k0≤100000→y.length+r.length≤100000→kk+vs.length≤1000→(∀ v∈vs,OkV v) →
  vs.map zmv=((zgL j r).map (fun p=>(k0,p))++zfc (k0+1) z).map zkJ→zyg (kk:Int) (P++[y]) a→∃ a',Bk (P++[y]) a (zdq l (kk:Int) vs) (P++[y++r.map mkB]++mkZ z) a'
 | [],j,vs,kk,P,y,a,hP,hk0,hyr,hkk,hv,h,hi=>by
  obtain ⟨a',hb⟩:=ih vs kk (P++[y]) a (by simp; omega) hkk hv h hi
  exact ⟨a',by rw [List.map_nil,List.append_nil]; exact hb⟩
 | x::r,j,[],kk,P,y,a,hP,hk0,hyr,hkk,hv,h,hi=>by
  simp [zgL] at h
 | x::r,j,v::vs,kk,P,y,a,hP,hk0,hyr,hkk,hv,h,hi=>by
  obtain ⟨h1,h2⟩:=List.cons.inj (show zmv v::vs.map zmv=zkJ (k0,j,x)::((zgL (j+1) r).map (fun p=>(k0,p))++zfc (k0+1) z).map zkJ from h)
  have hs:v.Stanza=(k0:Int):=congrArg (fun q=>q.2.2.1) h1
  have hx:v.Text=mkB (x.drop (ind x)):=congrArg (fun q=>q.1) h1
  have hin:v.Indent=(ind x:Int):=congrArg (fun q=>q.2.1) h1
  rw [List.length_cons] at hyr hkk
  obtain ⟨a1,hb1,hi1⟩:=zrU hm (hv v (List.mem_cons_self ..)) (fun t u e=>zBd x t u (by rw [← hx]; exact e)) (k:=(kk:Int)) ⟨by omega,by omega⟩ hi P y (by omega) (by omega) (by rw [hs,hP]) (.inr rfl)
  rw [hx,hin,zrw x] at hb1 hi1
  obtain ⟨a2,hb2⟩:=zzF ih r (j+1) vs (kk+1) P (y++[mkB x]) a1 hP hk0 (by rw [List.length_append]; simp; omega) (by omega) (fun w hw=>hv w (List.mem_cons_of_mem _ hw)) h2 (by rw [show ((kk+1:Nat):Int)=(kk:Int)+1 by omega]; exact hi1)
  refine ⟨a2,?_⟩
  rw [show ((kk+1:Nat):Int)=(kk:Int)+1 by omega,List.append_assoc y] at hb2
  exact hb1.app hb2
theorem zuv:∀ (z:List Row) (k0:Nat) (vs:List zax) (kk:Nat) (S:List (List zBA)) (a:zap),S.length=k0→k0+z.length≤100000→(∀ r∈z,r.length≤99999)→kk+vs.length≤1000→(∀ v∈vs,OkV v)→(∀ r∈z,r≠[])→vs.map zmv=(zfc k0 z).map zkJ→zyg (kk:Int) S a→∃ a',Bk S a (zdq l (kk:Int) vs) (S++mkZ z) a'
 | [],k0,vs,kk,S,a,hS,hk0,hrl,hkk,hv,hne,h,hi=>by
  have:vs=[]:=by simpa [zfc] using h
  subst this
  exact ⟨a,by show Bk S a [] (S++[]) a; rw [List.append_nil]; exact .nil⟩
 | []::z,k0,vs,kk,S,a,hS,hk0,hrl,hkk,hv,hne,h,hi=>absurd rfl (hne [] (List.mem_cons_self ..))
 | (x::r)::z,k0,[],kk,S,a,hS,hk0,hrl,hkk,hv,hne,h,hi=>by simp [zfc,zgL] at h
 | (x::r)::z,k0,v::vs,kk,S,a,hS,hk0,hrl,hkk,hv,hne,h,hi=>by
  obtain ⟨h1,h2⟩:=List.cons.inj (show zmv v::vs.map zmv=zkJ (k0,0,x)::((zgL 1 r).map (fun p=>(k0,p))++zfc (k0+1) z).map zkJ from h)
  have hs:v.Stanza=(k0:Int):=congrArg (fun q=>q.2.2.1) h1
  have hx:v.Text=mkB (x.drop (ind x)):=congrArg (fun q=>q.1) h1
  have hin:v.Indent=(ind x:Int):=congrArg (fun q=>q.2.1) h1
  have hrl0:=hrl _ (List.mem_cons_self ..)
  rw [List.length_cons] at hkk hk0 hrl0
  obtain ⟨a1,hb1,hi1⟩:=zrU hm (hv v (List.mem_cons_self ..)) (fun t u e=>zBd x t u (by rw [← hx]; exact e)) (k:=(kk:Int)) ⟨by omega,by omega⟩ hi S [] (by simp) (by omega) (by rw [hs,hS]) (.inl ⟨rfl,rfl⟩)
  rw [hx,hin,zrw x] at hb1 hi1
  obtain ⟨a2,hb2⟩:=zzF hm (fun vs kk S a e1 e2 e3 e4 e5=>zuv z (k0+1) vs kk S a e1 (by omega) (fun r hr=>hrl r (List.mem_cons_of_mem _ hr)) e2 e3 (fun r hr=>hne r (List.mem_cons_of_mem _ hr)) e4 e5) r 1 vs (kk+1) S [mkB x] a1 hS (by omega) (by simp; omega) (by omega) (fun w hw=>hv w (List.mem_cons_of_mem _ hw)) h2 (by rw [show ((kk+1:Nat):Int)=(kk:Int)+1 by omega]; exact hi1)
  refine ⟨a2,?_⟩
  rw [show ((kk+1:Nat):Int)=(kk:Int)+1 by omega,List.append_assoc S] at hb2
  exact hb1.app hb2
end
theorem znJ (l:zaO) (vs:List zax):∀ r∈zdq l 0 vs,0≤r.Line:=by
 intro r hr
 obtain ⟨j,v,_,h,_⟩:=zhm hr
 omega
theorem zuA {l:zaO} (hm:zku l=true) {p:zaC} {t:List UInt8} {z:List Row} (hok:OkP p t z) (hgo:∀ v∈p.told_lines,OkV v) (hgl:p.told_lines.length≤512) (hgs:Stp 0 p.told_lines) (hz:z.length≤512) (hzr:∀ r∈z,r.length≤512) (hlen:(zk2 l p.told_lines).pages.flatten.length≤4000000) (title:zBA) :
  zg9 title (zk2 l p.told_lines).pages.flatten=(zan (zfO title (mkZ z)) fun (r3:((Option zaC)×Int))=>some (r3.1,r3.2)):=by
 obtain ⟨a',hb⟩:=zuv hm z 0 p.told_lines 0 [] (⟨0,0,0,0,0,ByteArray.empty⟩:zap) rfl (by omega) (fun r hr=>by have:=hzr r hr; omega) (by omega) hgo hok.ne hok.vok ⟨⟨⟨by decide,by decide⟩,⟨by decide,by decide⟩,⟨by decide,by decide⟩⟩,.inl ⟨rfl,rfl⟩⟩
 have hR:=zoq hm p.told_lines hgo (by omega) hgs
 have hrise:=zi1 (zn4 hR (znM hm)) (zpZ (rows:=zdq l 0 p.told_lines) (znM hm)) (zdq l 0 p.told_lines).length 0 (Nat.zero_le _) (by omega)
 have hf:(zk2 l p.told_lines).pages.flatten.filter nb=zdq l 0 p.told_lines:=by
  have:=zmo (znJ l p.told_lines) (zkW (zdq l 0 p.told_lines) l.Height) 0 hrise
  rwa [List.drop_zero] at this
 have hb2:Bk [] (⟨0,0,0,0,0,ByteArray.empty⟩:zap) (zk2 l p.told_lines).pages.flatten (mkZ z) a':=Bk.blanks (by rw [hf]; exact hb)
 unfold zg9
 refine zcj ?_
 exact zxU _ hlen _ hb2 0 zcD (List.drop_zero ..) (zdI (by omega))
theorem zrs {R:Nat→Nat→Bool} {rows:List zap}:∀ (ts:List Nat) (f:Nat),zq2 R rows.length f ts→f≤rows.length→ts.length+f≤rows.length∧(zg5 rows f ts).flatten.length+2*f≤2*rows.length∧∀ pg∈zg5 rows f ts,pg.length≤2*rows.length
 | [],f,h,hf=>by
  have:f=rows.length:=h
  refine ⟨by simp; omega,by show 0+2*f≤_; omega,fun pg hpg => ?_⟩
  cases hpg
 | t::ts,f,h,hf=>by
  obtain ⟨h1,h2,_,h3⟩:=h
  obtain ⟨i1,i2,i3⟩:=zrs ts t h3 h2
  have hp:=zqn ((rows.drop f).take (t - f)) none
  have hl:((rows.drop f).take (t - f)).length=t - f:=by rw [List.length_take,List.length_drop]; omega
  rw [hl] at hp
  refine ⟨by rw [List.length_cons]; omega,?_,fun pg hpg => ?_⟩
  ·show ((pgL none ((rows.drop f).take (t - f))::zg5 rows t ts).flatten).length+_≤_
   rw [List.flatten_cons,List.length_append]; omega
  ·rcases List.mem_cons.1 (show pg∈pgL none ((rows.drop f).take (t - f))::zg5 rows t ts from hpg) with rfl | hpg
   ·omega
   ·exact i3 pg hpg
theorem zqd:∀ (z:List Row) (r:Row),r∈z→r.length≤tot z
 | [],r,h=>by cases h
 | x::z,r,h=>by
  rw [zfH]
  rcases List.mem_cons.1 h with rfl | h
  ·omega
  ·have:=zqd z r h; omega
theorem zsr {t:List UInt8} {z:List Row} (h:GoodP t z) (hn:tot z≤512) (hl:(prT t z).length≤65536):∃ p,zes (mkB t) (mkZ z)=some (some p,0)∧OkP p t z:=by
 obtain ⟨st,h1,h2,h3⟩:=zva h hn hl
 obtain ⟨hI,_⟩:=zy0 h1
 have hwt:=zq4 z fun r hr x hx=>(h.ln r hr x hx).le
 have h4:=znz z h.ne
 have h5:=h.tL
 have hr:=zwk (prT t z)
 rw [h1] at hr
 have hok:=hI.ok (mkB (prT t z))
 rw [h2,h3] at hok
 refine ⟨(⟨mkB st.t,st.vs,zkt 0 st.stz,mkB (prT t z)⟩:zaC),?_,by rw [h2,h3]; exact hok⟩
 rw [zwp t z h.ne (by omega),if_neg (by omega),hr]; rfl
def zlZ (L:List zBA) (r:zap):List zBA :=
 if r.Line<0 then L else match L[r.Line.toNat]? with
  | some q=>L.set r.Line.toNat (q++r.Text)
  | none=>L
theorem zlY {L:List zBA} {r:zap} (h:r.Line<0):zlZ L r=L:=if_pos h
theorem zqV {L:List zBA} {r:zap} {k:Nat} {q:zBA} (h:r.Line=(k:Int)) (hq:L[k]?=some q):zlZ L r=L.set k (q++r.Text):=by
 unfold zlZ
 rw [if_neg (by omega),h,Int.toNat_natCast,hq]
structure Linv (n c:Nat) (L:List zBA):Prop where
 len:L.length=n
 sz:∀ q∈L,q.size≤1024*c
theorem Linv.add {n c:Nat} {L:List zBA} (h:Linv n c L) {r:zap} (hr:r.Text.size≤1024):Linv n (c+1) (zlZ L r):=by
 have hw:∀ q∈L,q.size≤1024*(c+1):=fun q hq=>by have:=h.sz q hq; omega
 by_cases h0:r.Line<0
 ·rw [zlY h0]; exact ⟨h.len,hw⟩
 ·unfold zlZ
  rw [if_neg h0]
  split
  ·rename_i q hq
   refine ⟨by rw [List.length_set]; exact h.len,fun y hy => ?_⟩
   rcases List.mem_or_eq_of_mem_set hy with hy | rfl
   ·exact hw y hy
   ·have:=h.sz q (List.mem_of_getElem? hq)
    rw [ByteArray.size_append]; omega
  ·exact ⟨h.len,hw⟩
theorem Linv.fold {n:Nat}:∀ (rs:List zap) {c:Nat} {L:List zBA},Linv n c L→(∀ r∈rs,r.Text.size≤1024)→Linv n (c+rs.length) (rs.foldl zlZ L)
 | [],c,L,h,_=>h
 | r::rs,c,L,h,hr=>by
  have:=Linv.fold rs (h.add (hr r (List.mem_cons_self ..))) (fun x hx=>hr x (List.mem_cons_of_mem _ hx))
  rw [List.length_cons,show c+(rs.length+1)=c+1+rs.length by omega]
  exact this
theorem zqz:∀ (rs:List zap) (L:List zBA),rs.foldl zlZ L=(rs.filter nb).foldl zlZ L
 | [],L=>rfl
 | r::rs,L=>by
  cases hb:nb r with
  | true=>rw [List.filter_cons_of_pos hb]; exact zqz rs _
  | false =>
   rw [List.filter_cons_of_neg (by rw [hb]; decide)]
   have:r.Line=-1:=by unfold nb at hb; simpa using hb
   show rs.foldl zlZ (zlZ L r)=_
   rw [zlY (by omega)]; exact zqz rs L
theorem znP {l:zaO} {k:Nat} {v:zax}:∀ (ts:List zBA) (p:Int) (L:List zBA) (q:zBA),L[k]?=some q→(zhl l (k:Int) v p ts).foldl zlZ L=L.set k (q++zij ts)
 | [],p,L,q,hq=>by
  have e:q++zij []=q:=ziT q
  rw [e]
  show L=L.set k q
  have hk:k<L.length:=(List.getElem?_eq_some_iff.1 hq).1
  apply List.ext_getElem?
  intro i
  rw [List.getElem?_set]
  split
  ·rename_i h; subst h; exact hq
  ·rfl
 | t::ts,p,L,q,hq=>by
  have hk:k<L.length:=(List.getElem?_eq_some_iff.1 hq).1
  show (zhl l (k:Int) v (p+1) ts).foldl zlZ (zlZ L (zm2 l (k:Int) v p t))=_
  rw [zqV (r:=zm2 l (k:Int) v p t) (k:=k) rfl hq,show (zm2 l (k:Int) v p t).Text=t from rfl]
  rw [znP ts (p+1) (L.set k (q++t)) (q++t) (by simp [hk]),List.set_set]
  show L.set k (q++t++zij ts)=L.set k (q++(t++zij ts))
  rw [ByteArray.append_assoc]
theorem znO {l:zaO} (hm:zku l=true):∀ (vs:List zax) (pre:List zBA),(∀ v∈vs,OkV v)→(zdq l (pre.length:Int) vs).foldl zlZ (pre++List.replicate vs.length ByteArray.empty)=pre++vs.map (·.Text)
 | [],pre,_=>rfl
 | v::vs,pre,hv=>by
  have h:=hv v (List.mem_cons_self ..)
  obtain ⟨w1,w2,w3⟩:=zm7 hm h.i0
  have hsz:=h.sz
  have hcat:zij (znx l v)=v.Text:=zkm (s:=v.Text) (by omega) w2 w3
  show (zhl l (pre.length:Int) v 0 (znx l v)++zdq l ((pre.length:Int)+1) vs).foldl zlZ _=_
  rw [List.foldl_append,List.length_cons,List.replicate_succ,znP (znx l v) 0 _ ByteArray.empty (by simp),hcat,List.set_append_right _ _ (Nat.le_refl _),Nat.sub_self,List.set_cons_zero]
  have ih:=znO hm vs (pre++[v.Text]) (fun w hw=>hv w (List.mem_cons_of_mem _ hw))
  have e:ByteArray.empty++v.Text=v.Text:=ByteArray.empty_append
  rw [e,show ((pre.length:Int)+1)=(((pre++[v.Text]).length:Nat):Int) by simp]
  rw [List.append_assoc,List.append_assoc] at ih
  exact ih
structure PgC (n:Nat) (H:Int) (pg:List zap):Prop where
 hd:∃ r,pg[0]?=some r∧0≤r.Line
 lst:∃ r,pg[pg.length - 1]?=some r∧0≤r.Line
 hi:(pg.length:Int)≤H
 rw':∀ r∈pg,r.Line<(n:Int)∧r.Text.size≤1024
theorem zwn:∀ (l:List zap) (s:Int),(∀ (i:Nat) (a b:zap),l[i]?=some a→l[i+1]?=some b→b.Stanza=a.Stanza∨b.Stanza=a.Stanza+1)→(∀ a,l[0]?=some a→a.Stanza=s∨a.Stanza=s+1)→∀ z,l.getLast?=some z→((pgL (some s) l).length:Int)=l.length+(z.Stanza - s)
 | [],s,_,_,z,hz=>by cases hz
 | [x],s,_,h0,z,hz=>by
  have hx:=h0 x rfl
  have:x=z:=Option.some.inj hz
  subst this
  rw [zgP]
  split
  ·rename_i h
   show (1:Int)=1+(x.Stanza - s); omega
  ·show (2:Int)=1+(x.Stanza - s); omega
 | x::y::l,s,hc,h0,z,hz=>by
  have hx:=h0 x rfl
  have ih:=zwn (y::l) x.Stanza (fun i a b h1 h2=>hc (i+1) a b h1 h2) (fun a ha=>hc 0 x a rfl ha) z (by rw [← hz]; rfl)
  rw [zgP]
  rw [List.length_cons] at ih
  split
  ·rename_i h
   rw [List.length_cons,List.length_cons,List.length_cons]; omega
  ·rw [List.length_cons,List.length_cons,List.length_cons,List.length_cons]; omega
theorem zrr:∀ (l:List zap) (o:Option Int) (z:zap),l.getLast?=some z→(pgL o l).getLast?=some z
 | [],o,z,h=>by cases h
 | [x],o,z,h=>by
  have:x=z:=Option.some.inj h
  subst this
  cases o with
  | none=>rfl
  | some s=>rw [zgP]; split <;> rfl
 | x::y::l,o,z,h=>by
  have ih:=fun o=>zrr (y::l) o z (by rw [← h]; rfl)
  have hne:∀ o,pgL o (y::l)≠[]:=fun o e=>by have:=ih o; rw [e] at this; cases this
  have key:∀ (a:zap) (k:List zap),k≠[]→k.getLast?=some z→(a::k).getLast?=some z:=by
   intro a k hk hz
   cases k with
   | nil=>exact absurd rfl hk
   | cons b k=>rw [← hz]; rfl
  cases o with
  | none=>exact key _ _ (hne _) (ih _)
  | some s =>
   rw [zgP]
   split
   ·exact key _ _ (hne _) (ih _)
   ·exact key _ _ (by simp) (key _ _ (hne _) (ih _))
theorem zlQ:∀ (l:List zap) (o:Option Int),∀ r∈pgL o l,r∈l∨r=zrT
 | [],o,r,h=>by cases o <;> cases h
 | x::l,none,r,h=>by
  rcases List.mem_cons.1 (show r∈x::pgL (some x.Stanza) l from h) with rfl | h
  ·exact .inl (List.mem_cons_self ..)
  ·exact (zlQ l _ r h).imp (List.mem_cons_of_mem _) id
 | x::l,some s,r,h=>by
  rw [zgP] at h
  split at h
  ·rcases List.mem_cons.1 h with rfl | h
   ·exact .inl (List.mem_cons_self ..)
   ·exact (zlQ l _ r h).imp (List.mem_cons_of_mem _) id
  ·rcases List.mem_cons.1 h with rfl | h
   ·exact .inr rfl
   ·rcases List.mem_cons.1 h with rfl | h
    ·exact .inl (List.mem_cons_self ..)
    ·exact (zlQ l _ r h).imp (List.mem_cons_of_mem _) id
theorem ztE {rows:List zap} {F L:List Int} {H:Int} {n:Nat} (hR:zm0 rows F L) (h0:∀ r∈rows,0≤r.Line∧r.Line<(n:Int)∧r.Text.size≤1024):∀ (ts:List Nat) (f:Nat),zq2 (Rp rows H) rows.length f ts→∀ pg∈zg5 rows f ts,PgC n H pg
 | [],f,_,pg,h=>by cases h
 | t::ts,f,hr,pg,h=>by
  obtain ⟨h1,h2,h3,h4⟩:=hr
  rcases List.mem_cons.1 (show pg∈pgL none ((rows.drop f).take (t - f))::zg5 rows t ts from h) with rfl | h
  ·have h3:zfo rows f t≤H:=of_decide_eq_true h3
   have hsl:((rows.drop f).take (t - f)).length=t - f:=by rw [List.length_take,List.length_drop]; omega
   have hget:∀ i,i<t - f→((rows.drop f).take (t - f))[i]?=rows[f+i]?:=fun i hi=>by rw [List.getElem?_take_of_lt hi,List.getElem?_drop]
   have hmem:∀ r∈(rows.drop f).take (t - f),r∈rows:=fun r hr=>List.mem_of_mem_drop (List.mem_of_mem_take hr)
   cases hs:(rows.drop f).take (t - f) with
   | nil=>rw [hs] at hsl; simp at hsl; omega
   | cons x xs =>
    rw [hs] at hsl hget hmem
    have hxf:rows[f]?=some x:=by have:=hget 0 (by omega); rw [Nat.add_zero] at this; rw [← this]; rfl
    have hxl:=h0 x (hmem x (List.mem_cons_self ..))
    obtain ⟨z,hz⟩:∃ z,(x::xs).getLast?=some z:=by
     cases h:(x::xs).getLast? with
     | none=>simp at h
     | some z=>exact ⟨z,rfl⟩
    have hzm:z∈x::xs:=List.mem_of_getLast? hz
    have hzr:rows[t - 1]?=some z:=by
     have:=hget (t - f - 1) (by omega)
     rw [show f+(t - f - 1)=t - 1 by omega] at this
     rw [← this,← hz,List.getLast?_eq_getElem?,hsl]
    have hzl:=h0 z (hmem z hzm)
    have hplast:=zrr (x::xs) none z hz
    have hlen:((pgL none (x::xs)).length:Int)≤H:=by
     have hch:∀ (i:Nat) (a b:zap),(x::xs)[i]?=some a→(x::xs)[i+1]?=some b→b.Stanza=a.Stanza∨b.Stanza=a.Stanza+1:=fun i a b ha hb=>by
      have hi:i+1<(x::xs).length:=(List.getElem?_eq_some_iff.1 hb).1
      rw [hget i (by omega)] at ha
      rw [hget (i+1) (by omega)] at hb
      exact hR.ch (f+i) a b ha hb
     have hk:((pgL none (x::xs)).length:Int)=(x::xs).length+(z.Stanza - x.Stanza):=by
      have:=zwn (x::xs) x.Stanza hch (fun a ha=>by have:x=a:=Option.some.inj ha; subst this; exact .inl rfl) z hz
      rw [zgP,if_pos rfl] at this
      exact this
     rw [hk,hsl]
     have hh:zfo rows f t=((t:Int) - f)+z.Stanza - x.Stanza:=by unfold zfo; rw [zjr hzr,zjr hxf]
     omega
    refine ⟨⟨x,rfl,hxl.1⟩,⟨z,?_,hzl.1⟩,hlen,fun r hr => ?_⟩
    ·rw [← List.getLast?_eq_getElem?]; exact hplast
    ·rcases zlQ _ _ r hr with h | h
     ·exact ⟨(h0 r (hmem r h)).2.1,(h0 r (hmem r h)).2.2⟩
     ·rw [h]; exact ⟨by show (-1:Int)<(n:Int); omega,by decide⟩
  ·exact ztE hR h0 ts t h4 pg h
theorem zou:∀ (ts:List zBA) (t:zBA),t∈ts→t.size≤zf1 ts
 | [],t,h=>by cases h
 | x::ts,t,h=>by
  show t.size≤x.size+zf1 ts
  rcases List.mem_cons.1 h with rfl | h
  ·omega
  ·have:=zou ts t h; omega
theorem zo8 {l:zaO} {k:Int} {v:zax}:∀ (ts:List zBA) (p:Int) (r:zap),r∈zhl l k v p ts→r.Text∈ts
 | [],p,r,h=>by cases h
 | t::ts,p,r,h=>by
  rcases List.mem_cons.1 (show r∈zm2 l k v p t::zhl l k v (p+1) ts from h) with rfl | h
  ·exact List.mem_cons_self ..
  ·exact List.mem_cons_of_mem _ (zo8 ts (p+1) r h)
theorem zo6 {l:zaO} (hm:zku l=true):∀ (vs:List zax) (k:Int),(∀ v∈vs,OkV v)→∀ r∈zdq l k vs,r.Text.size≤1024
 | [],k,_,r,hr=>by cases hr
 | v::vs,k,hv,r,hr=>by
  rcases List.mem_append.1 (show r∈zhl l k v 0 (znx l v)++zdq l (k+1) vs from hr) with hr | hr
  ·have h:=hv v (List.mem_cons_self ..)
   obtain ⟨w1,w2,w3⟩:=zm7 hm h.i0
   have hsz:=h.sz
   have hcat:zij (znx l v)=v.Text:=zkm (s:=v.Text) (by omega) w2 w3
   have:=zou _ _ (zo8 _ _ r hr)
   rw [← zok,hcat] at this
   omega
  ·exact zo6 hm vs (k+1) (fun w hw=>hv w (List.mem_cons_of_mem _ hw)) r hr
theorem zyz (p:zaC) (pg:List zap) (e:Int) (hp:p.told_lines.length≤512) (hpl:pg.length≤1000000) (hr:∀ r∈pg,r.Line<(p.told_lines.length:Int)∧r.Text.size≤1024) (j3:List zBA→Option Bool) :
  ∀ (d i m c:Nat) (L:List zBA),i+d=pg.length→d<m→Linv p.told_lines.length c L→c+d≤4000000→za1 (fun _ _=>none) (zb7 p (pg,e) j3) m L (i:Int)=j3 ((pg.drop i).foldl zlZ L):=by
 intro d
 induction d with
 | zero =>
  intro i m c L hi hm hL hc
  obtain ⟨m,rfl⟩:∃ q,m=q+1:=⟨m - 1,by omega⟩
  rw [zen]
  unfold zb7
  refine zaK (decide_eq_false (by show ¬ (i:Int)<(pg.length:Int); omega)) ?_
  rw [List.drop_of_length_le (by omega)]; rfl
 | succ d ih =>
  intro i m c L hi hm hL hc
  obtain ⟨m,rfl⟩:∃ q,m=q+1:=⟨m - 1,by omega⟩
  rw [zen]
  have hg:pg[i]?=some pg[i]:=List.getElem?_eq_getElem (by omega)
  obtain ⟨h1,h2⟩:=hr _ (List.mem_of_getElem? hg)
  have ih':=ih (i+1) m (c+1) (zlZ L pg[i]) (by omega) (by omega) (hL.add h2) (by omega)
  rw [show ((i+1:Nat):Int)=(i:Int)+1 by omega] at ih'
  rw [List.drop_eq_getElem_cons (show i<pg.length by omega)]
  generalize za1 (fun _ _=>none) (zb7 p (pg,e) j3) m=ag at ih' ⊢
  unfold zb7
  refine zaR (decide_eq_true (by show (i:Int)<(pg.length:Int); omega)) (zcj (za7 (zcY hg) (za7 (show zcw p=some (p.told_lines.length:Int) from rfl) (zaK (decide_eq_false (by omega)) ?_))))
  by_cases h0:0≤pg[i].Line
  ·obtain ⟨k,hk⟩:∃ k:Nat,pg[i].Line=(k:Int):=⟨pg[i].Line.toNat,by omega⟩
   have hlen:=hL.len
   have hq:L[k]?=some L[k]:=List.getElem?_eq_getElem (by omega)
   have hqs:=hL.sz _ (List.mem_of_getElem? hq)
   rw [zqV hk hq] at ih'
   refine zaR (decide_eq_true h0) (za7 (zfy hk hq) (zcm (by omega) (zcm ⟨by omega,by omega⟩ ?_)))
   rw [hk,Int.toNat_natCast,ih']
   show j3 _=j3 ((pg.drop (i+1)).foldl zlZ (zlZ L pg[i]))
   rw [zqV hk hq]
  ·rw [zlY (by omega)] at ih'
   refine zaK (decide_eq_false h0) (zcm ⟨by omega,by omega⟩ ?_)
   rw [ih']
   show j3 _=j3 ((pg.drop (i+1)).foldl zlZ (zlZ L pg[i]))
   rw [zlY (by omega)]
theorem zwU (s:zdn) (p:zaC) (b:zb5) (hp:p.told_lines.length≤512) (hb:b.pages.length≤4000000) (hC:∀ pg∈b.pages,PgC p.told_lines.length s.Layout_Height pg∧pg.length≤1000000) (j1:List zap→List zBA→Option Bool) :
  ∀ (d i m c:Nat) (R:List zap) (L:List zBA),i+d=b.pages.length→d<m→Linv p.told_lines.length c L→c+(b.pages.drop i).flatten.length≤4000000→R.length+(b.pages.drop i).flatten.length≤4000000 →
  za1 (fun _ _ _=>none) (zb8 s p j1 b (b.pages.length:Int)) m R L (i:Int)=j1 (R++(b.pages.drop i).flatten) ((b.pages.drop i).flatten.foldl zlZ L):=by
 intro d
 induction d with
 | zero =>
  intro i m c R L hi hm hL hc hR
  obtain ⟨m,rfl⟩:∃ q,m=q+1:=⟨m - 1,by omega⟩
  rw [zen]
  unfold zb8
  refine zaK (decide_eq_false (by omega)) ?_
  rw [List.drop_of_length_le (by omega)]
  show j1 R L=j1 (R++[]) L
  rw [List.append_nil]
 | succ d ih =>
  intro i m c R L hi hm hL hc hR
  obtain ⟨m,rfl⟩:∃ q,m=q+1:=⟨m - 1,by omega⟩
  have hg:b.pages[i]?=some b.pages[i]:=List.getElem?_eq_getElem (by omega)
  obtain ⟨⟨⟨x,hx,hx0⟩,⟨z,hz,hz0⟩,hH,hr⟩,hpl⟩:=hC _ (List.mem_of_getElem? hg)
  rw [List.drop_eq_getElem_cons (show i<b.pages.length by omega),List.flatten_cons,List.length_append] at hc hR
  have hpos:0<b.pages[i].length:=(List.getElem?_eq_some_iff.1 hx).1
  have ih':=ih (i+1) m (c+b.pages[i].length) (R++b.pages[i]) (b.pages[i].foldl zlZ L) (by omega) (by omega) (hL.fold _ fun r h=>(hr r h).2) (by omega) (by rw [List.length_append]; omega)
  rw [show ((i+1:Nat):Int)=(i:Int)+1 by omega] at ih'
  have hpage:zeU b (i:Int)=some (b.pages[i],0):=by
   unfold zeU
   refine zaK (decide_eq_false (by omega)) (zaK (decide_eq_false (by omega)) (za7 (zcY hg) (za7 ?_ rfl)))
   exact zcm (by omega) rfl
  rw [zen,List.drop_eq_getElem_cons (show i<b.pages.length by omega),List.flatten_cons,List.foldl_append,← List.append_assoc]
  generalize za1 (fun _ _ _=>none) (zb8 s p j1 b (b.pages.length:Int)) m=ag at ih' ⊢
  unfold zb8
  refine zaR (decide_eq_true (by omega)) (zcj (za7 hpage (zaK rfl (zaK (decide_eq_false (by show ¬ (b.pages[i].length:Int)<1; omega)) (zaK (decide_eq_false (by show ¬ s.Layout_Height<(b.pages[i].length:Int); omega)) ?_)))))
  refine za7 (zcY (i:=0) hx) (zaK (decide_eq_false (by omega)) (zcm (show I64 ((b.pages[i].length:Int) - 1) from ⟨by omega,by omega⟩) (za7 (zfy (n:=b.pages[i].length - 1) (show (b.pages[i].length:Int) - 1=((b.pages[i].length - 1:Nat):Int) by omega) hz) (zaK (decide_eq_false (by omega)) (zcj ?_)))))
  refine (zyz p b.pages[i] 0 hp hpl hr _ b.pages[i].length 0 zcD c L (by omega) (zdI (by omega)) hL (by omega)).trans ?_
  rw [List.drop_zero]
  exact zcm (show R.length+b.pages[i].length≤2147483648 by omega) (zcm ⟨by omega,by omega⟩ ih')
theorem zs0 (ek dn:Option Bool):∀ (vs:List zax) (pre:List zBA) (L:List zBA),L=pre++vs.map (·.Text)→zcQ dn (zbO L ek) (zkV pre.length vs)=dn
 | [],pre,L,_=>rfl
 | v::vs,pre,L,h=>by
  have ih:=zs0 ek dn vs (pre++[v.Text]) L (by rw [h,List.map_cons,List.append_assoc]; rfl)
  rw [List.length_append] at ih
  show zbO L ek ((pre.length:Int),v) (zcQ dn (zbO L ek) (zkV (pre.length+1) vs))=dn
  have ih:zcQ dn (zbO L ek) (zkV (pre.length+1) vs)=dn:=ih
  rw [ih]
  unfold zbO
  exact za7 (zcY (q:=v.Text) (by rw [h]; simp)) (zaK (by simp) rfl)
structure Oth (s:zBA) (O:List zBA) (r:zBA):Prop where
 cat:zij O++r=s
 len:O.length+r.size≤s.size
theorem zmQ:∀ (O:List zBA) (x:zBA),zij (O++[x])=zij O++x
 | [],x=>by show x++(⟨#[]⟩:zBA)=(⟨#[]⟩:zBA)++x; rw [ziT,zpz]
 | y::O,x=>by
  show y++zij (O++[x])=y++zij O++x
  rw [zmQ O x,ByteArray.append_assoc]
theorem zvB (s:zBA) (a b:Nat) (h:a≤b) (hb:b≤s.size):(zdR s (a:Int) (b:Int)).size=b - a:=by
 obtain ⟨q,rfl⟩:∃ q,b=a+q:=⟨b - a,by omega⟩
 have hc:=congrArg List.length (zgD s a q)
 rw [List.length_take,List.length_drop] at hc
 simp only [Array.length_toList] at hc
 have e:s.data.size=s.size:=rfl
 show (zdR s (a:Int) ((a+q:Nat):Int)).data.size=_
 rw [show (((a+q:Nat):Nat):Int)=(a:Int)+(q:Int) by omega,hc]; omega
theorem zqq (s:zBA) (hs:s.size≤1024) (cuts:List Int) (hc:cuts.length≤140737488355328) (j1:List zBA→zBA→Option Bool) (hj:∀ O r,Oth s O r→j1 O r=some true) :
  ∀ (d i m:Nat) (O:List zBA) (r:zBA),i+d=cuts.length→d<m→Oth s O r→za1 (fun _ _ _=>none) (zck cuts j1) m O r (i:Int)=some true:=by
 intro d
 induction d with
 | zero =>
  intro i m O r hi hm ho
  obtain ⟨m,rfl⟩:∃ q,m=q+1:=⟨m - 1,by omega⟩
  rw [zen]
  unfold zck
  exact zaK (decide_eq_false (by omega)) (hj O r ho)
 | succ d ih =>
  intro i m O r hi hm ho
  obtain ⟨m,rfl⟩:∃ q,m=q+1:=⟨m - 1,by omega⟩
  rw [zen]
  have ih':=fun O r ho=>ih (i+1) m O r (by omega) (by omega) ho
  rw [show ((i+1:Nat):Int)=(i:Int)+1 by omega] at ih'
  have hg:cuts[i]?=some cuts[i]:=List.getElem?_eq_getElem (by omega)
  have hol:=ho.len
  generalize za1 (fun _ _ _=>none) (zck cuts j1) m=ag at ih' ⊢
  unfold zck
  refine zaR (decide_eq_true (by omega)) (zcj (za7 (zcY hg) ?_))
  obtain ⟨k,hk,hk1⟩:∃ k:Nat,max cuts[i] 1=(k:Int)∧1≤k:=⟨(max cuts[i] 1).toNat,by omega,by omega⟩
  rw [hk]
  by_cases h:(k:Int)<(r.size:Int)
  ·refine zaR (decide_eq_true h) (zcm ⟨Int.le_refl _,by omega,by omega⟩ (zcm (by omega) (zcm ⟨by omega,by omega,Int.le_refl _⟩ (zcm ⟨by omega,by omega⟩ (ih' _ _ ⟨?_,?_⟩)))))
   ·rw [zmQ,ByteArray.append_assoc,zpF r 0 (k:Int) (r.size:Int) ⟨Int.le_refl _,by omega,by omega⟩,zpG]
    exact ho.cat
   ·rw [List.length_append,zvB r k r.size (by omega) (Nat.le_refl _)]
    show O.length+1+(r.size - k)≤s.size
    omega
  ·exact zaK (decide_eq_false h) (zcm ⟨by omega,by omega⟩ (ih' _ _ ho))
theorem zvc {l:zaO} (hm:zku l=true) (p:zaC) (k:Nat) (v:zax) (hv:p.told_lines[k]?=some v) (h:OkV v) (cuts:List Int) (hc:cuts.length≤140737488355328):zdp p l (k:Int) cuts=some true:=by
 obtain ⟨w1,w2,w3⟩:=zm7 hm h.i0
 have hsz:=h.sz
 have hs:v.Text.size≤100000:=by omega
 have hi:=h.i0
 have hle:=zlD hs
 have hcat:zij (zqi v.Text v.Indent l)=v.Text:=zkm hs w2 w3
 have hz:=zkn (zqi v.Text v.Indent l)
 rw [hcat] at hz
 have hT:=zzJ v.Text v.Indent l
 rw [if_pos ⟨hm,hi.1,hi.2,hsz⟩] at hT
 have hlen:(zqi v.Text v.Indent l).length≤100000:=by
  have hr:=ziP hs w2 w3 (zaD v.Text).length 0 (zqF hs w2 w3) (Nat.zero_le _)
  have h1:0+(zlC v.Text (zm4 v.Indent l) (zm3 l)).length≤max (zaD v.Text).length 0:=zlP hr
  have h2:∀ (ts:List Nat) (f:Nat),(zgg v.Text f ts).length=ts.length:=by
   intro ts
   induction ts with
   | nil=>intro f; rfl
   | cons t ts ih=>intro f; show (zgg v.Text t ts).length+1=ts.length+1; rw [ih]
  show (zgg v.Text 0 (zlC v.Text (zm4 v.Indent l) (zm3 l))).length≤100000
  rw [h2]
  omega
 have hC:=zwI (zqi v.Text v.Indent l) hlen (fun x hx=>by have:=zou _ x hx; omega) v.Indent l
 rw [if_pos ⟨hm,hi.1,hi.2,by omega⟩,hcat] at hC
 have hct:zjA v.Text (zm4 v.Indent l) (zm3 l) 0 (zqi v.Text v.Indent l)=some (TT v.Text (zm4 v.Indent l) (zm3 l) 0).cost:=znU hs w2 w3 (zaD v.Text).length 0 (zqF hs w2 w3) (Nat.zero_le _) (by omega)
 rw [hct] at hC
 have hJ:=zwq (zqi v.Text v.Indent l) (by omega) (by omega)
 rw [hcat] at hJ
 unfold zdp
 refine za7 (zxj hv) (za7 hT (za7 hC (zaK rfl (zaK rfl (zaK rfl (zaK (by simp [zBg]) (za7 hJ (zaK (by simp) (zcj ?_)))))))))
 refine zqq v.Text hsz cuts hc _ (fun O r ho => ?_) cuts.length 0 zcD [] v.Text (by omega) (zdI (by omega)) ⟨ByteArray.empty_append,by simp⟩
 have hol:=ho.len
 have hcs:zij (O++[r])=v.Text:=by rw [zmQ]; exact ho.cat
 have hz2:=zkn (O++[r])
 rw [hcs] at hz2
 have hC2:=zwI (O++[r]) (by rw [List.length_append]; simp; omega) (fun y hy=>by have:=zou _ y hy; omega) v.Indent l
 rw [if_pos ⟨hm,hi.1,hi.2,by omega⟩,hcs] at hC2
 refine zcm (by omega) (za7 hC2 ?_)
 cases hcf:zjA v.Text (zm4 v.Indent l) (zm3 l) 0 (O++[r]) with
 | none=>exact zaR rfl rfl
 | some c =>
  refine zaK rfl ?_
  show some (decide ((TT v.Text (zm4 v.Indent l) (zm3 l) 0).cost≤c))=some true
  refine congrArg some (decide_eq_true ?_)
  rcases znV (s:=v.Text) (a:=zm4 v.Indent l) (b:=zm3 l) hs w2 w3 (O++[r]) 0 c (Nat.zero_le _) (by rw [zwY]; omega) hcf with ⟨h1,h2⟩ | ⟨_,_,h3⟩
  ·simp at h1
  ·exact h3
theorem zsd:zeO=some true:=by decide +kernel
theorem zwV (s:zdn) (p:zaC) {l:zaO} (hl:l=⟨s.Layout_Width,s.Layout_Height,s.Layout_Turn,s.Layout_Every⟩) (hm:zku l=true) (hov:∀ v∈p.told_lines,OkV v) (hc:s.Cuts.length≤140737488355328) (h5:p.told_lines.length≤512) :
  (zan (zcw p) fun (r14:Int)=>zaB ((r14:Int)==0) (some true) (zan (zcw p) fun (r15:Int)=>grd (r15≠0)<|zan (zdp p (⟨s.Layout_Width,s.Layout_Height,s.Layout_Turn,s.Layout_Every⟩:zaO) (Int.tmod (max s.Line 0) r15) s.Cuts) fun (r16:Bool)=>some r16))=some true:=by
 have hL:zcw p=some (p.told_lines.length:Int):=rfl
 refine za7 hL ?_
 by_cases h0:p.told_lines.length=0
 ·exact zaR (by rw [h0]; rfl) rfl
 ·refine zaK (beq_eq_false_iff_ne.2 (by omega)) (za7 hL (zcm (by omega) ?_))
  have hk1:0≤Int.tmod (max s.Line 0) (p.told_lines.length:Int):=Int.tmod_nonneg _ (by omega)
  have hk2:Int.tmod (max s.Line 0) (p.told_lines.length:Int)<(p.told_lines.length:Int):=Int.tmod_lt_of_pos _ (by omega)
  obtain ⟨k,hk⟩:∃ k:Nat,Int.tmod (max s.Line 0) (p.told_lines.length:Int)=(k:Int):=⟨_,(Int.toNat_of_nonneg hk1).symm⟩
  rw [hk] at hk2 ⊢
  have hv:p.told_lines[k]?=some p.told_lines[k]:=List.getElem?_eq_getElem (by omega)
  rw [← hl]
  exact za7 (zvc hm p k _ hv (hov _ (List.mem_of_getElem? hv)) s.Cuts hc) rfl
theorem zse (s:zdn) (hc:s.Cuts.length≤140737488355328):zd9 s=some true:=by
 unfold zd9
 refine za7 zsd (zaK rfl ?_)
 obtain ⟨T,hT⟩:=zy2 s.Text
 have hp:=zwk T
 rw [← hT] at hp
 cases hrd:rd T with
 | error e =>
  rw [hrd] at hp
  have he:=zw7 hrd
  refine za7 hp (zaR (by show (!((e.Err:Int)==0))=true; rw [he]; rfl) rfl)
 | ok st =>
  rw [hrd] at hp
  have hp:zet s.Text=some (some (⟨mkB st.t,st.vs,zkt 0 st.stz,s.Text⟩:zaC),(⟨0,0⟩:zbS)):=by rw [hp,hT]
  have hok:=(zy0 hrd).1.ok s.Text
  generalize hP:(⟨mkB st.t,st.vs,zkt 0 st.stz,s.Text⟩:zaC)=p at hp hok
  generalize st.t=t at hok
  generalize st.stz=z at hok
  have hov:=hok.okV
  have hst:=hok.stp
  have hl5:p.told_lines.length≤512:=by have:=hok.len; have:=hok.most; omega
  refine za7 hp (zaK rfl (za7 rfl ?_))
  obtain ⟨l,hl⟩:∃ l:zaO,l=⟨s.Layout_Width,s.Layout_Height,s.Layout_Turn,s.Layout_Every⟩:=⟨_,rfl⟩
  have hS:=zA5 l p hov hl5 hst
  cases hm:zku l with
  | false =>
   rw [hm,if_neg (by decide),hl] at hS
   exact za7 hS (zaR rfl (zaR rfl rfl))
  | true =>
   rw [hm,if_pos rfl] at hS
   have hR:=zoq hm p.told_lines hov hl5 hst
   have hrise:=zi1 (zn4 hR (znM hm)) (zpZ (rows:=zdq l 0 p.told_lines) (znM hm)) (zdq l 0 p.told_lines).length 0 (Nat.zero_le _) (by omega)
   have hlen:=zmf hm p.told_lines 0 hov
   obtain ⟨l1,l2,l3⟩:=zrs (zkW (zdq l 0 p.told_lines) l.Height) 0 hrise (Nat.zero_le _)
   have hfl:(zk2 l p.told_lines).pages.flatten.length≤1100000:=by
    show (zg5 (zdq l 0 p.told_lines) 0 (zkW (zdq l 0 p.told_lines) l.Height)).flatten.length≤_
    omega
   have hpn:(zk2 l p.told_lines).pages.length≤600000:=by
    show (zg5 (zdq l 0 p.told_lines) 0 (zkW (zdq l 0 p.told_lines) l.Height)).length≤_
    rw [znL]; omega
   have hf:(zk2 l p.told_lines).pages.flatten.filter nb=zdq l 0 p.told_lines:=by
    have:=zmo (znJ l p.told_lines) (zkW (zdq l 0 p.told_lines) l.Height) 0 hrise
    rwa [List.drop_zero] at this
   have hC:=ztE (n:=p.told_lines.length) (H:=l.Height) hR (fun r hr=>by
    obtain ⟨j,v,h1,h2,h3⟩:=zhm hr
    have:=(List.getElem?_eq_some_iff.1 h1).1
    exact ⟨by omega,by omega,zo6 hm _ _ hov r hr⟩) (zkW (zdq l 0 p.told_lines) l.Height) 0 hrise
   have hH:s.Layout_Height=l.Height:=by rw [hl]
   have hHH:=znM hm
   have hfold:(zk2 l p.told_lines).pages.flatten.foldl zlZ (List.replicate p.told_lines.length ByteArray.empty)=p.told_lines.map (·.Text):=by
    rw [zqz,hf]
    have:=znO hm p.told_lines [] hov
    exact this
   have hb:zfn (zk2 l p.told_lines)=some ((zk2 l p.told_lines).pages.length:Int):=rfl
   have hL:zcw p=some (p.told_lines.length:Int):=rfl
   rw [hl] at hS
   refine za7 hS (zaK rfl (zcj (za7 hL (zcm ⟨by omega,by omega⟩ (za7 rfl ?_)))))
   rw [← hl]
   refine za7 hb ?_
   refine (zwU s p (zk2 l p.told_lines) hl5 (by omega) (fun pg hpg => ?_) _ (zk2 l p.told_lines).pages.length 0 zcD 0 [] _ (by omega) (zdI (by omega)) ⟨by rw [List.length_replicate]; exact Int.toNat_natCast _,fun q hq=>by rw [(List.mem_replicate.1 hq).2]; exact Nat.zero_le _⟩ (by rw [List.drop_zero]; omega) (by rw [List.drop_zero,List.length_nil]; omega)).trans ?_
   ·have:=hC pg hpg
    rw [hH]
    exact ⟨this,by have:=this.hi; omega⟩
   rw [List.drop_zero,Int.toNat_natCast,hfold,List.nil_append]
   refine zcj (za7 rfl (za7 (zqo p (by omega)) (zcj (zcj ?_))))
   refine (zs0 _ _ p.told_lines [] _ rfl).trans (zcj (za7 rfl ?_))
   have hz1:=znz z hok.ne
   have hz2:=hok.most
   have hback:=zuA hm hok hov hl5 hst (by omega) (fun r hr=>by have:=zqd z r hr; omega) (by omega) (mkB t)
   rw [ztN hok.toGoodP (by omega) (fun r hr=>by have:=zqd z r hr; omega)] at hback
   have hend:=zwV s p hl hm hov hc hl5
   rw [← hl] at hend
   by_cases hlp:65536<(prT t z).length
   ·rw [ztO hok.toGoodP hz2 hlp,← hok.title] at hback
    refine za7 hback (zaR rfl (za7 hok.print (zaK (decide_eq_false (by rw [zcr]; omega)) (zaK rfl hend))))
   ·obtain ⟨q,h1,h2⟩:=zsr hok.toGoodP hz2 (by omega)
    rw [h1,← hok.title] at hback
    exact za7 hback (zaK rfl (zaR rfl (za7 rfl (za7 (zyX h2 hok) (zaK (by simp) hend)))))
theorem topPages_any (x:zdn) (hd:Hd) {vv:Value} {k:Nat} {L:List Int} (w:World) (hw:Vw vv L 1 k hd.v x.Cuts) (hr:(zeJ (zlp .i64) 1 vv k L).P (fun b=>b<w.heap.size) w) (hc:x.Cuts.length≤140737488355328) :
  Calls prog 3 #[.agg #[.string x.Text,.int .i64 x.Layout_Width,.int .i64 x.Layout_Height,.int .i64 x.Layout_Turn,.int .i64 x.Layout_Every,.int .i64 x.Line,hd.v]] w fun e w'=>e=.returned (.bool true)∧Below w.heap.size w w' :=
 FnR.p (zh4 hw (zse x hc)) w (fun A hA=>by
  rcases List.mem_singleton.1 hA with rfl
  exact ⟨_,hr,fun _ _ h=>h⟩)
end Go.Proofs.YtmmhmppcemfdcaaGreatDoor
