/-
  Texts laid together: LfR, Qr, LfU, Qe, LfW2, LfS, Qf, Qg, Qh, Qk, LfW0, LfW1, LfSa, LfFa, Qi, LfG2, LfW3, LfSg, LfF2, Qj, Qw, Qs, Qp, Qu, Qz, LpR, LcA, LcB, LcC, LcS. Nothing is assumed.
-/
import Derived.Test.YtifpjbgnikjglaaGreatDoorCollateReads3
import Derived.Test.YtifpjbgnikjglaaGreatDoorCollateReads2
set_option maxRecDepth 100000
set_option maxHeartbeats 4000000
namespace Go.Proofs.YtifpjbgnikjglaaGreatDoor
open Go.RowKit Go.Lib
open Tryz
set_option linter.unusedVariables false
set_option linter.unusedSimpArgs false
open _root_.Array renaming toList_inj→fK,length_toList→dp
open _root_.Bool renaming false_eq_true→bw,and_eq_true→aR,eq_iff_iff→dJ
open _root_.ByteArray renaming empty→aA,empty_append→iG,append_assoc→dS,size_append→aK
open _root_.Go.IntWalk renaming i64_in→ai
open _root_.Go.Lib renaming extract_data→l9
open _root_.Go.Proofs.Tryz renaming underlying21→bg,underlying9→an,underlying5→dy,results155→oS,underlying46→de,results117→oT,underlying120→eJ,underlying103→bf
open cW renaming nil→gV
open Hd renaming nil→ew
open ap renaming nil→ad
open Vw renaming get→cI
open evP renaming cons→fr,nil→ph
open _root_.Go.Utf8 renaming encode→af
open _root_.Go.Value renaming int→ax,agg→aZ
open _root_.List renaming append_nil→aQ,length→gi,getElem?_eq_getElem→aP,mem_of_getElem?→aJ,drop_eq_getElem_cons→bB,drop_length→fQ,nil_append→bt,foldl_cons→bQ,length_cons→aj,mem_cons_self→aB,mem_append→bO,mem_of_getLast?→pi,mem_map→aW,mem_cons_of_mem→aq,cons_append→bp,map_cons→aE,flatMap_cons→aG,map_map→ce,map_nil→eu,mem_flatMap→fm,mem_cons→bE,eq_nil_of_length_eq_zero→co,takeWhile_cons→dM,takeWhile_append_dropWhile→lI,length_append→ah,mem_filter→cp,length_map→aF,map_append→eT
open _root_.Nat renaming le_of_not_lt→lF,lt_succ_self→av,zero_le→cH,add_mul→cT,one_mul→iY,le_refl→bJ
open _root_.Option renaming toList_none→pj
open _root_.Prod renaming fst→bu
def uS (r1:Int):Option Int := cJ (fun (j1:Option Int)=> aU ((r1:Int) != 65533) ( aU (decide (af r1=(⟨#[239,191,189]⟩:ab))) ( some 0
) ( j1
)
) ( j1
)
) ( some ((af r1).size:Int)
)
theorem GD {a:Int} {r:Int} (h:uS a=some r):dO prog 150 [.int .i32 a] (zI r):=by
 unfold uS at h
 refine dO.intro func150 rfl ntmps150 (by simp) ?_
 intro w0 K
 obtain⟨d,c,h⟩:=cP h
 refine c8 (β:=Unit) 1 rfl (fun b=>d=some r) (fun b=>[]) (fun b=>[(0,.int .i32 a)]) (fun b=>[]) (fun cut=>?_) ?_
 ·
  refine aC (ac 1 rfl (az (cut (aC (ac 1 rfl (aO rfl nc (ac 1 rfl ?_)))))))
  refine dG (s:=5) rfl h (fun h=>?_) (fun h=>?_)
  ·
   refine ac 1 rfl (jr rfl dc rfl (mf bg an) (aO rfl lf (ac 1 rfl (az ?_))))
   refine bG rfl h (fun h=>?_) (fun h=>?_)
   ·
    refine aC (ac 1 rfl (az (bI (bT ?_))))
    cases h
    exact dk 2 results150
   refine bH ?_
   exact bx () h rfl (aT rfl) ad
  refine ac 4 rfl (az (eQ rfl (bH ?_)))
  exact bx () h rfl (aT rfl) ad
 rintro _ h
 rw[c] at h
 refine aC (ac 1 rfl (jr rfl dc rfl (mf bg an) (ly rfl dc rfl an (ac 1 rfl (az (bI ?_))))))
 cases h
 exact dk 2 results150
def sf (r1:Int):Option Int := some (nQ .u8 (zO .u8 (IntKind.u8.wrap r1) 63) 128)
theorem uT {a:Int} {r:Int} (h:sf a=some r):dO prog 151 [.int .i32 a] (.int .u8 r):=by
 unfold sf at h
 refine dO.intro func151 rfl ntmps151 (by simp) ?_
 intro w0 K
 refine aC (ac 1 rfl (cv (ac 1 rfl (jr rfl dc rfl (rJ bg dy) (ac 1 rfl (cv ?_))))))
 refine ac 1 rfl (aO rfl Jk (ac 1 rfl (cv (ac 1 rfl (aO rfl xR (ac 1 rfl (cv ?_)))))))
 refine ac 2 rfl (az (bI ?_))
 cases h
 exact dk 2 results151
def zf3 (s1:ab) (at1:Int) (j1:Option cX) (ag1:Option cX):Option cX := aU (decide (0<(fe (c7 s1 at1 (s1.size:Int)).data.toList).length)) ( aX ((fe (c7 s1 at1 (s1.size:Int)).data.toList)[0]?) fun (p1:Pc)=> cJ (fun (j2:Int→Option cX)=> aX (uS (p1.r:Int)) fun (r1:Int)=> aU (((p1.r:Int):Int)==65533) ( aY (cR ((s1.size:Int) - at1)) <| aU (decide ((((s1.size:Int) - at1):Int)<3)) ( some (⟨at1,1,65533,true⟩:cX)
) ( aY (cR (at1+3)) <| aY (0≤(at1:Int)∧(at1:Int)≤(at1+3)∧(at1+3:Int)≤(s1.size:Int)) <| aU (!decide (c7 s1 at1 (at1+3)=(⟨#[239,191,189]⟩:ab))) ( some (⟨at1,1,65533,true⟩:cX)
) ( j2 r1
)
)
) ( j2 r1
)
) (fun (n2:Int)=> some (⟨at1,n2,(p1.r:Int),false⟩:cX)
)
) ( j1
)
def uU (s1:ab) (at1:Int):Option cX := cJ (fun (j1:Option cX)=> aY (0≤(at1:Int)∧(at1:Int)≤(s1.size:Int)∧((s1.size:Int):Int)≤(s1.size:Int)) <| zaI none (zf3 s1 at1 j1) zbH
) ( some (⟨0,0,0,false⟩:cX)
)
theorem NS {c:ab} {a:Int} {r:cX} (h:uU c a=some r):dO prog 155 [.string c,zI a] (.agg #[zI r.At,zI r.Width,.int .i32 r.Rune,.bool r.Broken]):=by
 unfold uU at h
 refine dO.intro func155 rfl ntmps155 (by simp) ?_
 intro w0 K
 obtain⟨g,w,h⟩:=cP h
 refine c8 (β:=Nat) 1 rfl (fun b=>g=some r) (fun b=>[]) (fun b=>[(4,zP b)]) (fun b=>[cells b [zI 0,zI 0,.int .i32 0,.bool false] 132]) (fun cut=>?_) ?_
 ·
  refine aC ?_
  refine eN og rfl dc (fun f=>?_)
  refine az (cut (aC (ac 2 rfl ?_)))
  obtain⟨A,h⟩:=bC h
  refine iz rfl dc rfl rfl rfl (jZ (i:=a) (j:=(c.size:Int)) an (.inr rfl) (.inl ⟨rfl,rfl⟩) A) ?_
  refine ur an rfl dc rfl (fun C=>?_)
  refine az (cy ?_)
  refine fh (β:=Nat) (fun b=>zaI none (zf3 c a g) b=some r) (fun b=>[]) (fun b=>[(0,.string c),(1,zI a),(4,zP f),(11,zP C)]) (fun b=>[cells f [zI 0,zI 0,.int .i32 0,.bool false] 132,obj C (.stringIter (c7 c a (c.size:Int)) (lV (c7 c a (c.size:Int)) 0))]) (fun b=>b) zbH h rfl (aT rfl) (aH [0,1] kr rfl) ?_
  rintro o h
  cases o with
  | zero=>exact fa h
  | succ o=>
   obtain⟨B,e⟩:∃ag,ag=zaI none (zf3 c a g) o:=⟨_,rfl⟩
   have h:zf3 c a g B=some r:=by rw[e];exact h
   unfold zf3 at h
   refine aC ?_
   refine sL (b:=decide (0<(fe (c7 c a (c.size:Int)).data.toList).length)) (fun d=>?_) (fun d=>?_)
   ·
    have h:=ng d h
    obtain⟨p1,t,h⟩:=bj h
    refine ut (k:=1) (m:=0) (p:=p1) rfl dc rfl rfl t (fS rfl dc rfl rfl (az (cm (iH rfl (bH (cz (cy ?_)))))))
    obtain⟨D,u,h⟩:=cP h
    refine c8 (β:=Int) 2 rfl (fun b=>D b=some r) (fun b=>[]) (fun b=>[(1,zI a),(4,zP f),(6,.int .i32 (p1.r:Int)),(7,zI b)]) (fun b=>[cells f [zI 0,zI 0,.int .i32 0,.bool false] 132]) (fun cut=>?_) ?_
    ·
     refine aC (fS rfl dc rfl rfl (ac 1 rfl (cv (ac 1 rfl ?_))))
     obtain⟨l,q,h⟩:=bj h
     refine dq (v:=zI l) (vs:=[.int .i32 (p1.r:Int)]) rfl dc rfl rfl rfl Fk (GD q) (ac 1 rfl (az (cut (aC (ac 1 rfl (aO rfl eE (ac 1 rfl ?_)))))))
     refine dG (s:=19) rfl h (fun h=>?_) (fun h=>?_)
     ·
      refine ac 1 rfl (ly rfl dc rfl an (ac 1 rfl ?_))
      obtain⟨z,h⟩:=bC h
      refine aO rfl (mD (r:=(c.size:Int) - a) (ai _ z)) (aO rfl ei (ac 1 rfl ?_))
      refine dG (s:=25) rfl h (fun h=>?_) (fun h=>?_)
      ·
       refine ac 8 rfl (az (iH rfl (aC (ac 1 rfl ?_))))
       refine eU (v:=.agg #[zI a,zI 1,.int .i32 65533,.bool true]) (ps:=[(0,.tmp 34),(1,.const (zI 1)),(2,.const (.int .i32 65533)),(3,.const (.bool true))]) rfl dc rfl (fun _=>by kernel_rfl) ?_
       refine eH (k:=0) (vs:=[zI a,zI 1,.int .i32 65533,.bool true]) (l':=[zI a,zI 1,.int .i32 65533,.bool true]) jP rfl rfl rfl rfl rfl (show _≤_ by simp) rfl rfl ?_
       refine az (bI (bT (cE (bT (cE (bT ?_))))))
       cases h
       exact eO (rs:=[.cell 4 132]) () (.inl rfl) oS (.cons (.cells kW (k:=0) rfl rfl rfl) .nil) rfl ad
      refine ac 3 rfl ?_
      obtain⟨y,h⟩:=bC h
      refine aO rfl (dN (r:=a+3) (ai _ y)) ?_
      obtain⟨x,h⟩:=bC h
      refine iz rfl dc rfl rfl rfl (jZ (i:=a) (j:=a+3) an (.inr rfl) (.inr rfl) x) (aO rfl qK (ac 2 rfl (az ?_)))
      refine bG rfl h (fun h=>?_) (fun h=>?_)
      ·
       refine aC (ac 1 rfl ?_)
       refine eU (v:=.agg #[zI a,zI 1,.int .i32 65533,.bool true]) (ps:=[(0,.tmp 34),(1,.const (zI 1)),(2,.const (.int .i32 65533)),(3,.const (.bool true))]) rfl dc rfl (fun _=>by kernel_rfl) ?_
       refine eH (k:=0) (vs:=[zI a,zI 1,.int .i32 65533,.bool true]) (l':=[zI a,zI 1,.int .i32 65533,.bool true]) jP rfl rfl rfl rfl rfl (show _≤_ by simp) rfl rfl ?_
       refine az (bI (bT (cE (bT (cE (bT ?_))))))
       cases h
       exact eO (rs:=[.cell 4 132]) () (.inl rfl) oS (.cons (.cells kW (k:=0) rfl rfl rfl) .nil) rfl ad
      refine bH ?_
      exact bx l h rfl (aT rfl) (aH [0] kr rfl)
     refine ac 14 rfl ?_
     refine az (eQ rfl (bH ?_))
     exact bx l h rfl (aT rfl) (aH [0] kr rfl)
    rintro n h
    rw[u] at h
    refine aC (ac 3 rfl ?_)
    refine eU (v:=.agg #[zI a,zI n,.int .i32 (p1.r:Int),.bool false]) (ps:=[(0,.tmp 36),(1,.tmp 37),(2,.tmp 38)]) rfl dc rfl (fun _=>by kernel_rfl) ?_
    refine eH (k:=0) (vs:=[zI a,zI n,.int .i32 (p1.r:Int),.bool false]) (l':=[zI a,zI n,.int .i32 (p1.r:Int),.bool false]) jP rfl rfl rfl rfl rfl (show _≤_ by simp) rfl rfl (az (bI (cE (bT (cE (bT ?_))))))
    cases h
    exact eO (rs:=[.cell 4 132]) () (.inl rfl) oS (.cons (.cells kW (k:=0) rfl rfl rfl) .nil) rfl ad
   have h:=nh d h
   refine uu (k:=1) (m:=0) rfl dc rfl rfl (lF (of_decide_eq_false d)) (fS rfl dc rfl rfl (az (cm (eQ rfl (dZ (cA (cA (ed ?_))))))))
   exact bx f h rfl (aT rfl) (aH [0] kr rfl)
 rintro b1 h
 rw[w] at h
 refine aC ?_
 refine eU (v:=.agg #[zI 0,zI 0,.int .i32 0,.bool false]) (ps:=[]) rfl dc rfl (fun _=>by kernel_rfl) ?_
 refine eH (k:=0) (vs:=[zI 0,zI 0,.int .i32 0,.bool false]) (l':=[zI 0,zI 0,.int .i32 0,.bool false]) jP rfl rfl rfl rfl rfl (show _≤_ by simp) rfl rfl (az (bI ?_))
 cases h
 exact eO (rs:=[.cell 4 132]) () (.inl rfl) oS (.cons (.cells kW (k:=0) rfl rfl rfl) .nil) rfl ad
def BH (r1:Int):Option ab := cJ (fun (j1:Int→Option ab)=> aX (uS r1) fun (r3:Int)=> aU ((r3:Int)==0) ( j1 65533
) ( j1 r1
)
) (fun (r2:Int)=> aU (decide ((r2:Int)<128)) ( aY (∀x∈([IntKind.u8.wrap r2]:List Int),U8 x) <| some (jA ([IntKind.u8.wrap r2]:List Int))
) ( aU (decide ((r2:Int)<2048)) ( aX (sf r2) fun (r4:Int)=> aY (∀x∈([nQ .u8 192 (IntKind.u8.wrap (mg .i32 r2 6)),r4]:List Int),U8 x) <| some (jA ([nQ .u8 192 (IntKind.u8.wrap (mg .i32 r2 6)),r4]:List Int))
) ( aU (decide ((r2:Int)<65536)) ( aX (sf (mg .i32 r2 6)) fun (r5:Int)=> aX (sf r2) fun (r6:Int)=> aY (∀x∈([nQ .u8 224 (IntKind.u8.wrap (mg .i32 r2 12)),r5,r6]:List Int),U8 x) <| some (jA ([nQ .u8 224 (IntKind.u8.wrap (mg .i32 r2 12)),r5,r6]:List Int))
) ( aX (sf (mg .i32 r2 12)) fun (r7:Int)=> aX (sf (mg .i32 r2 6)) fun (r8:Int)=> aX (sf r2) fun (r9:Int)=> aY (∀x∈([nQ .u8 240 (IntKind.u8.wrap (mg .i32 r2 18)),r7,r8,r9]:List Int),U8 x) <| some (jA ([nQ .u8 240 (IntKind.u8.wrap (mg .i32 r2 18)),r7,r8,r9]:List Int))
)
)
)
)
theorem NT {c:Int} {r:ab} (h:BH c=some r):dO prog 117 [.int .i32 c] (.string r):=by
 unfold BH at h
 refine dO.intro func117 rfl ntmps117 (by simp) ?_
 intro w0 K
 obtain⟨A,t,h⟩:=cP h
 refine c8 (β:=Int) 1 rfl (fun b=>A b=some r) (fun b=>[]) (fun b=>[(0,.int .i32 b)]) (fun b=>[]) (fun cut=>?_) ?_
 ·
  refine aC (ac 1 rfl (az (cut (aC (ac 1 rfl ?_)))))
  obtain⟨z,s,h⟩:=bj h
  refine dq (v:=zI z) (vs:=[.int .i32 c]) rfl dc rfl rfl rfl Fk (GD s) (aO rfl eE (az ?_))
  refine bG rfl h (fun h=>?_) (fun h=>?_)
  ·
   refine ct (ac 1 rfl (bU ?_))
   exact bx 65533 h rfl (aT rfl) ad
  refine bH ?_
  exact bx c h rfl (aT rfl) ad
 rintro a h
 rw[t] at h
 refine cm (cy (aC (ac 1 rfl (aO rfl ei (ac 1 rfl (az ?_))))))
 refine bG rfl h (fun h=>?_) (fun h=>?_)
 ·
  refine aC (ac 1 rfl (jr rfl dc rfl (rJ bg dy) ?_))
  refine gl (cs:=[.int .u8 (IntKind.u8.wrap a)]) (te:=5) (ps:=[(0,.tmp 10)]) rfl dc rfl (fun _=>by kernel_rfl) (fun b1=>?_)
  refine mS ([IntKind.u8.wrap a]:List Int) (k:=0) rfl jh rfl (show 1≤maxLen by decide) ?_
  obtain⟨y,h⟩:=bC h
  refine rD (k:=0) rfl (tS y) ?_
  refine p5 (k:=0) rfl dc rfl rfl de dy an (ac 1 rfl (az (bI (cE (bT ?_)))))
  cases h
  exact dk 2 oT
 refine aC (ac 1 rfl (aO rfl ei (ac 1 rfl (az ?_))))
 refine bG rfl h (fun h=>?_) (fun h=>?_)
 ·
  refine aC (ac 1 rfl (aO rfl (tP dc) (jr rfl dc rfl (rJ bg dy) (aO rfl xR (ac 1 rfl ?_)))))
  obtain⟨j,q,h⟩:=bj h
  refine dq (v:=.int .u8 j) (vs:=[.int .i32 a]) rfl dc rfl rfl rfl uk (uT q) ?_
  refine gl (cs:=[.int .u8 (nQ .u8 192 (IntKind.u8.wrap (mg .i32 a 6))),.int .u8 j]) (te:=5) (ps:=[(0,.tmp 19),(1,.tmp 21)]) rfl dc rfl (fun _=>by kernel_rfl) (fun D=>?_)
  refine mS ([nQ .u8 192 (IntKind.u8.wrap (mg .i32 a 6)),j]:List Int) (k:=0) rfl jh rfl (show 2≤maxLen by decide) ?_
  obtain⟨x,h⟩:=bC h
  refine rD (k:=0) rfl (tS x) ?_
  refine p5 (k:=0) rfl dc rfl rfl de dy an (ac 1 rfl (az (bI (cE (bT ?_)))))
  cases h
  exact dk 2 oT
 refine aC (ac 1 rfl (aO rfl ei (ac 1 rfl (az ?_))))
 refine bG rfl h (fun h=>?_) (fun h=>?_)
 ·
  refine aC (ac 1 rfl (aO rfl (tP dc) (jr rfl dc rfl (rJ bg dy) (aO rfl xR (ac 1 rfl (aO rfl (tP dc) ?_))))))
  obtain⟨i,p,h⟩:=bj h
  refine dq (v:=.int .u8 i) (vs:=[.int .i32 (mg .i32 a 6)]) rfl dc rfl rfl rfl uk (uT p) (ac 1 rfl ?_)
  obtain⟨g,o,h⟩:=bj h
  refine dq (v:=.int .u8 g) (vs:=[.int .i32 a]) rfl dc rfl rfl rfl uk (uT o) ?_
  refine gl (cs:=[.int .u8 (nQ .u8 224 (IntKind.u8.wrap (mg .i32 a 12))),.int .u8 i,.int .u8 g]) (te:=5) (ps:=[(0,.tmp 30),(1,.tmp 33),(2,.tmp 35)]) rfl dc rfl (fun _=>by kernel_rfl) (fun C=>?_)
  refine mS ([nQ .u8 224 (IntKind.u8.wrap (mg .i32 a 12)),i,g]:List Int) (k:=0) rfl jh rfl (show 3≤maxLen by decide) ?_
  obtain⟨w,h⟩:=bC h
  refine rD (k:=0) rfl (tS w) ?_
  refine p5 (k:=0) rfl dc rfl rfl de dy an (ac 1 rfl (az (bI (cE (bT ?_)))))
  cases h
  exact dk 2 oT
 refine bH (cw (cz (aC (ac 1 rfl (aO rfl (tP dc) (jr rfl dc rfl (rJ bg dy) (aO rfl xR (ac 1 rfl (aO rfl (tP dc) ?_)))))))))
 obtain⟨f,n,h⟩:=bj h
 refine dq (v:=.int .u8 f) (vs:=[.int .i32 (mg .i32 a 12)]) rfl dc rfl rfl rfl uk (uT n) (ac 1 rfl (aO rfl (tP dc) ?_))
 obtain⟨e,m,h⟩:=bj h
 refine dq (v:=.int .u8 e) (vs:=[.int .i32 (mg .i32 a 6)]) rfl dc rfl rfl rfl uk (uT m) (ac 1 rfl ?_)
 obtain⟨d,l,h⟩:=bj h
 refine dq (v:=.int .u8 d) (vs:=[.int .i32 a]) rfl dc rfl rfl rfl uk (uT l) ?_
 refine gl (cs:=[.int .u8 (nQ .u8 240 (IntKind.u8.wrap (mg .i32 a 18))),.int .u8 f,.int .u8 e,.int .u8 d]) (te:=5) (ps:=[(0,.tmp 41),(1,.tmp 44),(2,.tmp 47),(3,.tmp 49)]) rfl dc rfl (fun _=>by kernel_rfl) (fun B=>?_)
 refine mS ([nQ .u8 240 (IntKind.u8.wrap (mg .i32 a 18)),f,e,d]:List Int) (k:=0) rfl jh rfl (show 4≤maxLen by decide) ?_
 obtain⟨u,h⟩:=bC h
 refine rD (k:=0) rfl (tS u) ?_
 refine p5 (k:=0) rfl dc rfl rfl de dy an (ac 1 rfl (az (bI ?_)))
 cases h
 exact dk 2 oT
def zdn (c0:ab) (ag1:Nat→Option (List cX)) (m3:Nat):Option (List cX) := aU (decide (m3<(fe c0.data.toList).length)) ( aX ((fe c0.data.toList)[m3]?) fun (p1:Pc)=> aX (uU c0 (p1.i:Int)) fun (r1:cX)=> rM r1 <| ag1 (m3+1)
) ( some []
)
def ri (c0:ab):Option (List cX) := zaI (fun _=>none) (zdn c0) zbH 0
theorem xa {c:Nat} {c0:ab} {xs:(List cX)} (h:ri c0=some xs):qJ prog 154 [zP c] (fun q:cX=>[.agg #[zI q.At,zI q.Width,.int .i32 q.Rune,.bool q.Broken]]) xs [(c,.cells #[.string c0] 9 (0,0))]:=by
 unfold ri at h
 refine qJ.intro func154 rfl ntmps154 (by simp) ?_
 intro l w0 K I X t hy
 obtain⟨r0,s⟩:∃r,xs=[]++r:=⟨xs,rfl⟩
 have z:xs=r0:=s
 rw[z] at h
 refine aC (xL (i:=0) t ea rfl dc rfl rfl rfl ?_)
 refine ur an rfl dc rfl (fun b1=>?_)
 refine az (cy ?_)
 refine fh (β:=Nat×Nat×(List cX)×(List cX)) (fun b=>zaI (fun _=>none) (zdn c0) b.1 b.2.1=some b.2.2.2∧xs=b.2.2.1++b.2.2.2) (fun b=>[]) (fun b=>[(0,.func (.yield l) #[] #[]),(1,zP c),(5,zP b1)]) (fun b=>[I b.2.2.1,obj b1 (.stringIter c0 (lV c0 b.2.1))]) (fun b=>b.1) (zbH,0,([]:List cX),r0) ⟨h,s⟩ rfl (aT rfl) (aH [0,1] kr rfl) ?_
 rintro⟨u,n,a,w⟩ ⟨h,o⟩
 cases u with
 | zero=>exact fa h
 | succ u=>
  obtain⟨C,g⟩:∃ag,ag=zaI (fun _=>none) (zdn c0) u:=⟨_,rfl⟩
  have h:zdn c0 C n=some w:=by rw[g];exact h
  unfold zdn at h
  refine aC ?_
  refine sL (b:=decide (n<(fe c0.data.toList).length)) (fun e=>?_) (fun e=>?_)
  ·
   have h:=ng e h
   obtain⟨p1,B,h⟩:=bj h
   refine ut (k:=1) (m:=n) (p:=p1) rfl dc rfl rfl B (fS rfl dc rfl rfl (az (cm (iH rfl (bH (cz (cy (aC (fS rfl dc rfl rfl (ac 1 rfl (bU ?_)))))))))))
   refine cz (aC (ac 1 rfl (xL (i:=0) t ea rfl dc rfl rfl rfl (ac 1 rfl ?_))))
   obtain⟨f,A,h⟩:=bj h
   refine dq (v:=.agg #[zI f.At,zI f.Width,.int .i32 f.Rune,.bool f.Broken]) (vs:=[.string c0,zI (p1.i:Int)]) rfl dc rfl rfl rfl LN (NS A) ?_
   obtain⟨d,y,h⟩:=sO h
   have j:xs=a++f::d:=by rw[o,y]
   refine sG hy rfl dc rfl j rfl (k:=0) rfl ?_ ?_
   ·
    have x:xs=(a++[f])++d:=by rw[j];simp
    refine jq rfl dc rfl js (az (eQ rfl (bH (cw ?_))))
    subst g
    exact ff (u,n+1,a++[f],d) ⟨h,x⟩ (av _) rfl (aT rfl) (aH [0,1] kr rfl)
   refine jq rfl dc rfl js (az (iH rfl (bI (cE (bT (cE ?_))))))
   exact sI (ds:=[]) a f d j (.inl rfl) ad results154 (aH [0] kr rfl)
  have h:=nh e h
  refine uu (k:=1) (m:=n) rfl dc rfl rfl (lF (of_decide_eq_false e)) (fS rfl dc rfl rfl (az (cm (eQ rfl (dZ (cA (cA (ed ?_))))))))
  cases h
  exact tI (ds:=[]) (.inr rfl) ad results154 (aL I (o.trans (aQ _))) (aH [0] kr rfl)
def tq (s1:ab):Option ab := some s1
theorem xb {a:ab} {r:ab} (h:tq a=some r):Fn prog 122 [.string a] [] (fun v0:Nat=>.func (.func 154) #[] #[zP v0]) (fun v0=>[cells v0 [.string r] 9]):=by
 unfold tq at h
 refine _root_.Go.Proofs.YtifpjbgnikjglaaGreatDoor.Fn.intro func122 rfl ntmps122 (by simp) ?_
 intro w0 K
 refine aC ?_
 refine jy rfl dc rfl (fun b1=>?_)
 refine ac 1 rfl (cv (tF (x1:=[]) (x2:=[.tmp 1]) rfl dc rfl rfl (ac 1 rfl (az (bI ?_)))))
 cases h
 exact eO (rs:=[.tmp 2]) b1 (.inl rfl) results122 (.cons (.tmp rfl) .nil) rfl (aH [0] kr rfl)
theorem NU (r:Int) (hv:0≤r∧(r<55296∨(57343<r∧r≤1114111))) (hr:¬ r=65533):¬ af r=⟨#[239,191,189]⟩:=by
 intro h
 obtain⟨n,rfl⟩:=Int.eq_ofNat_of_zero_le hv.1
 have h1:encodeRune ((n:Nat):Int)=[239,191,189]:=by rw[← o0,h]
 have h2:=yw n (by omega) []
 have a:=yw 65533 (by omega) []
 rw[h1] at h2
 rw[zW] at a
 rw[h2] at a
 have:=(Prod.mk.inj a).1
 omega
theorem NV (r:Int) (hv:vr r):uS r=some ((af r).size:Int):=by
 unfold uS
 refine dv ?_
 by_cases h:r=65533
 ·exact cr (bne_eq_false_iff_eq.2 h) rfl
 ·exact cu (er.2 h) (cr (ae (NU r (by unfold vr at hv;omega) h)) rfl)
theorem NW (s:ab) (a:Nat) (u:a<s.size) (hsz:s.size≤9223372036854775000):uU s (a:Int)=some (gh ⟨a,(decodeL (s.data.toList.drop a)).2,(decodeL (s.data.toList.drop a)).1⟩):=by
 unfold uU
 obtain⟨F,q,_⟩:=uB 1 (by omega)
 rw[q]
 refine dv (zbx ⟨by omega,by omega,by omega⟩ ?_)
 rw[ic]
 generalize zaI _ _ F=ag
 unfold zf3
 have g:s.data.toList.drop a≠[]:=by
  intro h;have:=aL gi h;simp at this;omega
 have f:=vN _ g
 have m:(s.data.toList.drop a).length=s.size - a:=by simp
 have p:=f.le
 have e:(c7 s (a:Int) (s.size:Int)).data.toList=s.data.toList.drop a:=by unfold c7;exact Jz s a
 have hp:fe (c7 s (a:Int) (s.size:Int)).data.toList=⟨0,(decodeL (s.data.toList.drop a)).2,(decodeL (s.data.toList.drop a)).1⟩::mi (0+(decodeL (s.data.toList.drop a)).2) ((s.data.toList.drop a).drop (decodeL (s.data.toList.drop a)).2):=by
  rw[e];unfold fe;rw[qO _ _ g]
 have j:vr ((decodeL (s.data.toList.drop a)).1:Int):=by have:=f.valid;unfold vr;omega
 refine cu (al (by rw[hp];simp)) (bN (by rw[hp];rfl) (dv (bN (NV _ j) ?_)))
 simp only
 unfold gh Pc.broken
 have l:=f.width
 have i:=f.lost_ok
 have k:=f.lost_bad
 generalize decodeL (s.data.toList.drop a)=d at *
 rcases d with⟨r,w⟩
 simp only at *
 by_cases hr:r=65533
 ·subst hr
  refine cu (by decide) (zbx ⟨by omega,by omega⟩ ?_)
  by_cases n:(s.size:Int) - a<3
  ·refine cu (al n) ?_
   have c:w=1:=by
    by_cases c:w=1
    ·exact c
    ·have:=(i rfl c).2;omega
   subst c;rfl
  ·have o:=Bu s a 3
   refine cr (ae n) (zbx ⟨by omega,by omega⟩ (zbx ⟨by omega,by omega,by omega⟩ ?_))
   by_cases c:w=1
   ·refine cu ?_ (by subst c;rfl)
    rw[ae]
    ·rfl
    ·intro h
     exact k rfl c (by rw[← o];exact aL (fun b:ab=>b.data.toList) h)
   ·obtain⟨t,h5⟩:=i rfl c
    refine cr ?_ ?_
    ·rw[al]
     ·rfl
     ·apply _root_.ByteArray.ext;apply fK.1;rw[show ((a:Int)+3)=(a:Int)+(3:Nat) from rfl,o,t]
    ·rw[zV,l (by omega)]
     subst h5;rfl
 ·refine cr (by rw[aS];omega) ?_
  rw[zV,l (by omega)]
  have:(r==65533&&w==1)=false:=by simp[hr]
  rw[this]
theorem BI (s:ab) (f:s.size≤2147483648):ri s=some ((fe s.data.toList).map gh):=by
 unfold ri
 have hc:(fe s.data.toList).length≤s.size:=by have:=vP s;unfold fA at this;simpa using this
 have key:∀ (n k:Nat),k≤(fe s.data.toList).length→(fe s.data.toList).length - k<n→zaI (fun _=>none) (zdn s) n k=some (((fe s.data.toList).drop k).map gh):=by
  intro n
  induction n with
  | zero=>intro k _ h;omega
  | succ n c=>
   intro k hk g
   rw[ic]
   generalize zaI (fun _=>none) (zdn s) n=ag at c ⊢
   unfold zdn
   by_cases h:k<(fe s.data.toList).length
   ·have hx:(fe s.data.toList)[k]?=some (fe s.data.toList)[k]:=aP h
    have hm:=aJ hx
    generalize (fe s.data.toList)[k]=p at hx hm
    obtain⟨l,j,a⟩:=sY s.data.toList p hm
    have d:s.data.toList.length=s.size:=by rw[dp];rfl
    have e:=a.pos
    have hr:uU s (p.i:Int)=some (gh p):=by
     have:=NW s p.i (by omega) (by omega)
     rw[this]
     have he:=a.eq
     rw[he]
    refine cu (al h) (bN hx (bN hr ?_))
    rw[c (k+1) (by omega) (by omega)]
    have hd:(fe s.data.toList).drop k=p::(fe s.data.toList).drop (k+1):=by
     obtain⟨b,he⟩:=List.getElem?_eq_some_iff.1 hx
     rw[← he];exact bB b
    rw[hd];rfl
   ·have:k=(fe s.data.toList).length:=by omega
    subst this
    exact cr (ae (by omega)) (by rw[fQ];rfl)
 have:=key zbH 0 (cH _) (by unfold zbH;omega)
 simpa using this
def zdR (j3:Int→Int→Int→(List Int)→(List Int)→Option (List cS)) (r6:(List Int)) (ag2:Int→Int→Int→(List Int)→(List Int)→Int→Option (List cS)) (u23:Int) (u24:Int) (u25:Int) (u26:List Int) (u27:List Int) (x6:Int):Option (List cS) := aU (decide ((x6:Int)<((fi r6 1 (r6.length:Int)).length:Int))) ( aX (zcy (fi r6 1 (r6.length:Int)) x6) fun (q2:Int)=> aX (uL (⟨u23,u24,u25,u26,u27⟩:cS) q2) fun (r7:cS)=> aY (cR (x6+1)) <| ag2 r7.at_ r7.broken r7.base r7.low r7.high (x6+1)
) ( j3 u23 u24 u25 u26 u27
)
def zeP (s1:ab) (r1:((List (zam×Int))×(List (Int×zam)))) (x1:cX) (ag1:(List cS)→Option (List cS)) (l4:List cS):Option (List cS) := aU (x1.Broken) ( aX (kR s1 x1.At) fun (c1:Int)=> aY (l4.length+1≤2147483648) <| ag1 (l4++[(⟨x1.At,c1,(-1),([]:List Int),([]:List Int)⟩:cS)])
) ( cJ (fun (j2:Option (List cS))=> aU (decide ((0:Int)<(l4.length:Int))) ( aY (cR ((l4.length:Int) - 1)) <| aX (zcy l4 ((l4.length:Int) - 1)) fun (x2:cS)=> aX (rh x2) fun (r3:Bool)=> aU (r3) ( aY (fN x1.Rune) <| aU (((kind x1.Rune):Int)==2) ( aY (cR ((l4.length:Int) - 1)) <| aX (zcy l4 ((l4.length:Int) - 1)) fun (x3:cS)=> aX (uL x3 x1.Rune) fun (r4:cS)=> ag1 (l4.set ((l4.length:Int) - 1:Int).toNat r4)
) ( j2
)
) ( j2
)
) ( j2
)
) ( cJ (fun (j3:Int→Int→Int→(List Int)→(List Int)→Option (List cS))=> aX (rh (⟨x1.At,0,x1.Rune,([]:List Int),([]:List Int)⟩:cS)) fun (r5:Bool)=> aU (r5) ( aX (tf r1.2 x1.Rune) fun (r6:(List Int))=> aX (zcy r6 0) fun (q1:Int)=> aY (0≤(1:Int)∧(1:Int)≤(r6.length:Int)∧((r6.length:Int):Int)≤(r6.length:Int)) <| zaI (fun _ _ _ _ _ _=>none) (zdR j3 r6) zbH x1.At 0 q1 ([]:List Int) ([]:List Int) 0
) ( j3 x1.At 0 x1.Rune ([]:List Int) ([]:List Int)
)
) (fun (u1:Int) (u2:Int) (u3:Int) (u4:List Int) (u5:List Int)=> aY (l4.length+1≤2147483648) <| ag1 (l4++[(⟨u1,u2,u3,u4,u5⟩:cS)])
)
)
)
def si (s1:ab):Option (List cS) := cJ (fun (j1:(List cS)→Option (List cS))=> aX (uN) fun (r1:((List (zam×Int))×(List (Int×zam))))=> aX (tq s1) fun (r2:ab)=> aX (ri r2) fun (its1:(List cX))=> cJ (fun (dn1:(List cS)→Option (List cS))=> zcM dn1 (zeP s1 r1) its1 ([]:List cS)
) (fun (l4:List cS)=> j1 l4
)
) (fun (l1:List cS)=> some l1
)
theorem BJ {A:ab} {r:(List cS)} (h:si A=some r):Fn prog 76 [.string A] [] (fun v0:Value=>v0) (fun v0=>[mh lj gX 123 5 v0 r]):=by
 unfold si at h
 refine _root_.Go.Proofs.YtifpjbgnikjglaaGreatDoor.Fn.intro func76 rfl ntmps76 (by simp) ?_
 intro w0 K
 refine qH ?_
 refine aC ?_
 refine jy rfl dc rfl (fun b1=>?_)
 refine ac 1 rfl (az ?_)
 refine DO (β:=Unit) (l:=0) (fun _=>False) (fun _=>[]) (fun _=>[]) rfl ?_ ?_
 ·
  obtain⟨j1,d6,h⟩:=cP h
  refine c8 (β:=(List cS)×Nat×Hd×(List Nat)) 3 rfl (fun b=>j1 b.1=some r) (fun b=>mQ b.2.2.2) (fun b=>[(5,zP b.2.1)]) (fun b=>[cells b.2.1 [b.2.2.1.v] 120,mh lj gX 123 5 b.2.2.1.v b.1,zgL ((b.2.2.2:List Nat).map eZ)]) (fun cut=>?_) ?_
  ·
   refine aC ?_
   obtain⟨C,d3,h⟩:=bj h
   refine fY (vs:=[]) rfl dc rfl rfl rfl AF (Bq d3) ad ?_
   rintro⟨b3,t⟩
   refine ac 1 rfl (fS rfl dc rfl rfl (fS rfl dc rfl rfl ?_))
   refine eN EQ rfl dc (fun H=>?_)
   refine ac 1 rfl ?_
   refine ef (k:=4) (l':=[.map (some t)]) EP rfl rfl rfl rfl rfl (fun _ _=>rfl) rfl ?_
   refine cv ?_
   refine eN KC rfl dc (fun B=>?_)
   refine az (cm (DB (cz (cut (aC (bF (k:=1) ea rfl dc rfl rfl rfl ?_))))))
   obtain⟨r2,d2,h⟩:=bj h
   refine fY (vs:=[.string A]) rfl dc rfl rfl rfl wg (xb d2) ad ?_
   rintro b7
   refine az (cy ?_)
   obtain⟨bk,d1,h⟩:=bj h
   refine JP (enc:=lj) (nest:=gX) (e:=123) (size:=5) ?_
   obtain⟨bb,c4,h⟩:=cP h
   refine sJ (α:=cX) (β:=(List cS)×Hd) (γ:=Unit) (δ:=Nat) (ps:=[18]) Ro.nil rfl wi (xa d1) (fun pre b=>∀post,bk=pre++post→zcM bb (zeP A C) post b.1=some r) (fun pre b=>[cells b1 [.string A] 9,cells H [.map (some t)] 116,cq (fun n:Int=>ax .i32 n) (fun p:zam=>aZ #[.int .i32 p.e0,.int .i32 p.e1]) t C.2,cells B [b.2.v] 120,mh lj gX 123 5 b.2.v b.1]) (fun c pre g=>False) (fun c pre g=>[]) (fun pre x b j=>[(1,zP b1),(2,.slice none 0 0),(4,zP H),(5,zP B),(17,.func (.func 154) #[] #[zP b7]),(6,zP j)]) (fun pre x b j=>[cells b1 [.string A] 9,cells H [.map (some t)] 116,cq (fun n:Int=>ax .i32 n) (fun p:zam=>aZ #[.int .i32 p.e0,.int .i32 p.e1]) t C.2,cells B [b.2.v] 120,mh lj gX 123 5 b.2.v b.1,cells j [zI x.At,zI x.Width,.int .i32 x.Rune,.bool x.Broken] 132]) (([]:List cS),ew) (fun post e=>by rw[bt] at e;subst e;exact h) (aH [1,4,3,5,7] kr rfl) ⟨.inl ⟨6,rfl⟩,trivial⟩ (fun _=>rfl) dc ?_ ?_ ?_ ?_
   ·
    rintro lp rc pre x1 post ⟨o,f⟩ w1 K1 E c3 di J
    refine ct ?_
    refine eN og rfl dc (fun b8=>?_)
    refine eH (k:=5) (vs:=[zI x1.At,zI x1.Width,.int .i32 x1.Rune,.bool x1.Broken]) (l':=[zI x1.At,zI x1.Width,.int .i32 x1.Rune,.bool x1.Broken]) jP rfl rfl rfl rfl rfl (show _≤_ by simp) rfl rfl ?_
    refine bU ?_
    exact fun a w ha hw=>⟨b8,(aT rfl) _ _ _ ha,hw.weaken (aH [0,1,2,3,4,5] kr rfl)⟩
   ·
    rintro lp rc pre x1 W ⟨o,f⟩ y w1 K1 E c3 di J
    have h:=J (x1::W) E
    obtain⟨e3,L⟩:∃ag,ag=zcM bb (zeP A C) W:=⟨_,rfl⟩
    have h:zeP A C x1 e3 o=some r:=by have h2:=h;rw[nz,← L] at h2;exact h2
    unfold zeP at h
    refine cy (cm (aC (cf ym rfl dc rfl (show _=3 from rfl) (bF (k:=5) nl rfl dc rfl rfl rfl (az ?_)))))
    refine bG rfl h (fun h=>?_) (fun h=>?_)
    ·
     refine cm ?_
     obtain⟨c1,cc,h⟩:=bj h
     obtain⟨ek,h⟩:=bC h
     refine xO (β:=Nat) 9 8 _ [(0,21,f.v),(1,22,zP y),(2,23,zI x1.At),(3,24,.string A),(4,25,zP y),(5,26,zI x1.At),(6,27,.int .u8 c1),(7,28,.agg #[zI x1.At,.int .u8 c1,.int .i32 (-1),.slice none 0 0,.slice none 0 0])] (fun b9=>[(29,.slice (some ⟨b9,0,none⟩) 1 1)]) (fun b9=>[cells b1 [.string A] 9,cells H [.map (some t)] 116,cq (fun n:Int=>ax .i32 n) (fun p:zam=>aZ #[.int .i32 p.e0,.int .i32 p.e1]) t C.2,cells B [f.v] 120,mh lj gX 123 5 f.v o,cells y [zI x1.At,zI x1.Width,.int .i32 x1.Rune,.bool x1.Broken] 132,cells b9 [zI x1.At,.int .u8 c1,.int .i32 (-1),.slice none 0 0,.slice none 0 0] 123]) mixed kr kr rfl dc dc (by rfl) kr kr (gk ?_ (gk ?_ (gk ?_ (gk ?_ (gk ?_ (gk ?_ (gk ?_ (gk ?_ (rG gV))))))))) (fun b9=>(gk ?_ (gk ?_ (gk ?_ (gk ?_ (gk ?_ (gk ?_ (gk ?_ (gk ?_ (rG gV)))))))))) ?_ ?_
     · exact fun D n d c u i=>bF (k:=3) sU rfl dc (dE (by rfl) rfl) rfl rfl (bm 0 u i)
     · exact fun D n d c u i=>cf lh rfl dc (dE (by rfl) rfl) (show _=0 from rfl) (bm 1 u i)
     · exact fun D n d c u i=>bF (k:=5) dQ rfl dc (bq 1 u d) rfl rfl (bm 2 u i)
     · exact fun D n d c u i=>bF (k:=0) ea rfl dc (dE (by rfl) rfl) rfl rfl (bm 3 u i)
     · exact fun D n d c u i=>cf lh rfl dc (dE (by rfl) rfl) (show _=0 from rfl) (bm 4 u i)
     · exact fun D n d c u i=>bF (k:=5) dQ rfl dc (bq 4 u d) rfl rfl (bm 5 u i)
     · exact fun D n d c u i=>ny rfl dc (bq 3 u d) (bq 5 u d) (p6 an cc) (bm 6 u i)
     · exact fun D n d c u i=>eU (v:=.agg #[zI x1.At,.int .u8 c1,.int .i32 (-1),.slice none 0 0,.slice none 0 0]) (ps:=[(0,.tmp 23),(1,.tmp 27),(2,.const (.int .i32 (-1)))]) rfl dc (fr (bq 2 u d) (fr (bq 6 u d) (fr rfl ph))) (fun _=>by kernel_rfl) (bm 7 u i)
     · exact fun D n d c u i=>bF (k:=3) sU rfl dc (dE (by rfl) rfl) rfl rfl (bm 0 u i)
     · exact fun D n d c u i=>cf lh rfl dc (dE (by rfl) rfl) (show _=0 from rfl) (bm 1 u i)
     · exact fun D n d c u i=>bF (k:=5) dQ rfl dc (bq 1 u d) rfl rfl (bm 2 u i)
     · exact fun D n d c u i=>bF (k:=0) ea rfl dc (dE (by rfl) rfl) rfl rfl (bm 3 u i)
     · exact fun D n d c u i=>cf lh rfl dc (dE (by rfl) rfl) (show _=0 from rfl) (bm 4 u i)
     · exact fun D n d c u i=>bF (k:=5) dQ rfl dc (bq 4 u d) rfl rfl (bm 5 u i)
     · exact fun D n d c u i=>ny rfl dc (bq 3 u d) (bq 5 u d) (p6 an cc) (bm 6 u i)
     · exact fun D n d c u i=>eU (v:=.agg #[zI x1.At,.int .u8 c1,.int .i32 (-1),.slice none 0 0,.slice none 0 0]) (ps:=[(0,.tmp 23),(1,.tmp 27),(2,.const (.int .i32 (-1)))]) rfl dc (fr (bq 2 u d) (fr (bq 6 u d) (fr rfl ph))) (fun _=>by kernel_rfl) (bm 7 u i)
     ·
      intro D hn hd e5
      refine gl (cs:=[zI x1.At,.int .u8 c1,.int .i32 (-1),.slice none 0 0,.slice none 0 0]) (te:=123) (ps:=[(0,.tmp 28)]) rfl dc (fr (ja (m:=7) kr rfl (hd 7 dc)) ph) (fun _=>by kernel_rfl) (fun b9=>?_)
      exact fun a w ha hw=>⟨b9,DJ (by rfl) _ _ _ ha,hw⟩
     intro b9
     refine tN (enc:=(kn (.i32))) (e:=21) (size:=1) ?_
     refine tN (enc:=(kn (.i32))) (e:=21) (size:=1) ?_
     refine pr (k:=4) rfl tW (fun dd b0=>?_)
     refine iT (k:=4) (k2:=6) (ys:=[((⟨x1.At,c1,(-1),([]:List Int),([]:List Int)⟩:cS),(ew,ew))]) eJ ES oh FF rfl dc rfl rfl rfl rfl rfl rfl (by rw[z6 b0];exact ek) (fun v1=>?_)
     refine jd (k:=4) rfl (fun a9 eq=>?_)
     subst eq
     refine vR (k:=9) rfl (aH [7,8] kr rfl) rfl (Eg (nest:=gX) (zs:=dd) (z:=((⟨x1.At,c1,(-1),([]:List Int),([]:List Int)⟩:cS),(ew,ew)))) ?_
     refine vR (k:=4) rfl (aH [9] kr rfl) rfl (vS (enc:=lj) (nest:=gX) (Eh b0)) ?_
     refine mj (L':=[cells b1 [.string A] 9,cells H [.map (some t)] 116,cq (fun n:Int=>ax .i32 n) (fun p:zam=>aZ #[.int .i32 p.e0,.int .i32 p.e1]) t C.2,cells B [f.v] 120,mh lj gX 123 5 a9.v (o++[(⟨x1.At,c1,(-1),([]:List Int),([]:List Int)⟩:cS)]),cells y [zI x1.At,zI x1.Width,.int .i32 x1.Rune,.bool x1.Broken] 132,cells b9 [zI x1.At,.int .u8 c1,.int .i32 (-1),.slice none 0 0,.slice none 0 0] 123]) (aH [0,1,2,3,4,5,6] kr rfl) ?_
     refine ef (k:=3) (l':=[a9.v]) ER rfl rfl rfl rfl rfl (fun _ _=>rfl) rfl ?_
     refine az (dZ (cA (ed ?_)))
     exact kP (o++[(⟨x1.At,c1,(-1),([]:List Int),([]:List Int)⟩:cS)],a9) (fun V e2=>by have e9:=kU E e2;subst e9;subst L;exact h) (aH [0,1,2,3,4] kr rfl)
    refine bH (cz ?_)
    obtain⟨j2,d5,h⟩:=cP h
    refine c8 (β:=Unit) 0 rfl (fun b=>j2=some r) (fun b=>[]) (fun b=>[(1,zP b1),(2,.slice none 0 0),(4,zP H),(5,zP B),(6,zP y),(17,.func (.func 154) #[] #[zP b7])]) (fun b=>[cells b1 [.string A] 9,cells H [.map (some t)] 116,cq (fun n:Int=>ax .i32 n) (fun p:zam=>aZ #[.int .i32 p.e0,.int .i32 p.e1]) t C.2,cells B [f.v] 120,mh lj gX 123 5 f.v o,cells y [zI x1.At,zI x1.Width,.int .i32 x1.Rune,.bool x1.Broken] 132]) (fun cut=>?_) ?_
    ·
     refine cut (aC (bF (k:=3) sU rfl dc rfl rfl rfl (Ju (k:=4) rfl dc rfl rfl eJ (ac 1 rfl (cv (ac 1 rfl (aO rfl lK (ac 1 rfl ?_))))))))
     refine dG (s:=35) rfl h (fun h=>?_) (fun h=>?_)
     ·
      refine bF (k:=3) sU rfl dc rfl rfl rfl (ac 1 rfl ?_)
      obtain⟨eg,h⟩:=bC h
      refine aO rfl (mD (r:=(o.length:Int) - 1) (ai _ eg)) ?_
      refine pr (k:=4) rfl tW (fun U X=>?_)
      obtain⟨x2,d0,h⟩:=bj h
      obtain⟨⟨a3,a2⟩,T⟩:=vU X d0
      refine fO (k:=4) T eJ qU rfl dc rfl rfl rfl rfl (mR (i:=((o.length:Int) - 1:Int).toNat) (j:=0) (k:=4) (q:=(x2,(a3,a2))) (cs:=[zI x2.at_,.int .u8 x2.broken,.int .i32 x2.base,a3.v,a2.v]) pv oh rfl dc rfl rfl (fb T) rfl rfl rfl ?_)
      refine pr (k:=6) rfl (vT (fb T)) (fun _ _=>?_)
      obtain⟨r3,dT,h⟩:=bj h
      refine ox (v:=.bool r3) (vs:=[.agg #[zI x2.at_,.int .u8 x2.broken,.int .i32 x2.base,a3.v,a2.v]]) rfl dc rfl rfl rfl yo (yI (u1:=x2) (u1_h0:=a3) (u1_h1:=a2) dT) [7,8] kr rfl (ac 2 rfl ?_)
      refine dG (s:=43) rfl h (fun h=>?_) (fun h=>?_)
      ·
       refine cf o7 rfl dc rfl (show _=2 from rfl) (bF (k:=5) fT rfl dc rfl rfl rfl ?_)
       obtain⟨c2,h⟩:=bC h
       refine dq (v:=zI (kind x1.Rune)) (vs:=[.int .i32 x1.Rune]) rfl dc rfl rfl rfl AN (nP fun w=>wq x1.Rune w c2.1 c2.2) ?_
       refine aO rfl eE (ac 1 rfl (az ?_))
       refine bG rfl h (fun h=>?_) (fun h=>?_)
       ·
        refine cm (JL (k:=6) rfl (aH [7,8] kr rfl) rfl (sQ (nest:=gX) (fb T) rfl) ?_)
        obtain⟨ec,h⟩:=bC h
        obtain⟨x3,ds,h⟩:=bj h
        obtain⟨⟨ex,et⟩,a1⟩:=vU X ds
        obtain⟨r4,dn,h⟩:=bj h
        refine jc 6 [(0,49,f.v),(1,50,zI (o.length:Int)),(2,51,zI ((o.length:Int) - 1)),(3,52,.pointer (some ⟨gG f.v,((o.length:Int) - 1:Int).toNat*5,none⟩)),(4,53,.pointer (some ⟨y,2,none⟩)),(5,54,.int .i32 x1.Rune)] mixed kr kr dc (by rfl) kr kr (bR ?_ (gY 1 1 rfl (bR ?_ (bR ?_ (bR ?_ (bR ?_ bM.nil)))))) ?_
        · exact fun D n d c u i=>bF (k:=3) sU rfl dc (dE (by rfl) rfl) rfl rfl (bm 0 u i)
        · exact fun D n d c u i=>kl rfl dc (bq 1 u d) rfl (mD (r:=(o.length:Int) - 1) (ai _ ec)) (bm 2 u i)
        · exact fun D n d c u i=>fO (k:=4) a1 eJ qU rfl dc (bq 0 u d) (bq 2 u d) rfl rfl (bm 3 u i)
        · exact fun D n d c u i=>cf o7 rfl dc (dE (by rfl) rfl) (show _=2 from rfl) (bm 4 u i)
        · exact fun D n d c u i=>bF (k:=5) fT rfl dc (bq 4 u d) rfl rfl (bm 5 u i)
        refine pr (k:=6) rfl (vT (fb a1)) (fun _ _=>?_)
        refine fY (vs:=[.pointer (some ⟨gG f.v,((o.length:Int) - 1:Int).toNat*5,none⟩),.int .i32 x1.Rune]) rfl dc rfl rfl rfl Fi (F9 (vu1:=f.v) (u1:=x3) (u1_h0:=ex) (u1_h1:=et) (fb a1) dn) (aH [4,9,10] kr rfl) ?_
        rintro⟨Z,Y⟩
        refine mj (L':=[cells b1 [.string A] 9,cells H [.map (some t)] 116,cq (fun n:Int=>ax .i32 n) (fun p:zam=>aZ #[.int .i32 p.e0,.int .i32 p.e1]) t C.2,cells B [f.v] 120,mr f.v (U.set (((o.length:Int) - 1:Int).toNat) (r4,(Z,Y))),cells y [zI x1.At,zI x1.Width,.int .i32 x1.Rune,.bool x1.Broken] 132,own gX (U.eraseIdx (((o.length:Int) - 1:Int).toNat)),cn,cn,cn,cn,eo Z.v r4.low,eo Y.v r4.high]) (aH [0,1,2,3,11,5,6,7,8,9,10,12,13] kr rfl) ?_
        refine vR (k:=6) rfl (aH [11,12] kr rfl) rfl (sQ (nest:=gX) (zs:=U) (z:=(r4,(Z,Y))) (JN (fb a1)) JO) ?_
        refine mj (L':=[cells b1 [.string A] 9,cells H [.map (some t)] 116,cq (fun n:Int=>ax .i32 n) (fun p:zam=>aZ #[.int .i32 p.e0,.int .i32 p.e1]) t C.2,cells B [f.v] 120,mr f.v (U.set (((o.length:Int) - 1:Int).toNat) (r4,(Z,Y))),cells y [zI x1.At,zI x1.Width,.int .i32 x1.Rune,.bool x1.Broken] 132,own gX (U.set (((o.length:Int) - 1:Int).toNat) (r4,(Z,Y))),cn,cn]) (aH [0,1,2,3,4,5,6,7,8] kr rfl) ?_
        refine az (dZ (cA (ed (rN (k:=4) rfl (aH [6] kr rfl) rfl (vS (enc:=lj) (nest:=gX) (JM X)) ?_))))
        exact kP (o.set ((o.length:Int) - 1:Int).toNat r4,f) (fun V e2=>by have e9:=kU E e2;subst e9;subst L;exact h) (aH [0,1,2,3,4] kr rfl)
       refine bH (rN (k:=6) rfl (aH [7,8] kr rfl) rfl (sQ (nest:=gX) (fb T) rfl) ?_)
       refine rN (k:=4) rfl (aH [6] kr rfl) rfl (vS (enc:=lj) (nest:=gX) X) ?_
       exact bx () h rfl (aT rfl) (aH [0,1,2,3,4,5] kr rfl)
      refine ac 5 rfl (az (eQ rfl (bH (rN (k:=6) rfl (aH [7,8] kr rfl) rfl (sQ (nest:=gX) (fb T) rfl) ?_))))
      refine rN (k:=4) rfl (aH [6] kr rfl) rfl (vS (enc:=lj) (nest:=gX) X) ?_
      exact bx () h rfl (aT rfl) (aH [0,1,2,3,4,5] kr rfl)
     refine ac 13 rfl (bU ?_)
     refine cz (eQ rfl (bH ?_))
     exact bx () h rfl (aT rfl) (aH [0,1,2,3,4,5] kr rfl)
    rintro _ h
    rw[d5] at h
    obtain⟨j3,d4,h⟩:=cP h
    refine c8 (β:=Int×Int×Int×(List Int)×(List Int)×Nat×Hd×Hd) 1 rfl (fun b=>j3 b.1 b.2.1 b.2.2.1 b.2.2.2.1 b.2.2.2.2.1=some r) (fun b=>[]) (fun b=>[(1,zP b1),(2,.slice none 0 0),(4,zP H),(5,zP B),(8,zP b.2.2.2.2.2.1),(17,.func (.func 154) #[] #[zP b7])]) (fun b=>[cells b1 [.string A] 9,cells H [.map (some t)] 116,cq (fun n:Int=>ax .i32 n) (fun p:zam=>aZ #[.int .i32 p.e0,.int .i32 p.e1]) t C.2,cells B [f.v] 120,mh lj gX 123 5 f.v o,cells b.2.2.2.2.2.1 [zI b.1,.int .u8 b.2.1,.int .i32 b.2.2.1,b.2.2.2.2.2.2.1.v,b.2.2.2.2.2.2.2.v] 123,eo b.2.2.2.2.2.2.1.v b.2.2.2.1,eo b.2.2.2.2.2.2.2.v b.2.2.2.2.1]) (fun cut=>?_) ?_
    ·
     refine aC (cf lh rfl dc rfl (show _=0 from rfl) (bF (k:=5) dQ rfl dc rfl rfl rfl (cf o7 rfl dc rfl (show _=2 from rfl) (bF (k:=5) fT rfl dc rfl rfl rfl ?_))))
     refine eU (v:=.agg #[zI x1.At,.int .u8 0,.int .i32 x1.Rune,.slice none 0 0,.slice none 0 0]) (ps:=[(0,.tmp 57),(2,.tmp 59)]) rfl dc rfl (fun _=>by kernel_rfl) ?_
     refine eN yl rfl dc (fun I=>?_)
     refine eH (k:=6) (vs:=[zI x1.At,.int .u8 0,.int .i32 x1.Rune,.slice none 0 0,.slice none 0 0]) (l':=[zI x1.At,.int .u8 0,.int .i32 x1.Rune,.slice none 0 0,.slice none 0 0]) qU rfl rfl rfl rfl rfl (show _≤_ by simp) rfl rfl ?_
     refine az (cut (aC (gM (k:=6) (cs:=[zI x1.At,.int .u8 0,.int .i32 x1.Rune,.slice none 0 0,.slice none 0 0]) pv rfl dc rfl rfl rfl rfl (tN (enc:=(kn (.i32))) (e:=21) (size:=1) ?_))))
     refine tN (enc:=(kn (.i32))) (e:=21) (size:=1) ?_
     obtain⟨r5,dj,h⟩:=bj h
     refine ox (v:=.bool r5) (vs:=[.agg #[zI x1.At,.int .u8 0,.int .i32 x1.Rune,.slice none 0 0,.slice none 0 0]]) rfl dc rfl rfl rfl yo (yI (u1:=(⟨x1.At,0,x1.Rune,([]:List Int),([]:List Int)⟩:cS)) (u1_h0:=ew) (u1_h1:=ew) dj) [7,8] kr rfl (az ?_)
     refine bG rfl h (fun h=>?_) (fun h=>?_)
     ·
      refine aC (bF (k:=1) yi rfl dc rfl rfl rfl (cf o7 rfl dc rfl (show _=2 from rfl) (bF (k:=5) fT rfl dc rfl rfl rfl ?_)))
      obtain⟨r6,c0,h⟩:=bj h
      refine fY (vs:=[.map (some t),.int .i32 x1.Rune]) rfl dc rfl rfl rfl AM (Ga c0) (aH [2] kr rfl) ?_
      rintro v2
      refine mj (L':=[cells b1 [.string A] 9,cells H [.map (some t)] 116,cq (fun n:Int=>ax .i32 n) (fun p:zam=>aZ #[.int .i32 p.e0,.int .i32 p.e1]) t C.2,cells B [f.v] 120,mh lj gX 123 5 f.v o,cells y [zI x1.At,zI x1.Width,.int .i32 x1.Rune,.bool x1.Broken] 132,cells I [zI x1.At,.int .u8 0,.int .i32 x1.Rune,.slice none 0 0,.slice none 0 0] 123,eo (.slice none 0 0) ([]:List Int),eo (.slice none 0 0) ([]:List Int),eo v2 r6]) (aH [0,1,9,3,4,5,6,7,8,10] kr rfl) ?_
      refine jd (k:=9) rfl (fun a6 en=>?_)
      subst en
      refine ac 1 rfl (cv (ac 1 rfl ?_))
      obtain⟨q1,a5,h⟩:=bj h
      refine fO (k:=9) a5 bf kq rfl dc rfl rfl rfl rfl (ib (i:=(0:Int).toNat) (j:=0) (k:=9) (q:=q1) fT jh rfl dc rfl rfl (fb a5) rfl dc rfl (cf nY rfl dc rfl (show _=2 from rfl) ?_))
      refine ef (k:=6) (l':=[zI x1.At,.int .u8 0,.int .i32 q1,.slice none 0 0,.slice none 0 0]) kq rfl rfl rfl rfl rfl (fun _ _=>rfl) rfl ?_
      refine cv (ac 1 rfl ?_)
      refine kG (k:=9) rfl (fun df=>?_)
      obtain⟨d9,h⟩:=bC h
      obtain⟨v3,a8,dg⟩:=oZ (lo:=some (zI 1)) (hi:=none) df bf kq (.inr rfl) (.inl ⟨rfl,rfl⟩) d9
      refine iz rfl dc rfl rfl rfl dg (iO a8 rfl dc rfl bf (ac 1 rfl (az (cy (nf (enc:=(kn (.i32))) (e:=21) (size:=1) ?_)))))
      refine nf (enc:=(kn (.i32))) (e:=21) (size:=1) ?_
      refine fh (β:=Nat×Int×Int×Int×(List Int)×(List Int)×Int×Hd×Hd) (fun b=>zaI (fun _ _ _ _ _ _=>none) (zdR j3 r6) b.1 b.2.1 b.2.2.1 b.2.2.2.1 b.2.2.2.2.1 b.2.2.2.2.2.1 b.2.2.2.2.2.2.1=some r) (fun b=>[]) (fun b=>[(1,zP b1),(2,.slice none 0 0),(4,zP H),(5,zP B),(8,zP I),(17,.func (.func 154) #[] #[zP b7]),(72,v3),(73,zI ((fi r6 1 (r6.length:Int)).length:Int)),(74,zI b.2.2.2.2.2.2.1)]) (fun b=>[cells b1 [.string A] 9,cells H [.map (some t)] 116,cq (fun n:Int=>ax .i32 n) (fun p:zam=>aZ #[.int .i32 p.e0,.int .i32 p.e1]) t C.2,cells B [f.v] 120,mh lj gX 123 5 f.v o,cells I [zI b.2.1,.int .u8 b.2.2.1,.int .i32 b.2.2.2.1,b.2.2.2.2.2.2.2.1.v,b.2.2.2.2.2.2.2.2.v] 123,eo b.2.2.2.2.2.2.2.1.v b.2.2.2.2.1,eo b.2.2.2.2.2.2.2.2.v b.2.2.2.2.2.1,eo a6.v r6]) (fun b=>b.1) (zbH,x1.At,0,q1,([]:List Int),([]:List Int),0,ew,ew) h rfl (aT rfl) (aH [0,1,2,3,4,6,10,11,9] kr rfl) ?_
      rintro⟨n1,Q,P,O,N,M,x6,G,F⟩ h
      cases n1 with
      | zero=>exact fa h
      | succ n1=>
       obtain⟨eM,a7⟩:∃ag,ag=zaI (fun _ _ _ _ _ _=>none) (zdR j3 r6) n1:=⟨_,rfl⟩
       have h:zdR j3 r6 eM Q P O N M x6=some r:=by rw[a7];exact h
       unfold zdR at h
       refine aC (aO rfl ei (az (cm ?_)))
       refine bG rfl h (fun h=>?_) (fun h=>?_)
       ·
        refine bH (cz (cm (cy (aC ?_))))
        obtain⟨q2,a4,h⟩:=bj h
        refine gq a8 a4 bf kq rfl dc rfl rfl rfl (ib (i:=0+(1:Int).toNat+(x6:Int).toNat) (j:=0) (k:=8) (q:=q2) fT jh rfl dc rfl rfl (cI a8 a4) rfl dc rfl (ac 1 rfl (az (ct (ac 1 rfl (mS (enc:=lj) [((⟨Q,P,O,N,M⟩:cS),(G,F))] (k:=5) rfl oh rfl (show 1≤maxLen by decide) ?_))))))
        obtain⟨r7,ch,h⟩:=bj h
        refine fY (vs:=[zP I,.int .i32 q2]) rfl dc rfl rfl rfl Fi (F9 (vu1:=(.slice (some ⟨I,0,none⟩) 1 1)) (u1:=(⟨Q,P,O,N,M⟩:cS)) (u1_h0:=G) (u1_h1:=F) (show [((⟨Q,P,O,N,M⟩:cS),(G,F))][0]?=some ((⟨Q,P,O,N,M⟩:cS),(G,F)) from rfl) ch) (aH [5,6,7] kr rfl) ?_
        rintro⟨a0,aw⟩
        refine mj (L':=[cells b1 [.string A] 9,cells H [.map (some t)] 116,cq (fun n:Int=>ax .i32 n) (fun p:zam=>aZ #[.int .i32 p.e0,.int .i32 p.e1]) t C.2,cells B [f.v] 120,mh lj gX 123 5 f.v o,mr (.slice (some ⟨I,0,none⟩) 1 1) [(r7,(a0,aw))],cn,cn,eo a6.v r6,eo a0.v r7.low,eo aw.v r7.high]) (aH [0,1,2,3,4,9,6,7,8,10,11] kr rfl) ?_
        refine pp (k:=5) rfl (JR oh) ?_
        refine bU (cw (cz (ct ?_)))
        obtain⟨d8,h⟩:=bC h
        refine aO rfl (dN (r:=x6+1) (ai _ d8)) (ac 1 rfl (bU ?_))
        subst a7
        exact ff (n1,r7.at_,r7.broken,r7.base,r7.low,r7.high,x6+1,a0,aw) h (av _) rfl (aT rfl) (aH [0,1,2,3,4,5,9,10,8] kr rfl)
       refine dZ (cA (cA (ed ?_)))
       exact bx (Q,P,O,N,M,I,G,F) h rfl (aT rfl) (aH [0,1,2,3,4,5,6,7] kr rfl)
     refine bH (xU (enc:=(kn (.i32))) (e:=21) (size:=1) ?_)
     refine xU (enc:=(kn (.i32))) (e:=21) (size:=1) ?_
     exact bx (x1.At,0,x1.Rune,([]:List Int),([]:List Int),I,ew,ew) h rfl (aT rfl) (aH [0,1,2,3,4,6,9,10] kr rfl)
    rintro⟨u1,u2,u3,u4,u5,eL,S,R⟩ h
    rw[d4] at h
    refine ct (bF (k:=3) sU rfl dc rfl rfl rfl (gM (k:=5) (cs:=[zI u1,.int .u8 u2,.int .i32 u3,S.v,R.v]) pv rfl dc rfl rfl rfl rfl ?_))
    refine gl (cs:=[zI u1,.int .u8 u2,.int .i32 u3,S.v,R.v]) (te:=123) (ps:=[(0,.tmp 82)]) rfl dc rfl (fun _=>by kernel_rfl) (fun ez=>?_)
    refine pr (k:=4) rfl tW (fun c5 bs=>?_)
    obtain⟨d7,h⟩:=bC h
    refine iT (k:=4) (k2:=8) (ys:=[((⟨u1,u2,u3,u4,u5⟩:cS),(S,R))]) eJ ES oh FF rfl dc rfl rfl rfl rfl rfl rfl (by rw[z6 bs];exact d7) (fun v4=>?_)
    refine jd (k:=4) rfl (fun ao em=>?_)
    subst em
    refine vR (k:=9) rfl (aH [6,7] kr rfl) rfl (Eg (nest:=gX) (zs:=c5) (z:=((⟨u1,u2,u3,u4,u5⟩:cS),(S,R)))) ?_
    refine vR (k:=4) rfl (aH [9] kr rfl) rfl (vS (enc:=lj) (nest:=gX) (Eh bs)) ?_
    refine mj (L':=[cells b1 [.string A] 9,cells H [.map (some t)] 116,cq (fun n:Int=>ax .i32 n) (fun p:zam=>aZ #[.int .i32 p.e0,.int .i32 p.e1]) t C.2,cells B [f.v] 120,mh lj gX 123 5 ao.v (o++[(⟨u1,u2,u3,u4,u5⟩:cS)]),cells eL [zI u1,.int .u8 u2,.int .i32 u3,S.v,R.v] 123,cn,cn,cells ez [zI u1,.int .u8 u2,.int .i32 u3,S.v,R.v] 123]) (aH [0,1,2,3,4,5,6,7,8] kr rfl) ?_
    refine ef (k:=3) (l':=[ao.v]) ER rfl rfl rfl rfl rfl (fun _ _=>rfl) rfl ?_
    refine bU (cw ?_)
    exact kP (o++[(⟨u1,u2,u3,u4,u5⟩:cS)],ao) (fun V e2=>by have e9:=kU E e2;subst e9;subst L;exact h) (aH [0,1,2,3,4] kr rfl)
   ·
    rintro bh ⟨o,f⟩ J
    have h:bb o=some r:=J [] (aQ _).symm
    rw[c4] at h
    show TX _ _ _ _ _ _ _ [zgL ((([]:List Nat):List Nat).map eZ),cn,cq (fun p:zam=>aZ #[.int .i32 p.e0,.int .i32 p.e1]) (fun n:Int=>ax .i32 n) b3 C.1,cn,cn,cn,cells b7 [.string r2] 9,cn,cells b1 [.string A] 9,cells H [.map (some t)] 116,cq (fun n:Int=>ax .i32 n) (fun p:zam=>aZ #[.int .i32 p.e0,.int .i32 p.e1]) t C.2,cells B [f.v] 120,mh lj gX 123 5 f.v o,eZ bh]
    refine pY (k:=13) (j:=0) rfl rfl dc ?_
    refine cw ?_
    exact bx (o,B,f,bh::([]:List Nat)) h rfl (aT rfl) (aH [11,12,0] kr rfl)
   rintro bh c pre x1 post g e4 hX
   exact (show False from hX).elim
  rintro⟨l1,b2,es,ey⟩ h
  rw[d6] at h
  refine aC (bF (k:=0) sU rfl dc rfl rfl rfl (ac 1 rfl (az (bI (xP (by simp) ?_)))))
  cases h
  exact lS (rs:=[.tmp 2]) ey es.v (.inl rfl) (lR (k:=2) rfl) results76 (.cons (.tmp rfl) .nil) rfl (aH [1] kr rfl)
 exact fun b hb=>hb.elim
def rj (b:ab):Int:=((b.data.toList.headD 0).toNat:Int)
def fl (c:bd×List bd):cS:=if c.1.Rune<0 then ⟨c.1.At,rj c.1.Text,-1,[],[]⟩ else ⟨c.1.At,0,c.1.Rune,(loI c.2).map (·.Rune),(hiI c.2).map (·.Rune)⟩
def iW (u:cS) (r:Int):cS:=if lX r then ⟨u.at_,u.broken,u.base,u.low++[r],u.high⟩ else ⟨u.at_,u.broken,u.base,u.low,u.high++[r]⟩
theorem GE (u:cS) (r:Int) (h1:u.low.length≤2000000000) (h2:u.high.length≤2000000000):uL u r=some (iW u r):=by
 unfold uL
 refine bN (Nu r) ?_
 unfold iW
 cases lX r with
 | true=>exact cu rfl (zbx (by omega) rfl)
 | false=>exact cr rfl (zbx (by omega) rfl)
theorem GF (x:bd) (hx:0≤x.Rune) (a:List bd) (y:bd):iW (fl (x,a)) y.Rune=fl (x,a++[y]):=by
 unfold iW fl loI hiI
 simp only[ar (show ¬ x.Rune<0 by omega),List.filter_append]
 show (if lM y then _ else _)=_
 cases h:lM y <;> simp[h]
theorem NX (u:cS) (a:List Int) (c:List Int) (b:Int) (hr:c=b::a) (f:u.low.length+u.high.length+a.length≤1000000000) (J:Int→Int→Int→(List Int)→(List Int)→Option (List cS)) :
  zaI (fun _ _ _ _ _ _=>none) (zdR J c) zbH u.at_ u.broken u.base u.low u.high 0=J (a.foldl iW u).at_ (a.foldl iW u).broken (a.foldl iW u).base (a.foldl iW u).low (a.foldl iW u).high:=by
 have hc:fi c 1 (c.length:Int)=a:=by
  subst hr;unfold fi;simp
 have key:∀ (n k:Nat) (u:cS),k≤a.length→a.length - k<n→u.low.length+u.high.length+(a.length - k)≤1000000000 →
   zaI (fun _ _ _ _ _ _=>none) (zdR J c) n u.at_ u.broken u.base u.low u.high (k:Int)=J ((a.drop k).foldl iW u).at_ ((a.drop k).foldl iW u).broken ((a.drop k).foldl iW u).base ((a.drop k).foldl iW u).low ((a.drop k).foldl iW u).high:=by
  intro n
  induction n with
  | zero=>intro k u _ h;omega
  | succ n d=>
   intro k u hk e g
   rw[ic]
   generalize zaI (fun _ _ _ _ _ _=>none) (zdR J c) n=ag at d ⊢
   unfold zdR
   rw[hc]
   by_cases h:k<a.length
   ·have hx:a[k]?=some a[k]:=aP h
    refine cu (mE hx) (bN (lW hx) (bN (GE u _ (by omega) (by omega)) (zbx (jC (by omega)) ?_)))
    have hm:(iW u a[k]).low.length+(iW u a[k]).high.length=u.low.length+u.high.length+1:=by
     unfold iW;split <;> simp <;> omega
    have:=d (k+1) (iW u a[k]) (by omega) (by omega) (by omega)
    push_cast at this
    rw[this,bB h];rfl
   ·have:k=a.length:=by omega
    subst this
    exact cr mu (by rw[fQ];rfl)
 have:=key zbH 0 u (cH _) (by have:=kZ (n:=a.length) (by omega);omega) (by omega)
 simpa using this
def nn (s:ab) (l:List cS) (p:cX):List cS :=
 if p.Broken then l++[⟨p.At,(kR s p.At).getD 0,-1,[],[]⟩]
 else match l.getLast? with
  | some u=>if dw u.base&&eC p.Rune then l.set (l.length - 1) (iW u p.Rune) else l++[if dw p.Rune then (gp p.Rune).tail.foldl iW ⟨p.At,0,(gp p.Rune).headD 0,[],[]⟩ else ⟨p.At,0,p.Rune,[],[]⟩]
  | none=>l++[if dw p.Rune then (gp p.Rune).tail.foldl iW ⟨p.At,0,(gp p.Rune).headD 0,[],[]⟩ else ⟨p.At,0,p.Rune,[],[]⟩]
def yP (k:Nat) (l:List cS):Prop:=l.length≤k∧∀u∈l,u.low.length+u.high.length≤3*k∧fN u.base
theorem GG (u:cS) (r:Int):(iW u r).low.length+(iW u r).high.length=u.low.length+u.high.length+1∧(iW u r).base=u.base:=by
 unfold iW;split <;> simp <;> omega
theorem NY (a:List Int):∀u:cS,(a.foldl iW u).low.length+(a.foldl iW u).high.length=u.low.length+u.high.length+a.length∧(a.foldl iW u).base=u.base:=by
 induction a with
 | nil=>intro u;simp
 | cons m a b=>intro u;have:=b (iW u m);have h2:=GG u m;rw[bQ];simp only[aj];constructor;omega;rw[this.2,h2.2]
theorem GH (p:cX) (hp:fN p.Rune) (k:Nat):((if dw p.Rune then (gp p.Rune).tail.foldl iW ⟨p.At,0,(gp p.Rune).headD 0,[],[]⟩ else ⟨p.At,0,p.Rune,[],[]⟩:cS).low.length+(if dw p.Rune then (gp p.Rune).tail.foldl iW ⟨p.At,0,(gp p.Rune).headD 0,[],[]⟩ else ⟨p.At,0,p.Rune,[],[]⟩:cS).high.length≤3*(k+1))∧fN (if dw p.Rune then (gp p.Rune).tail.foldl iW ⟨p.At,0,(gp p.Rune).headD 0,[],[]⟩ else ⟨p.At,0,p.Rune,[],[]⟩:cS).base:=by
 cases h:dw p.Rune with
 | false=>simp only[bw,if_false];exact⟨by simp,hp⟩
 | true=>
  simp only[if_true]
  have h1:=NY (gp p.Rune).tail ⟨p.At,0,(gp p.Rune).headD 0,[],[]⟩
  have h2:=Bz p.Rune
  have e:(gp p.Rune).tail.length≤2:=by rw[List.length_tail];omega
  refine⟨by rw[h1.1];simp;omega,?_⟩
  rw[h1.2]
  have c:=yM hp
  cases a:gp p.Rune with
  | nil=>rw[a] at h2;simp at h2
  | cons b d=>exact c b (by rw[a];exact aB ..)
theorem NZ (s:ab) (k:Nat) (p:cX) (l:List cS) (hp:fN p.Rune) (h:yP k l):yP (k+1) (nn s l p):=by
 obtain⟨h1,h2⟩:=h
 have a:∀u:cS,(u.low.length+u.high.length≤3*(k+1)∧fN u.base)→yP (k+1) (l++[u]):=fun u hu=>⟨by simp;omega,fun v hv=>by
  rcases bO.1 hv with hv | hv
  ·have:=h2 v hv;exact⟨by omega,this.2⟩
  ·simp at hv;subst hv;exact hu⟩
 unfold nn
 split
 ·exact a _ ⟨by simp,(show fN (-1) from ⟨by omega,by omega⟩)⟩
 ·split
  ·rename_i u hu
   split
   ·have hm:=pi hu
    refine⟨by simp;omega,fun v hv=>?_⟩
    rcases List.mem_or_eq_of_mem_set hv with hv | rfl
    ·have:=h2 v hv;exact⟨by omega,this.2⟩
    ·have:=h2 u hm;have b:=GG u p.Rune;exact⟨by omega,by rw[b.2];exact this.2⟩
   ·exact a _ (GH p hp k)
  ·exact a _ (GH p hp k)
theorem N0 (s:ab) (I:s.size≤65536):si s=some (((fe s.data.toList).map gh).foldl (nn s) []):=by
 unfold si
 refine dv (bN Gc (bN (a:=s) rfl (bN (BI s (by omega)) (dv ?_))))
 have hc:=sb s
 have hr:∀p∈(fe s.data.toList).map gh,fN p.Rune∧(p.Broken=true→kR s p.At=some ((kR s p.At).getD 0)):=by
  intro p hp
  obtain⟨q,c,rfl⟩:=aW.1 hp
  obtain⟨K,J,g⟩:=sY s.data.toList q c
  have hv:=g.valid
  have j:s.data.toList.length=s.size:=by rw[dp];rfl
  refine⟨⟨by simp only[gh];omega,by simp only[gh];omega⟩,fun _=>?_⟩
  have H:=g.pos
  rw[show (gh q).At=(q.i:Int) from rfl,zN (n:=q.i) rfl (by omega)];rfl
 have key:∀ (ps:List cX) (k:Nat) (l:List cS),yP k l→k+ps.length≤65536→(∀p∈ps,fN p.Rune∧(p.Broken=true→kR s p.At=some ((kR s p.At).getD 0)))→zcM (some:List cS→_) (zeP s (im,tabS)) ps l=some (ps.foldl (nn s) l):=by
  intro ps
  induction ps with
  | nil=>intro k l _ _ _;rfl
  | cons p ps D=>
   intro k l F hk hp
   obtain⟨e,r⟩:=hp p (aB ..)
   obtain⟨v,m⟩:=F
   simp only[aj] at hk
   rw[nz,bQ,← D (k+1) (nn s l p) (NZ s k p l e ⟨v,m⟩) (by omega) (fun q c=>hp q (aq _ c))]
   generalize zcM (some:List cS→_) (zeP s (im,tabS)) ps=ag
   unfold zeP nn
   cases hB:p.Broken with
   | true=>exact cu rfl (bN (r hB) (zbx (by omega) (by simp)))
   | false=>
    simp only[bw,if_false]
    refine cr rfl (dv ?_)
    have d:(cJ (fun (w:Int→Int→Int→(List Int)→(List Int)→Option (List cS))=>
      aX (rh (⟨p.At,0,p.Rune,([]:List Int),([]:List Int)⟩:cS)) fun (B:Bool)=>
      aU (B) (aX (tf (im,tabS).2 p.Rune) fun (f:(List Int))=>
       aX (zcy f 0) fun (q1:Int)=>aY (0≤(1:Int)∧(1:Int)≤(f.length:Int)∧((f.length:Int):Int)≤(f.length:Int)) <|
       zaI (fun _ _ _ _ _ _=>none) (zdR w f) zbH p.At 0 q1 ([]:List Int) ([]:List Int) 0) (w p.At 0 p.Rune ([]:List Int) ([]:List Int)))
      (fun (u1:Int) (A:Int) (z:Int) (y:List Int) (x:List Int)=>aY (l.length+1≤2147483648)<|ag (l++[(⟨u1,A,z,y,x⟩:cS)]))) =
      ag (l++[if dw p.Rune then (gp p.Rune).tail.foldl iW ⟨p.At,0,(gp p.Rune).headD 0,[],[]⟩ else ⟨p.At,0,p.Rune,[],[]⟩]):=by
     refine dv (bN (yK _ e) ?_)
     show aU (dw p.Rune) _ _=_
     cases hL:dw p.Rune with
     | false=>exact cr rfl (zbx (by omega) (by simp))
     | true=>
      obtain⟨b,C,c,_,_,_,E⟩:=tj hL
      refine cu rfl (bN (NH _) (bN (a:=b) (by rw[c];rfl) (zbx (by rw[c];simp only[aj];omega) ?_)))
      refine (NX (⟨p.At,0,b,[],[]⟩:cS) C (gp p.Rune) b c (by simp;omega) _).trans (zbx (by omega) ?_)
      rw[c];simp
    cases o:l.getLast? with
    | none=>
     have:l=[]:=List.getLast?_eq_none_iff.1 o
     subst this
     exact cr (by decide) d
    | some u=>
     have t:l≠[]:=by intro h;subst h;cases o
     have j:0<l.length:=List.length_pos_iff.2 t
     have hm:=pi o
     have hu:=m u hm
     have hg:zcy l ((l.length:Int) - 1)=some u:=xQ (n:=l.length - 1) (by omega) (by rw[← List.getLast?_eq_getElem?];exact o)
     refine cu (al (by omega)) (zbx ⟨by omega,by omega⟩ (bN hg (bN (yK u hu.2) ?_)))
     cases hL:dw u.base with
     | false=>exact cr rfl (by simpa [hL] using d)
     | true=>
      refine cu rfl (zbx e ?_)
      rw[Gg]
      cases G:eC p.Rune with
      | false=>exact cr rfl (by simpa [hL,G] using d)
      | true=>
       refine cu rfl (zbx ⟨by omega,by omega⟩ (bN hg (bN (GE u _ (by omega) (by omega)) ?_)))
       simp only[Bool.and_self,if_true]
       rw[show ((l.length:Int) - 1).toNat=l.length - 1 by omega]
       simp[hL]
 have:=key ((fe s.data.toList).map gh) 0 [] ⟨by simp,by simp⟩ (by simp;omega) hr
 exact this
theorem GI {s:ab} {p:Pc} (hp:p∈fe s.data.toList):(p.broken=true→(itG s p).Rune=-1∧(itG s p).Text.size=1∧rj (itG s p).Text=(kR s p.i).getD 0)∧(p.broken=false→(itG s p).Rune=p.r∧(itG s p).Text=af (p.r:Int)):=by
 obtain⟨j,h,c⟩:=sY s.data.toList p hp
 have f:s.data.toList.length=s.size:=by rw[dp];rfl
 have hf:=Gv hp
 have g:=c.pos
 constructor
 ·intro a
  have b:p.w=1:=by unfold Pc.broken at a;simp at a;exact a.2
  refine⟨by simp[itG,a],by simp[itG,b];omega,?_⟩
  have e:(itG s p).Text.data.toList=(s.data.toList.drop p.i).take p.w:=by
   show (s.extract p.i (p.i+p.w)).data.toList=_
   rw[l9];simp
  unfold rj
  rw[e,b,zN (n:=p.i) rfl (by omega)]
  have hi:p.i<s.data.toList.length:=by omega
  rw[bB hi]
  simp
  rfl
 ·intro a
  refine⟨by simp[itG,a],?_⟩
  have d:¬ (p.r=65533∧p.w=1):=by
   unfold Pc.broken at a;simpa using a
  apply _root_.ByteArray.ext;apply fK.1
  show (s.extract p.i (p.i+p.w)).data.toList=_
  rw[l9]
  have h1:=c.bytes d
  rw[o0,h1]
  simp
theorem N1 (a:Option (bd×List bd)) (x:bd) (xs:List bd) (h:∀c,a=some c→(dz c.1&&isM x)=false):fw a (x::xs)=a.toList++fw (some (x,[])) xs:=by
 cases a with
 | none=>rfl
 | some c=>
  show (if dz c.1&&isM x then fw (some (c.1,c.2++[x])) xs else c::fw (some (x,[])) xs)=_
  rw[h c rfl];rfl
theorem yQ (x:bd) (hx:dz x=true) (xs:List bd):∀ (a ks:List bd),(∀m∈a,isM m=true)→fw (some (x,ks)) (a++xs)=fw (some (x,ks++a)) xs
 | [],ks,_=>by simp
 | m::a,ks,h=>by
  rw[bp]
  show (if dz x&&isM m then fw (some (x,ks++[m])) (a++xs) else _)=_
  rw[hx,h m (aB ..)]
  simp only[Bool.and_self,if_true]
  rw[yQ x hx xs a (ks++[m]) (fun z hz=>h z (aq _ hz))]
  simp
theorem GJ (x:bd) (hx:0≤x.Rune):∀ (a ks:List bd),(a.map (·.Rune)).foldl iW (fl (x,ks))=fl (x,ks++a)
 | [],ks=>by simp
 | m::a,ks=>by
  rw[aE,bQ,GF x hx,GJ x hx a];simp
theorem BK (c:bd×List bd) (h:0≤c.1.Rune):(fl c).base=c.1.Rune:=by
 unfold fl;rw[ar (by omega)]
theorem GK (c:bd×List bd):dw (fl c).base=dz c.1:=by
 unfold fl dz
 split
 ·rename_i h
  have h1:dw (-1)=false:=by decide
  have h2:dw c.1.Rune=false:=by
   cases e:dw c.1.Rune with
   | false=>rfl
   | true=>have:=(mG _ e).1;omega
  rw[h2];exact h1
 ·rfl
theorem GL (s:ab):∀ (ps:List Pc) (a:Option (bd×List bd)) (L:List cS),(∀p∈ps,p∈fe s.data.toList)→(a=none→L=[]) →
  (ps.map gh).foldl (nn s) (L++a.toList.map fl)=L++(fw a (apL (ps.map (itG s)))).map fl
 | [],a,L,_,_=>by
  cases a <;> simp[apL,fw]
 | p::ps,a,L,hp,hcur=>by
  rw[aE,bQ,aE]
  have E:apL (itG s p::ps.map (itG s))=iP (itG s p)++apL (ps.map (itG s)):=by unfold apL;rw[aG]
  rw[E]
  obtain⟨B,t⟩:=GI (hp p (aB ..))
  have tail:=fun w L' hc=>GL s ps w L' (fun q y=>hp q (aq _ y)) hc
  have hv:p.broken=false→0≤(itG s p).Rune:=fun h=>by rw[(t h).1];omega
  have l:∀ (x:bd) (d:List bd),(dz x=false→d=[])→(∀m∈d,isM m=true)→(∀c,a=some c→(dz c.1&&isM x)=false)→nn s (L++a.toList.map fl) (gh p)=(L++a.toList.map fl)++[fl (x,d)]→iP (itG s p)=x::d →
    (ps.map gh).foldl (nn s) (nn s (L++a.toList.map fl) (gh p))=L++(fw a (iP (itG s p)++apL (ps.map (itG s)))).map fl:=by
   intro x d h1 h2 P O h5
   rw[O,h5,bp,N1 a x _ P]
   have N:fw (some (x,[])) (d++apL (ps.map (itG s)))=fw (some (x,d)) (apL (ps.map (itG s))):=by
    cases hx:dz x with
    | true=>rw[yQ x hx _ d [] h2];rfl
    | false=>rw[h1 hx];rfl
   have:=tail (some (x,d)) (L++a.toList.map fl) (by simp)
   rw[show (L++a.toList.map fl)++[fl (x,d)]=(L++a.toList.map fl)++(some (x,d)).toList.map fl from rfl,this,N]
   simp
  cases hB:p.broken with
  | true=>
   obtain⟨e1,e2,Q⟩:=B hB
   have hL:dz (itG s p)=false:=by unfold dz;rw[e1];decide
   have M:isM (itG s p)=false:=by unfold isM;rw[e1];decide
   refine l (itG s p) [] (fun _=>rfl) (by simp) (fun c _=>by rw[M,Bool.and_false]) ?_ (by unfold iP;rw[hL];rfl)
   unfold nn
   rw[show (gh p).Broken=true from hB]
   simp only[if_true]
   have:fl (itG s p,[])=⟨(itG s p).At,rj (itG s p).Text,-1,[],[]⟩:=by unfold fl;rw[ay (by rw[e1];omega)]
   rw[this,Q];rfl
  | false=>
   obtain⟨e1,e2⟩:=t hB
   have h0:0≤(itG s p).Rune:=hv hB
   have j:(gh p).Rune=(itG s p).Rune:=by rw[e1];rfl
   have f:∃x d,iP (itG s p)=x::d∧(dz x=false→d=[])∧(∀m∈d,isM m=true)∧dz x=dz (itG s p)∧isM x=isM (itG s p) ∧
     (if dw (gh p).Rune then (gp (gh p).Rune).tail.foldl iW ⟨(gh p).At,0,(gp (gh p).Rune).headD 0,[],[]⟩ else ⟨(gh p).At,0,(gh p).Rune,[],[]⟩)=fl (x,d):=by
    rw[j]
    cases hL:dz (itG s p) with
    | false=>
     have i:dw (itG s p).Rune=false:=hL
     refine⟨itG s p,[],by unfold iP;rw[hL];rfl,fun _=>rfl,by simp,hL,rfl,?_⟩
     rw[i]
     unfold fl
     rw[ar (show ¬ (itG s p,([]:List bd)).1.Rune<0 by show ¬ (itG s p).Rune<0;omega)]
     rfl
    | true=>
     have i:dw (itG s p).Rune=true:=hL
     obtain⟨b,d,y,z,_,A,_⟩:=tj i
     have C:=(mG b z).1
     refine⟨⟨b,af b,(itG s p).At⟩,d.map fun r=>⟨r,af r,(itG s p).At⟩,by unfold iP;rw[hL,y];rfl,(fun h=>by rw[show dz (⟨b,af b,(itG s p).At⟩:bd)=true from z] at h;cases h),?_,z,?_,?_⟩
     ·intro m hm
      obtain⟨r,hr,rfl⟩:=aW.1 hm
      exact A r hr
     ·have G:isM (itG s p)=false:=by
       cases e:isM (itG s p) with
       | false=>rfl
       | true=>have:=pH (show eC (itG s p).Rune=true from e);rw[i] at this;cases this
      have F:isM (⟨b,af b,(itG s p).At⟩:bd)=false:=by
       cases e:isM (⟨b,af b,(itG s p).At⟩:bd) with
       | false=>rfl
       | true=>have:=pH (show eC b=true from e);rw[z] at this;cases this
      rw[G,F]
     ·rw[i,y]
      have:=GJ ⟨b,af b,(itG s p).At⟩ C (d.map fun r=>⟨r,af r,(itG s p).At⟩) []
      have hm:(d.map fun r=>(⟨r,af r,(itG s p).At⟩:bd)).map (·.Rune)=d:=by rw[ce];simp[Function.comp_def]
      rw[hm] at this
      rw[bt] at this
      rw[← this]
      have ht:fl (⟨b,af b,(itG s p).At⟩,[])=⟨(itG s p).At,0,b,[],[]⟩:=by
       unfold fl;rw[ar (show ¬ b<0 by omega)];rfl
      rw[ht];rfl
   obtain⟨x,d,J,o,hm2,K,n,f⟩:=f
   cases a with
   | none=>
    have hL:=hcur rfl
    subst hL
    refine l x d o hm2 (fun c h=>by cases h) ?_ J
    unfold nn
    rw[show (gh p).Broken=false from hB]
    simp only[bw,if_false,pj,eu,aQ,List.getLast?_nil]
    rw[f]
   | some c=>
    have g:(L++[fl c]).getLast?=some (fl c):=by simp
    cases hk:(dz c.1&&isM x) with
    | false=>
     refine l x d o hm2 (fun R h=>by cases h;exact hk) ?_ J
     show nn s (L++[fl c]) (gh p)=(L++[fl c])++[fl (x,d)]
     unfold nn
     rw[show (gh p).Broken=false from hB,g]
     simp only[bw,if_false]
     rw[GK,show eC (gh p).Rune=isM x by rw[n,j];rfl,hk,f]
     simp
    | true=>
     have k:=hk
     rw[aR] at k
     have v:isM (itG s p)=true:=by rw[← n];exact k.2
     have H:dz (itG s p)=false:=pH v
     have D:iP (itG s p)=[itG s p]:=by unfold iP;rw[H];rfl
     rw[D,List.singleton_append]
     have u:nn s (L++(some c).toList.map fl) (gh p)=L++(some (c.1,c.2++[itG s p])).toList.map fl:=by
      show nn s (L++[fl c]) (gh p)=L++[fl (c.1,c.2++[itG s p])]
      unfold nn
      rw[show (gh p).Broken=false from hB,g]
      simp only[bw,if_false]
      rw[GK,show eC (gh p).Rune=isM x by rw[n,j];rfl,hk]
      simp only[if_true]
      have I:0≤c.1.Rune:=(mG _ k.1).1
      rw[j,GF c.1 I c.2 (itG s p)]
      simp
     rw[u,tail _ _ (by simp)]
     congr 2
     show _=fw (some c) (itG s p::apL (ps.map (itG s)))
     show _=(if dz c.1&&isM (itG s p) then fw (some (c.1,c.2++[itG s p])) (apL (ps.map (itG s))) else _)
     rw[k.1,v];rfl
def jL (s:ab):List (bd×List bd):=cl (apL (gw s))
theorem BL (s:ab) (a:s.size≤65536):si s=some ((jL s).map fl):=by
 rw[N0 s a]
 have:=GL s (fe s.data.toList) none [] (fun p hp=>hp) (fun _=>rfl)
 simp only[pj,eu,aQ,bt] at this
 rw[this];rfl
def zcI (l1:List cS) (j1:ab→Option ab) (ag1:ab→Int→Option ab) (b4:ab) (x3:Int):Option ab := aU (decide ((x3:Int)<(l1.length:Int))) ( cJ (fun (j2:ab→Option ab)=> aX (zcy l1 x3) fun (x4:cS)=> aU (decide ((x4.base:Int)<0)) ( aY (b4.size+1≤140737488355328) <| aY (∀x∈([x4.broken]:List Int),U8 x) <| j2 (b4++(jA [x4.broken]))
) ( aX (uM x4) fun (r1:ab)=> aY (b4.size+r1.size≤140737488355328) <| j2 (b4++r1)
)
) (fun (b5:ab)=> aY (cR (x3+1)) <| ag1 b5 (x3+1)
)
) ( j1 b4
)
def xc (l1:List cS):Option ab := cJ (fun (j1:ab→Option ab)=> zaI (fun _ _=>none) (zcI l1 j1) zbH aA 0
) (fun (b1:ab)=> some b1
)
theorem N2 {d m:Value} {a:List (cS×Hd×Hd)} {w:Nat} {t:List (cS×Hd×Hd)} {s:List cS} (f:Vw d a 5 w m t) (o:t.map bu=s) {r:ab} (h:xc s=some r):Fn prog 75 [m,.func (.func 124) #[] #[]] [mr d a,own gX a] (fun _b:Unit=>.string r) (fun _b=>[mr d a,own gX a]):=by
 unfold xc at h
 refine _root_.Go.Proofs.YtifpjbgnikjglaaGreatDoor.Fn.intro func75 rfl ntmps75 (by simp) ?_
 intro w0 K
 obtain⟨y,D,h⟩:=cP h
 refine c8 (β:=ab×Value) 2 rfl (fun b=>y b.1=some r) (fun b=>[]) (fun b=>[(5,b.2)]) (fun b=>[mr d a,own gX a,byt 5 b.2 b.1]) (fun cut=>?_) ?_
 ·
  refine aC (ac 1 rfl (cv (ac 1 rfl (az (cut (aC (ac 1 rfl ?_)))))))
  refine z7 o f rfl dc rfl eJ (ac 1 rfl (az (cy (x0 (e:=5) ?_))))
  refine fh (β:=Nat×ab×Int×Value) (fun b=>zaI (fun _ _=>none) (zcI s y) b.1 b.2.1 b.2.2.1=some r) (fun b=>[]) (fun b=>[(1,.func (.func 124) #[] #[]),(5,b.2.2.2),(8,m),(9,zI (s.length:Int)),(10,zI b.2.2.1)]) (fun b=>[mr d a,own gX a,byt 5 b.2.2.2 b.2.1]) (fun b=>b.1) (zbH,aA,0,(.slice none 0 0)) h rfl (aT rfl) (aH [0,1,2] kr rfl) ?_
  rintro⟨x,z,u,O⟩ h
  cases x with
  | zero=>exact fa h
  | succ x=>
   obtain⟨I,p⟩:∃ag,ag=zaI (fun _ _=>none) (zcI s y) x:=⟨_,rfl⟩
   have h:zcI s y I z u=some r:=by rw[p];exact h
   unfold zcI at h
   refine aC (aO rfl ei (az (cm ?_)))
   refine bG rfl h (fun h=>?_) (fun h=>?_)
   ·
    refine bH (cz ?_)
    obtain⟨P,C,h⟩:=cP h
    refine c8 (β:=ab×Value) 0 rfl (fun b=>P b.1=some r) (fun b=>[]) (fun b=>[(1,.func (.func 124) #[] #[]),(5,b.2),(8,m),(9,zI (s.length:Int)),(10,zI u)]) (fun b=>[mr d a,own gX a,byt 5 b.2 b.1]) (fun cut=>?_) ?_
    ·
     refine cut (cy (aC ?_))
     obtain⟨c,B,h⟩:=bj h
     obtain⟨⟨l,g⟩,n⟩:=vU o B
     refine gq f n eJ qU rfl dc rfl rfl rfl (mR (i:=w+(u:Int).toNat) (j:=0) (k:=0) (q:=(c,(l,g))) (cs:=[zI c.at_,.int .u8 c.broken,.int .i32 c.base,l.v,g.v]) pv oh rfl dc rfl rfl (cI f n) rfl rfl rfl ?_)
     refine eN yl rfl dc (fun T=>?_)
     refine eH (k:=3) (vs:=[zI c.at_,.int .u8 c.broken,.int .i32 c.base,l.v,g.v]) (l':=[zI c.at_,.int .u8 c.broken,.int .i32 c.base,l.v,g.v]) qU rfl rfl rfl rfl rfl (show _≤_ by simp) rfl rfl ?_
     refine cv (cf nY rfl dc rfl (show _=2 from rfl) (bF (k:=3) fT rfl dc rfl rfl rfl (aO rfl ei (az ?_))))
     refine bG rfl h (fun h=>?_) (fun h=>?_)
     ·
      refine ct (ac 1 rfl (cf Ao rfl dc rfl (show _=1 from rfl) (bF (k:=3) Ae rfl dc rfl rfl rfl ?_)))
      refine gl (cs:=[.int .u8 c.broken]) (te:=5) (ps:=[(0,.tmp 19)]) rfl dc rfl (fun _=>by kernel_rfl) (fun S=>?_)
      obtain⟨H,h⟩:=bC h
      obtain⟨G,h⟩:=bC h
      refine zK (k:=2) (k2:=4) (ys:=(jA [c.broken])) de rO rfl dc rfl rfl rfl rfl (z1 G) rfl H (fun M=>?_)
      refine ac 1 rfl (bU (cw ?_))
      exact bx (z++(jA [c.broken]),M) h rfl (aT rfl) (aH [0,1,2] kr rfl)
     refine ct (ac 2 rfl (gM (k:=3) (cs:=[zI c.at_,.int .u8 c.broken,.int .i32 c.base,l.v,g.v]) pv rfl dc rfl rfl rfl rfl ?_))
     refine pr (k:=1) rfl (vT (cI f n)) (fun _ _=>?_)
     obtain⟨J,A,h⟩:=bj h
     refine ox (v:=.string J) (vs:=[.agg #[zI c.at_,.int .u8 c.broken,.int .i32 c.base,l.v,g.v]]) rfl dc rfl rfl rfl LA (Nh (u1:=c) (u1_h0:=l) (u1_h1:=g) A) [4,5] kr rfl ?_
     obtain⟨F,h⟩:=bC h
     refine vG (k:=2) de an rO rfl dc rfl rfl rfl F (fun L=>?_)
     refine ac 1 rfl (bU (cw (rN (k:=1) rfl (aH [4,5] kr rfl) rfl (sQ (nest:=gX) (cI f n) rfl) ?_)))
     exact bx (z++J,L) h rfl (aT rfl) (aH [0,1,2] kr rfl)
    rintro⟨Q,N⟩ h
    rw[C] at h
    refine ct ?_
    obtain⟨E,h⟩:=bC h
    refine aO rfl (dN (r:=u+1) (ai _ E)) (ac 1 rfl (bU ?_))
    subst p
    exact ff (x,Q,u+1,N) h (av _) rfl (aT rfl) (aH [0,1,2] kr rfl)
   refine dZ (cA (cA (ed ?_)))
   exact bx (z,O) h rfl (aT rfl) (aH [0,1,2] kr rfl)
 rintro⟨b1,R⟩ h
 rw[D] at h
 refine aC (ac 1 rfl (p5 (k:=2) rfl dc rfl rfl de dy an (ac 1 rfl (az (bI ?_)))))
 cases h
 exact eO (rs:=[.tmp 4]) () (.inl rfl) results75 (.cons (.tmp rfl) .nil) rfl (aH [0,1] kr rfl)
def oo (s1:ab):Option ab := aX (si s1) fun (r1:(List cS))=> aX (xc r1) fun (r2:ab)=> some r2
theorem qv {a:ab} {r:ab} (h:oo a=some r):dO prog 70 [.string a] (.string r):=by
 unfold oo at h
 refine dO.intro func70 rfl ntmps70 (by simp) ?_
 intro w0 K
 refine aC (ac 1 rfl (cv (ac 1 rfl ?_)))
 obtain⟨m,e,h⟩:=bj h
 refine fY (vs:=[.string a]) rfl dc rfl rfl rfl AH (BJ e) ad ?_
 rintro l
 refine zS (k:=0) rfl (fun g f=>?_)
 subst f
 refine pr (k:=0) rfl tW (fun i b=>?_)
 refine kG (k:=0) rfl (fun c=>?_)
 obtain⟨j,d,h⟩:=bj h
 refine ox (v:=.string j) (vs:=[g.v,.func (.func 124) #[] #[]]) rfl dc rfl rfl rfl AG (N2 c b d) [0,1] kr rfl (ac 1 rfl (az (bI ?_)))
 cases h
 exact dk 2 results70
def yR (r1:Int):Option ab := aX (BH r1) fun (r2:ab)=> aX (oo r2) fun (r3:ab)=> some r3
theorem GM {a:Int} {r:ab} (h:yR a=some r):dO prog 65 [.int .i32 a] (.string r):=by
 unfold yR at h
 refine dO.intro func65 rfl ntmps65 (by simp) ?_
 intro w0 K
 refine aC (ac 1 rfl (cv (ac 1 rfl ?_)))
 obtain⟨d,c,h⟩:=bj h
 refine dq (v:=.string d) (vs:=[.int .i32 a]) rfl dc rfl rfl rfl Lv (NT c) ?_
 obtain⟨e,b,h⟩:=bj h
 refine dq (v:=.string e) (vs:=[.string d]) rfl dc rfl rfl rfl qg (qv b) (ac 1 rfl (az (bI ?_)))
 cases h
 exact dk 2 results65
section
variable {α β:Type}
def J (f:α→ab) (l:List α):ab:=l.foldl (fun s x=>s++f x) aA
theorem BM (f:α→ab):∀ (l:List α) (b:ab),l.foldl (fun s x=>s++f x) b=b++J f l
 | [],b=>by simp[J]
 | x::l,b=>by
  unfold J
  rw[bQ,BM f l,bQ,BM f l (aA++f x),iG,dS]
theorem qw (f:α→ab):J f []=aA:=rfl
theorem j0 (f:α→ab) (x:α) (l:List α):J f (x::l)=f x++J f l:=by
 show (l.foldl _ (aA++f x))=_
 rw[BM,iG]
theorem xd (f:α→ab):∀ (a b:List α),J f (a++b)=J f a++J f b
 | [],b=>by rw[bt,qw,iG]
 | x::a,b=>by rw[bp,j0,j0,xd f a,dS]
theorem BN (f:β→ab) (g:α→List β):∀l:List α,J f (l.flatMap g)=J (fun x=>J f (g x)) l
 | []=>rfl
 | x::l=>by rw[aG,xd,j0,BN f g l]
theorem rk (f:β→ab) (g:α→β):∀l:List α,J f (l.map g)=J (fun x=>f (g x)) l
 | []=>rfl
 | x::l=>by rw[aE,j0,j0,rk f g l]
theorem sj {f g:α→ab}:∀ {l:List α},(∀x∈l,f x=g x)→J f l=J g l
 | [],_=>rfl
 | x::l,h=>by rw[j0,j0,h x (aB ..),sj (fun y hy=>h y (aq _ hy))]
theorem BO (f:α→ab) (m:Nat):∀ {l:List α},(∀x∈l,(f x).size≤m)→(J f l).size≤l.length*m
 | [],_=>by simp[J]
 | x::l,h=>by
  rw[j0,aK,aj,cT,iY]
  have:=BO f m (fun y hy=>h y (aq _ hy))
  have:=h x (aB ..)
  omega
end
theorem pK (l:List Int):iU l=J af l:=rfl
theorem GN (l:List bd):Gw l=J (·.Text) l:=rfl
theorem oG (r:Int):(af r).size≤4:=by
 rw[zV];exact (xZ r).2
def wr (of:cS→ab) (u:cS):ab:=if u.base<0 then jA [u.broken] else of u
theorem N3 (a:cS→ab) (l:List cS) (g:l.length≤1048576) (h:∀u∈l,u.base<0∧U8 u.broken∨0≤u.base∧uM u=some (a u)∧(a u).size≤1048576):xc l=some (J (wr a) l):=by
 unfold xc
 refine dv ((qq (xs:=l) (f:=fun b u=>b++wr a u) (J:=some) (fun k b=>b.size≤k*1048576) ?_ ?_ ?_ (kZ (by omega)) (by decide)).trans rfl)
 ·intro ag k u b hu d
  have hk:=nD hu
  unfold zcI
  refine cu (mE hu) (dv (bN (lW hu) ?_))
  rcases h u (aJ hu) with⟨h1,h2⟩ | ⟨h1,h2,c⟩
  ·exact cu (al h1) (zbx (by omega) (zbx (by simpa using h2) (zbx (jC (by omega)) (by simp only[wr,ay h1]))))
  ·exact cr (ae (by omega)) (bN h2 (zbx (by omega) (zbx (jC (by omega)) (by simp only[wr,ar (show ¬ u.base<0 by omega)]))))
 ·intro k u b hu d
  have e:(wr a u).size≤1048576:=by
   rcases h u (aJ hu) with⟨h1,h2⟩ | ⟨h1,h2,c⟩
   ·unfold wr;rw[ay h1,zQ];simp
   ·unfold wr;rw[ar (by omega)];exact c
  rw[aK];omega
 ·intro ag b _;unfold zcI;exact cr mu rfl
def kv (x:bd):Prop:=fN x.Rune∧((x.Rune<0∧x.Text.size=1)∨(0≤x.Rune∧x.Text=af x.Rune))
theorem uV {s:ab}:∀x∈gw s,kv x:=by
 intro x hx
 unfold gw at hx
 obtain⟨p,hp,rfl⟩:=aW.1 hx
 obtain⟨h1,h2⟩:=GI hp
 obtain⟨d,c,a⟩:=sY s.data.toList p hp
 have hv:=a.valid
 cases b:p.broken with
 | true=>obtain⟨e1,e2,_⟩:=h1 b;exact⟨by rw[e1];exact⟨by omega,by omega⟩,.inl ⟨by omega,e2⟩⟩
 | false=>
  obtain⟨e1,e2⟩:=h2 b
  refine⟨by rw[e1];exact⟨by omega,by omega⟩,.inr ⟨by omega,by rw[e2,e1]⟩⟩
theorem BP {l:List bd} (h:∀x∈l,kv x):∀x∈apL l,kv x:=by
 intro y hy
 unfold apL at hy
 obtain⟨x,hx,hy⟩:=fm.1 hy
 unfold iP at hy
 split at hy
 ·rename_i hL
  obtain⟨r,hr,rfl⟩:=aW.1 hy
  obtain⟨b,e,c,d,_,a,_⟩:=tj (show dw x.Rune=true from hL)
  have h0:0≤r:=by
   rw[c] at hr
   rcases bE.1 hr with rfl | hr
   ·exact (mG _ d).1
   ·have:=a r hr;unfold eC at this;simp at this;omega
  exact⟨yM (h x hx).1 r hr,.inr ⟨h0,rfl⟩⟩
 ·simp at hy;subst hy;exact h _ hx
theorem yS:∀ (xs:List bd) (f:Option (bd×List bd)) (c:bd×List bd),c∈fw f xs→(∀d,f=some d→dz d.1=false→d.2=[])→((c.1∈xs∨∃d,f=some d∧c.1=d.1)∧(∀m∈c.2,(isM m=true∧m∈xs)∨∃d,f=some d∧m∈d.2)∧(dz c.1=false→c.2=[]))
 | [],none,c,h,_=>by cases h
 | [],some d,c,h,hd=>by
  simp[fw] at h;subst h
  exact⟨.inr ⟨c,rfl,rfl⟩,fun m hm=>.inr ⟨c,rfl,hm⟩,hd c rfl⟩
 | x::xs,none,c,h,_=>by
  obtain⟨h1,h2,g⟩:=yS xs (some (x,[])) c h (fun d hd _=>by cases hd;rfl)
  refine⟨.inl ?_,fun m hm=>.inl ?_,g⟩
  ·rcases h1 with h1 | ⟨d,hd,h1⟩
   ·exact aq _ h1
   ·cases hd;rw[h1];exact aB ..
  ·rcases h2 m hm with⟨a,b⟩ | ⟨d,hd,h2⟩
   ·exact⟨a,aq _ b⟩
   ·cases hd;cases h2
 | x::xs,some d,c,h,hd=>by
  have h':c∈(if dz d.1&&isM x then fw (some (d.1,d.2++[x])) xs else d::fw (some (x,[])) xs):=h
  cases hk:(dz d.1&&isM x) with
  | true=>
   rw[hk] at h'
   rw[aR] at hk
   obtain⟨h1,h2,g⟩:=yS xs (some (d.1,d.2++[x])) c h' (fun e he i=>by cases he;rw[hk.1] at i;cases i)
   refine⟨?_,fun m hm=>?_,g⟩
   ·rcases h1 with h1 | ⟨e,he,h1⟩
    ·exact .inl (aq _ h1)
    ·cases he;exact .inr ⟨d,rfl,h1⟩
   ·rcases h2 m hm with⟨a,b⟩ | ⟨e,he,h2⟩
    ·exact .inl ⟨a,aq _ b⟩
    ·cases he
     rcases bO.1 h2 with h2 | h2
     ·exact .inr ⟨d,rfl,h2⟩
     ·simp at h2;subst h2;exact .inl ⟨hk.2,aB ..⟩
  | false=>
   rw[hk] at h'
   rcases bE.1 h' with rfl | h'
   ·exact⟨.inr ⟨c,rfl,rfl⟩,fun m hm=>.inr ⟨c,rfl,hm⟩,hd c rfl⟩
   ·obtain⟨h1,h2,g⟩:=yS xs (some (x,[])) c h' (fun e he _=>by cases he;rfl)
    refine⟨.inl ?_,fun m hm=>.inl ?_,g⟩
    ·rcases h1 with h1 | ⟨e,he,h1⟩
     ·exact aq _ h1
     ·cases he;rw[h1];exact aB ..
    ·rcases h2 m hm with⟨a,b⟩ | ⟨e,he,h2⟩
     ·exact⟨a,aq _ b⟩
     ·cases he;cases h2
theorem BQ {xs:List bd} {c:bd×List bd} (h:c∈cl xs):c.1∈xs∧(∀m∈c.2,isM m=true∧m∈xs)∧(dz c.1=false→c.2=[]):=by
 obtain⟨h1,h2,a⟩:=yS xs none c h (fun d hd=>by cases hd)
 refine⟨?_,fun m hm=>?_,a⟩
 ·rcases h1 with h1 | ⟨d,hd,_⟩
  ·exact h1
  ·cases hd
 ·rcases h2 m hm with h2 | ⟨d,hd,_⟩
  ·exact h2
  ·cases hd
theorem yT:∀ (xs:List bd) (e:Option (bd×List bd)),(fw e xs).length≤xs.length+e.toList.length∧∀c∈fw e xs,c.2.length≤xs.length+(e.toList.map (·.2.length)).sum
 | [],none=>by simp[fw]
 | [],some d=>by simp[fw]
 | x::xs,none=>by
  have:=yT xs (some (x,[]))
  refine⟨?_,fun c hc=>?_⟩
  ·have h1:=this.1;show (fw (some (x,[])) xs).length≤_;simp at h1 ⊢;omega
  ·have h1:=this.2 c hc;simp at h1 ⊢;omega
 | x::xs,some d=>by
  have a:=yT xs (some (d.1,d.2++[x]))
  have b:=yT xs (some (x,[]))
  show (if dz d.1&&isM x then fw (some (d.1,d.2++[x])) xs else d::fw (some (x,[])) xs).length≤_∧_
  show _∧∀c∈(if dz d.1&&isM x then fw (some (d.1,d.2++[x])) xs else d::fw (some (x,[])) xs),_
  split
  ·refine⟨by have:=a.1;simp at this ⊢;omega,fun c hc=>by have:=a.2 c hc;simp at this ⊢;omega⟩
  ·refine⟨by have:=b.1;simp at this ⊢;omega,fun c hc=>?_⟩
   rcases bE.1 hc with rfl | hc
   ·simp
   ·have:=b.2 c hc;simp at this ⊢;omega
theorem GO (xs:List bd):(cl xs).length≤xs.length∧∀c∈cl xs,c.2.length≤xs.length:=by
 have:=yT xs none
 simpa [cl] using this
theorem sn {s:ab} (f:s.size≤65536):(jL s).length≤196608∧∀c∈jL s,kv c.1∧(∀m∈c.2,isM m=true∧kv m)∧(dz c.1=false→c.2=[])∧c.2.length≤196608:=by
 have h1:=GO (apL (gw s))
 have h2:=tk (gw s)
 have g:(gw s).length≤s.size:=by unfold gw;simpa using sb s
 have a:=BP (uV (s:=s))
 refine⟨by unfold jL;omega,fun c hc=>?_⟩
 obtain⟨e,b,d⟩:=BQ hc
 exact⟨a _ e,fun m hm=>⟨(b m hm).1,a _ (b m hm).2⟩,d,by have:=h1.2 c hc;omega⟩
theorem uW (c:bd×List bd) (h:kv c.1):(fl c).base<0∧U8 (fl c).broken∧c.1.Rune<0∧jA [(fl c).broken]=c.1.Text∨0≤(fl c).base∧0≤c.1.Rune∧c.1.Text=af c.1.Rune∧fl c=⟨c.1.At,0,c.1.Rune,(loI c.2).map (·.Rune),(hiI c.2).map (·.Rune)⟩:=by
 rcases h.2 with⟨h1,h2⟩ | ⟨h1,h2⟩
 ·left
  have e:fl c=⟨c.1.At,rj c.1.Text,-1,[],[]⟩:=by unfold fl;rw[ay h1]
  rw[e]
  refine⟨by show (-1:Int)<0;omega,?_,h1,?_⟩
  ·show U8 (rj c.1.Text);unfold rj;constructor
   ·omega
   ·have:=(c.1.Text.data.toList.headD 0).toNat_lt;omega
  ·show jA [rj c.1.Text]=_
   apply _root_.ByteArray.ext;apply fK.1
   have a:c.1.Text.data.toList.length=1:=by rw[dp];exact h2
   cases d:c.1.Text.data.toList with
   | nil=>rw[d] at a;cases a
   | cons b l=>
    rw[d] at a
    have:l=[]:=co (by simpa using a)
    subst this
    unfold jA rj
    rw[d];simp
 ·right
  have e:fl c=⟨c.1.At,0,c.1.Rune,(loI c.2).map (·.Rune),(hiI c.2).map (·.Rune)⟩:=by unfold fl;rw[ar (by omega)]
  rw[e]
  exact⟨h1,h1,h2,rfl⟩
def nE (xs:List bd):List bd:=(cl xs).map bu
theorem GP:nE []=[]:=rfl
theorem N4 {x:bd} (h:dz x=true) (xs:List bd):nE (x::xs)=x::nE (xs.dropWhile isM):=by unfold nE;rw[yN h];rfl
theorem N5 {x:bd} (h:dz x=false) (xs:List bd):nE (x::xs)=x::nE xs:=by unfold nE;rw[yO h];rfl
theorem GQ (P R:List bd) (a:∀m∈P,isM m=true) (c:∀y,R.head?=some y→isM y=false):(P++k5 R).takeWhile isM=P:=by
 induction P with
 | nil=>
  cases R with
  | nil=>rfl
  | cons y R=>
   have hy:=c y rfl
   rw[bt]
   cases hL:dz y with
   | true=>rw[tn hL,dM,hy];rfl
   | false=>rw[tp hL,dM,hy];rfl
 | cons m P b=>
  rw[bp,dM,a m (aB ..)]
  simp only[if_true]
  rw[b (fun z hz=>a z (aq _ hz))]
theorem GR (xs:List bd):∀y,(xs.dropWhile isM).head?=some y→isM y=false:=by
 intro y hy
 have:=List.head?_dropWhile_not (p:=isM) (l:=xs)
 rw[hy] at this
 simpa using this
theorem sq (xs:List bd):(k5 xs).length=xs.length:=by
 obtain⟨n,b⟩:∃n,xs.length≤n:=⟨_,bJ _⟩
 induction n generalizing xs with
 | zero=>have:xs=[]:=co (by omega);subst this;rfl
 | succ n a=>
  cases xs with
  | nil=>rfl
  | cons x xs=>
   simp only[aj] at b
   cases hL:dz x with
   | false=>rw[tp hL,aj,aj,a xs (by omega)]
   | true=>
    have h1:=pI (xs.takeWhile isM)
    have h2:xs.length=(xs.takeWhile isM).length+(xs.dropWhile isM).length:=by
     have:=aL gi (lI (p:=isM) (l:=xs))
     rw[ah] at this;exact this.symm
    rw[tn hL,aj,ah,h1,a _ (by omega),aj];omega
theorem N6 {xs:List bd} {y:bd} (h:y∈k5 xs):y∈xs:=by
 unfold k5 at h
 obtain⟨c,hc,hy⟩:=fm.1 h
 obtain⟨h1,h2,_⟩:=BQ hc
 unfold lN loI hiI at hy
 rcases bE.1 hy with rfl | hy
 ·exact h1
 ·rw[bO,cp,cp] at hy
  rcases hy with hy | hy <;> exact (h2 y hy.1).2
theorem N7 (b:List bd) (J:List bd→Option (List bd)) (u:b.length≤1073741824):∀ (m n:Nat) (A B out:List bd),B.length≤m→B.length<n→b=A++k5 B→pJ B→out.length≤A.length →
  zaI (fun _ _=>none) (zdO J b) n out (A.length:Int)=J (out++nE B):=by
 intro m
 induction m with
 | zero=>
  intro n A B out hB p he a t
  have:B=[]:=co (by omega)
  subst this
  obtain⟨n,rfl⟩:∃k,n=k+1:=⟨n - 1,by omega⟩
  rw[uR,aQ] at he
  rw[ic]
  unfold zdO
  exact cr (ae (by rw[he];omega)) (by rw[GP,aQ])
 | succ m i=>
  intro n A B out hB p he a t
  obtain⟨n,rfl⟩:∃k,n=k+1:=⟨n - 1,by omega⟩
  cases B with
  | nil=>
   rw[uR,aQ] at he
   rw[ic]
   unfold zdO
   exact cr (ae (by rw[he];omega)) (by rw[GP,aQ])
  | cons x xs=>
   simp only[aj] at hB p
   have d:=a x (aB ..)
   have q:b.length=A.length+1+xs.length:=by rw[he,ah,sq];simp;omega
   rw[ic]
   generalize g:zaI (fun _ _=>none) (zdO J b) n=ag at i ⊢
   unfold zdO
   have c:zcy b (A.length:Int)=some x:=jz (by
    rw[he]
    cases hL:dz x with
    | true=>rw[tn hL];exact se A x _
    | false=>rw[tp hL];exact se A x _)
   refine cu (al (by omega)) (dv (bN c (zbx (by omega) (bN c (bN (uQ x d) ?_)))))
   have o:dw x.Rune=dz x:=rfl
   rw[o]
   cases hL:dz x with
   | false=>
    rw[tp hL] at he
    refine cr rfl (zbx ⟨by omega,by omega⟩ ?_)
    have:=i n (A++[x]) xs (out++[x]) (by omega) (by omega) (by rw[he];simp) (fun z hz=>a z (aq _ hz)) (by simp;omega)
    rw[g] at this
    rw[show ((A.length:Int)+1)=((A++[x]).length:Int) by simp,this,N5 hL];simp
   | true=>
    rw[tn hL] at he
    obtain⟨M,R,r,l,h⟩:∃M R,M=xs.takeWhile isM∧R=xs.dropWhile isM∧xs=M++R:=⟨_,_,rfl,rfl,(lI).symm⟩
    rw[← r,← l] at he
    have e:=pI M
    have s:xs.length=M.length+R.length:=by rw[h];simp
    have f:fi b ((A.length:Int)+1) (b.length:Int)=(loI M++hiI M)++k5 R:=by
     rw[he];exact BF A x _ _ rfl
    refine cu rfl (zbx ⟨by omega,by omega⟩ (zbx ⟨by omega,by omega,by omega⟩ ?_))
    rw[f]
    refine bN (Bx _ (by rw[ah,sq];omega)) ?_
    have j:(((loI M++hiI M)++k5 R).takeWhile fun x=>eC x.Rune)=loI M++hiI M:=GQ _ _ (BB (by rw[r];exact BC xs)) (by rw[l];exact GR xs)
    rw[j,e]
    refine zbx ⟨by omega,by omega⟩ (zbx ⟨by omega,by omega⟩ ?_)
    have:=i n (A++[x]++(loI M++hiI M)) R (out++[x]) (by omega) (by omega) (by rw[he];simp) (fun z hz=>a z (by rw[h];exact aq _ (List.mem_append_right _ hz))) (by simp;omega)
    rw[g] at this
    rw[show ((A.length:Int)+(M.length:Int)+1)=((A++[x]++(loI M++hiI M)).length:Int) by rw[ah,e];simp;omega,this,N4 hL,← l];simp
theorem N8 (l:List bd) (a:pJ l) (b:l.length≤268435456):w3 l=some (nE (apL l)):=by
 unfold w3
 refine dv (bN (BG l a b) ?_)
 have h1:=tk l
 have h2:=sq (apL l)
 have:=N7 (k5 (apL l)) some (by omega) (apL l).length zbH [] (apL l) [] (bJ _) (kZ (by omega)) rfl (BD a) (bJ _)
 simpa using this
def tr:List (Int×List UInt8):=[(223,[115,115]),(230,[97,101]),(248,[111]),(240,[100]),(254,[116,104]),(273,[100]),(295,[104]),(305,[105]),(307,[105,106]),(312,[113]),(320,[108]),(322,[108]),(329,[110]),(331,[110,103]),(339,[111,101]),(359,[116]),(383,[115]),(962,[207,131])]
def pa (r:Int):ab:=match zbL r tr with | some b=>⟨b.toArray⟩ | none=>af r
theorem N9 (r:Int) (hr:fN r):wZ r=some (pa r):=by
 unfold pa tr
 simp only[zbL]
 unfold wZ
 simp only[cJ]
 have e:∀n:Int,(((r:Int)==n)=decide (r=n)):=fun n=>by rw[dJ];simp
 by_cases h1:r=223
 ·subst h1;rfl
 by_cases h2:r=230
 ·subst h2;rfl
 by_cases q:r=248
 ·subst q;rfl
 by_cases p:r=240
 ·subst p;rfl
 by_cases h5:r=273
 ·subst h5;rfl
 by_cases o:r=254
 ·subst o;rfl
 by_cases m:r=295
 ·subst m;rfl
 by_cases l:r=305
 ·subst l;rfl
 by_cases k:r=307
 ·subst k;rfl
 by_cases j:r=312
 ·subst j;rfl
 by_cases i:r=320
 ·subst i;rfl
 by_cases h:r=322
 ·subst h;rfl
 by_cases g:r=329
 ·subst g;rfl
 by_cases f:r=331
 ·subst f;rfl
 by_cases d:r=339
 ·subst d;rfl
 by_cases c:r=359
 ·subst c;rfl
 by_cases b:r=383
 ·subst b;rfl
 by_cases a:r=962
 ·subst a;rfl
 simp only[e,ae h1,ae h2,ae q,ae p,ae h5,ae o,ae m,ae l,ae k,ae j,ae i,ae h,ae g,ae f,ae d,ae c,ae b,ae a,aU,cond_false,h1,h2,q,p,h5,o,m,l,k,j,i,h,g,f,d,c,b,a,if_false]
 exact bN (yH r hr) rfl
theorem GS (r:Int):(pa r).size≤4:=by
 unfold pa
 split
 ·rename_i b a
  have h:∀p∈tr,p.2.length≤4:=by decide
  have:=h _ (qu a)
  show (b.toArray).size≤4;simpa using this
 ·exact oG r
def mH (x:bd):bd:=if dz x then ⟨x.Rune,pa (ee x.Rune),x.At⟩ else x
theorem GT (r:Int) (h:dw r=true):fN (ee r):=by
 have:=mG r h
 unfold ee
 constructor <;> ((repeat' split) <;> omega)
theorem Oa (s:ab) (m:s.size≤65536):w4 s=some ((nE (apL (gw s))).map mH):=by
 unfold w4
 have p:(gw s).length≤s.size:=by unfold gw;simpa using sb s
 have d:pJ (gw s):=fun x hx=>(uV x hx).1
 refine dv (bN (w9 s (by omega)) (bN (N8 _ d (by omega)) ?_))
 have b:pJ (nE (apL (gw s))):=by
  intro x hx
  unfold nE at hx
  obtain⟨c,hc,rfl⟩:=aW.1 hx
  exact BD d _ (BQ hc).1
 have g:(nE (apL (gw s))).length≤196608:=by
  have h1:=(GO (apL (gw s))).1
  have h2:=tk (gw s)
  unfold nE;rw[aF];omega
 generalize nE (apL (gw s))=B at b g
 have key:∀ (n k:Nat),k≤B.length→B.length - k<n→zaI (fun _ _=>none) (zdV some B) n ((B.take k).map mH++B.drop k) (k:Int)=some (B.map mH):=by
  intro n
  induction n with
  | zero=>intro k _ h;omega
  | succ n j=>
   intro k hk o
   rw[ic]
   generalize zaI (fun _ _=>none) (zdV some B) n=ag at j ⊢
   unfold zdV
   by_cases h:k<B.length
   ·have hx:B[k]?=some B[k]:=aP h
    have hd:=bB h
    have f:=b B[k] (aJ hx)
    have a:=j (k+1) (by omega) (by omega)
    have ht:B.take (k+1)=B.take k++[B[k]]:=by rw[List.take_add_one,hx];rfl
    generalize l:B[k]=x at *
    have e:((B.take k).map mH).length=k:=by simp;omega
    have hg:zcy ((B.take k).map mH++B.drop k) (k:Int)=some x:=jz (by
     rw[hd]
     have:=se ((B.take k).map mH) x (B.drop (k+1))
     rwa [e] at this)
    refine cu (al (by omega)) (dv (bN hg (bN (uQ x f) ?_)))
    have i:dw x.Rune=dz x:=rfl
    rw[i]
    rw[ht,eT] at a
    push_cast at a
    cases hL:dz x with
    | false=>
     refine cr rfl (zbx (jC (by omega)) ?_)
     have hf:mH x=x:=by unfold mH;rw[hL];rfl
     rw[← a,hd]
     congr 1
     simp[hf]
    | true=>
     refine cu rfl (zbx f (bN (N9 _ (GT _ hL)) (bN hg (zbx (jC (by omega)) ?_))))
     have hf:mH x=⟨x.Rune,pa (ee x.Rune),x.At⟩:=by unfold mH;rw[hL];rfl
     rw[← a]
     congr 1
     rw[hd,show ((k:Int)).toNat=((B.take k).map mH).length by rw[e];simp,List.set_append_right _ _ (bJ _)]
     simp[hf]
   ·have:k=B.length:=by omega
    subst this
    exact cr mu (by rw[List.take_length,fQ,aQ])
 have:=key zbH 0 (cH _) (by have:=kZ (n:=B.length) (by omega);omega)
 simpa using this
def yU (sm:Int) (j1:Option ab) (ag1:Int→Bool→Nat→Option ab) (from3:Int) (head3:Bool) (m3:Nat):Option ab := aU (decide (m3<(fe fP.data.toList).length)) ( aX ((fe fP.data.toList)[m3]?) fun (p1:Pc)=> cJ (fun (j2:Int→Option ab)=> aU (((p1.r:Int):Int)==32) ( aU (decide ((0:Int)≤from3)) ( aY (0≤(from3:Int)∧(from3:Int)≤(p1.i:Int)∧((p1.i:Int):Int)≤(fP.size:Int)) <| some (c7 fP from3 (p1.i:Int))
) ( aU (((p1.r:Int):Int)==32) ( j2 from3
) ( aU (head3) ( aU (((p1.r:Int):Int)==sm) ( aY (cR ((p1.i:Int)+((af (p1.r:Int)).size:Int))) <| j2 ((p1.i:Int)+((af (p1.r:Int)).size:Int))
) ( j2 from3
)
) ( j2 from3
)
)
)
) ( aU (((p1.r:Int):Int)==32) ( j2 from3
) ( aU (head3) ( aU (((p1.r:Int):Int)==sm) ( aY (cR ((p1.i:Int)+((af (p1.r:Int)).size:Int))) <| j2 ((p1.i:Int)+((af (p1.r:Int)).size:Int))
) ( j2 from3
)
) ( j2 from3
)
)
)
) (fun (from4:Int)=> ag1 from4 (((p1.r:Int):Int)==32) (m3+1)
)
) ( j1
)
def mI:List Pc:=fe fP.data.toList
def BR (sm:Int):Option ab:=zaI (fun _ _ _=>none) (yU sm (some (af sm))) zbH (-1) true 0
def hds:List Pc→Bool→List Int
 | [],_=>[]
 | p::ps,h=>(if (p.r==32) then [] else if h then [(p.r:Int)] else [])++hds ps (p.r==32)
theorem Oc:hds mI true=tr.map bu:=by decide +kernel
theorem Od:(tr.all fun p=>decide (BR p.1=some (pa p.1)))=true:=by decide +kernel
theorem Oe (f:Int) (J:Option ab):∀ (n m:Nat) (h:Bool),m≤mI.length→mI.length - m<n→f ∉ hds (mI.drop m) h→zaI (fun _ _ _=>none) (yU f J) n (-1) h m=J:=by
 intro n
 induction n with
 | zero=>intro m h _ i;omega
 | succ n g=>
  intro m h hm i c
  rw[ic]
  generalize zaI (fun _ _ _=>none) (yU f J) n=ag at g ⊢
  unfold yU
  by_cases a:m<mI.length
  ·have hx:mI[m]?=some mI[m]:=aP a
   rw[bB a] at c
   generalize mI[m]=p at hx c
   unfold hds at c
   rw[bO,not_or] at c
   have e:((p.r:Int)==32)=(p.r==32):=by rw[dJ];simp;omega
   refine cu (al a) (bN hx (dv ?_))
   have d:ag (-1) ((p.r:Int)==32) (m+1)=J:=g (m+1) _ (by omega) (by omega) (by rw[e];exact c.2)
   cases b:((p.r:Int)==32) with
   | true=>
    rw[b] at d
    exact cu rfl (cr (by decide) (cu rfl d))
   | false=>
    rw[b] at d
    refine cr rfl (cr rfl ?_)
    cases h with
    | false=>exact cr rfl d
    | true=>
     have h1:=c.1
     rw[← e,b] at h1
     refine cu rfl (cr ?_ d)
     rw[aS]
     intro e2
     exact h1 (by simp[e2])
  ·exact cr (ae a) rfl
theorem Of (a:Int):BR a=some (pa a):=by
 by_cases h:a∈tr.map bu
 ·obtain⟨p,hp,rfl⟩:=aW.1 h
  exact of_decide_eq_true (List.all_eq_true.1 Od p hp)
 ·have:BR a=some (af a):=Oe a _ zbH 0 true (cH _) (by
   have:mI.length≤100000:=by decide +kernel
   unfold zbH;omega) (by rw[List.drop_zero,Oc];exact h)
  rw[this]
  unfold pa
  cases hg:zbL a tr with
  | none=>rfl
  | some b=>exact absurd (aW.2 ⟨_,qu hg,rfl⟩) h
theorem Og (u:cS) (hu:fN u.base):uM u=some (if dw u.base then pa (ee u.base) else af u.base):=by
 unfold uM
 refine bN (yK u hu) ?_
 cases hL:dw u.base with
 | false=>exact cu rfl rfl
 | true=>exact cr rfl (dv (zbx hu (Of (ee u.base))))
def tu (c:bd×List bd):ab:=(mH c.1).Text
def lY (s:ab):ab:=J tu (jL s)
theorem BS (b:cS→ab) (g:bd×List bd→ab) (s:ab) (f:s.size≤65536) (h:∀c∈jL s,0≤c.1.Rune→b (fl c)=g c) (a:∀c∈jL s,c.1.Rune<0→g c=c.1.Text):J (wr b) ((jL s).map fl)=J g (jL s):=by
 rw[rk]
 refine sj fun c hc=>?_
 obtain⟨h1,h2,j,_⟩:=(sn f).2 c hc
 unfold wr
 rcases uW c h1 with⟨e,_,d,g4⟩ | ⟨e,i,d,g4⟩
 ·rw[ay e,g4,a c hc d]
 ·rw[ar (by omega),h c hc i]
theorem yV {x:bd} (h:x.Rune<0):dz x=false:=by
 cases e:dz x with
 | false=>rfl
 | true=>have:=(mG x.Rune e).1;omega
theorem GU (c:bd×List bd) (h:kv c.1):(0≤c.1.Rune→(if dw (fl c).base then pa (ee (fl c).base) else af (fl c).base)=tu c)∧(c.1.Rune<0→tu c=c.1.Text):=by
 constructor
 ·intro h0
  have a:=BK c h0
  rw[a]
  unfold tu mH dz
  rcases h.2 with⟨h1,_⟩ | ⟨_,h2⟩
  ·omega
  ·cases dw c.1.Rune with
   | true=>rfl
   | false=>simp[h2]
 ·intro h0
  unfold tu mH;rw[yV h0];rfl
theorem Oh (s:ab) (b:s.size≤65536):oo s=some (lY s):=by
 unfold oo
 obtain⟨f,hc⟩:=sn b
 refine bN (BL s b) (bN (N3 (fun u=>if dw u.base then pa (ee u.base) else af u.base) _ (by rw[aF];omega) ?_) ?_)
 ·intro u hu
  obtain⟨c,a,rfl⟩:=aW.1 hu
  obtain⟨h1,_⟩:=hc c a
  rcases uW c h1 with⟨e,d,_⟩ | ⟨e,d,g,g4⟩
  ·exact .inl ⟨e,d⟩
  ·refine .inr ⟨e,Og _ (by rw[BK c d];exact h1.1),?_⟩
   split
   ·have:=GS (ee (fl c).base);omega
   ·have:=oG (fl c).base;omega
 ·rw[BS _ tu s b (fun c a h0=>(GU c (hc c a).1).1 h0) (fun c a h0=>(GU c (hc c a).1).2 h0)];rfl
theorem GV {l:List bd} {m:Nat} (h:∀x∈l,x.Text.size≤m):oF l≤l.length*m:=by
 unfold oF
 induction l with
 | nil=>simp
 | cons x l a=>
  have:=a (fun y hy=>h y (aq _ hy))
  have:=h x (aB ..)
  simp only[aE,List.sum_cons,aj,cT,iY];omega
theorem sr {x:bd} (h:kv x):x.Text.size≤4:=by
 rcases h.2 with⟨_,h⟩ | ⟨_,h⟩
 ·omega
 ·rw[h];exact oG _
theorem GW {x:bd} (h:kv x):(mH x).Text.size≤4:=by
 unfold mH
 split
 ·exact GS _
 ·exact sr h
theorem Oi (s:ab):nE (apL (gw s))=(jL s).map bu:=rfl
theorem Oj (s:ab) (b:s.size≤65536):uK s=some (lY s):=by
 unfold uK
 obtain⟨d,hc⟩:=sn b
 refine bN (Oa s b) ?_
 rw[Oi,ce]
 have hsz:oF ((jL s).map (mH ∘ bu))≤((jL s).map (mH ∘ bu)).length*4:=GV (fun x hx=>by
  obtain⟨c,a,rfl⟩:=aW.1 hx
  exact GW (hc c a).1)
 rw[aF] at hsz
 refine bN (Gx _ (by rw[aF];omega) (by omega)) ?_
 rw[GN,rk];rfl
theorem yW (l:List Int):(iU l).size≤l.length*4:=by rw[pK];exact BO _ 4 fun x _=>oG x
def je (x:bd):bd:=⟨x.Rune,x.Text,0⟩
def mw (c:bd×List bd):bd×List bd:=(je c.1,c.2.map je)
theorem BT (x:bd):dz (je x)=dz x:=rfl
theorem Ok (x:bd):isM (je x)=isM x:=rfl
theorem yX:∀ (xs:List bd) (a:Option (bd×List bd)),fw (a.map mw) (xs.map je)=(fw a xs).map mw
 | [],none=>rfl
 | [],some c=>rfl
 | x::xs,none=>yX xs (some (x,[]))
 | x::xs,some c=>by
  show (if dz (je c.1)&&isM (je x) then fw (some (je c.1,c.2.map je++[je x])) (xs.map je) else mw c::fw (some (je x,[])) (xs.map je))=(if dz c.1&&isM x then fw (some (c.1,c.2++[x])) xs else c::fw (some (x,[])) xs).map mw
  rw[BT,Ok]
  have h1:=yX xs (some (c.1,c.2++[x]))
  have h2:=yX xs (some (x,[]))
  simp only[Option.map_some,mw,eT,aE,eu] at h1 h2
  split
  ·exact h1
  ·rw[aE,← h2]
theorem Ol (xs:List bd):cl (xs.map je)=(cl xs).map mw:=yX xs none
theorem Om (x:bd):iP (je x)=(iP x).map je:=by
 unfold iP
 rw[BT]
 split
 ·rw[ce];rfl
 ·rfl
theorem On (xs:List bd):apL (xs.map je)=(apL xs).map je:=by
 unfold apL
 induction xs with
 | nil=>rfl
 | cons x xs a=>rw[aE,aG,aG,eT,a,Om]
def zfM (t:dV):bd:=⟨if t.broken then -1 else (t.r:Int),⟨t.bs.toArray⟩,0⟩
def iQ (ts:List dV):List (bd×List bd):=cl (apL (ts.map zfM))
theorem GX (s:ab):∀ (ts pre:List dV),s.data.toList=ep (pre++ts)→((place (ep pre).length ts).map (itG s)).map je=ts.map zfM
 | [],pre,_=>rfl
 | t::ts,pre,h=>by
  have e:(ep pre).length+t.bs.length=(ep (pre++[t])).length:=by rw[oi,ah];simp[ep]
  show je (itG s ⟨(ep pre).length,t.bs.length,t.r⟩)::((place ((ep pre).length+t.bs.length) ts).map (itG s)).map je=_
  rw[e,GX s ts (pre++[t]) (by rw[h];simp),aE]
  congr 1
  unfold je itG zfM
  have a:(⟨(ep pre).length,t.bs.length,t.r⟩:Pc).broken=t.broken:=rfl
  rw[a]
  have ht:s.extract (ep pre).length ((ep pre).length+t.bs.length)=⟨t.bs.toArray⟩:=by
   apply _root_.ByteArray.ext;apply fK.1
   rw[l9,h,oi,qk]
   simp
  simp only[ht]
theorem GY (s:ab):(gw s).map je=(gj s.data.toList).map zfM:=by
 unfold gw fe
 rw[FK]
 have:=GX s (gj s.data.toList) [] (by rw[bt,AX])
 exact this
theorem yY (s:ab):(jL s).map mw=iQ (gj s.data.toList):=by
 unfold iQ jL
 rw[← GY,On,Ol]
def jR (r:Int):bd:=⟨r,af r,0⟩
theorem GZ {t:dV} (h:t.valid):zfM t=jR (t.r:Int):=by
 unfold zfM jR
 rw[s0 h]
 have:(⟨t.bs.toArray⟩:ab)=af (t.r:Int):=by
  apply _root_.ByteArray.ext;apply fK.1
  rw[o0,← h.2]
 rw[this];rfl
theorem G0 {r:Int} (h:dw r=false):gp r=[r]:=by
 unfold gp
 cases e:zbL r tabS with
 | none=>rfl
 | some p=>have:=(BA e).2.2;rw[h] at this;cases this
theorem Oo (r:Int):iP (jR r)=(gp r).map jR:=by
 unfold iP
 cases h:dz (jR r) with
 | true=>rfl
 | false=>rw[G0 (show dw r=false from h)];rfl
theorem Oq (rs:List Int):apL (rs.map jR)=(rs.flatMap gp).map jR:=by
 unfold apL
 induction rs with
 | nil=>rfl
 | cons r rs a=>rw[aE,aG,aG,eT,a,Oo]
def kw (r:Int):dV:=⟨r.toNat,encodeRune r⟩
theorem BU {r:Int} (h:vr r):(kw r).valid:=by
 unfold vr at h
 refine⟨?_,?_⟩
 ·show r.toNat<55296∨_;simp only[kw];omega
 ·show encodeRune r=encodeRune ((r.toNat:Nat):Int)
  rw[show ((r.toNat:Nat):Int)=r by omega]
end Go.Proofs.YtifpjbgnikjglaaGreatDoor


namespace Go.Proofs.YtifpjbgnikjglaaGreatDoor
open Go.RowKit Go.Lib
open Tryz
set_option linter.unusedVariables false
set_option linter.unusedSimpArgs false
open _root_.Bool renaming and_eq_true→aR,not_true→eh,false_eq_true→bw,not_false→dU
open _root_.ByteArray renaming empty→aA,size_append→aK,append_assoc→dS,append_empty→bW
open _root_.Go.IntWalk renaming i64_in→ai
open _root_.Go.Proofs.Tryz renaming underlying120→eJ,underlying46→de,underlying9→an,underlying21→bg,underlying103→bf,underlying127→jg,underlying77→bc,underlying82→rB
open ap renaming nil→ad
open Vw renaming get→cI
open _root_.Go.Utf8 renaming encode→af
open _root_.Go.Value renaming agg→aZ,int→ax,bool→am
open _root_.List renaming mem_of_getElem?→aJ,mem_filter→cp,length_filter_le→oM,length_map→aF,mem_map→aW,length_append→ah,all_eq_true→bz,foldl_cons→bQ,length_cons→aj,length_nil→bl,mem_cons_self→aB,mem_cons_of_mem→aq,map_cons→aE,cons_append→bp,append_nil→aQ,mem_append_left→jO,mem_append→bO,mem_append_right→jw,flatMap_cons→aG,singleton_append→oU,mem_cons→bE,map_append→eT,map_map→ce,filter_cons→hO,filter_eq_self→pX,filter_eq_nil_iff→ov
open _root_.List.cons renaming inj→ju
open _root_.Nat renaming lt_succ_self→av,zero_add→cg,zero_le→cH,le_refl→bJ
open _root_.Option.some renaming inj→mA
open _root_.Prod renaming fst→bu
def zcs (l1:List cS) (j1:ab→Option ab) (ag1:ab→Int→Option ab) (b4:ab) (x3:Int):Option ab := aU (decide ((x3:Int)<(l1.length:Int))) ( cJ (fun (j2:ab→Option ab)=> aX (zcy l1 x3) fun (x4:cS)=> aU (decide ((x4.base:Int)<0)) ( aY (b4.size+1≤140737488355328) <| aY (∀x∈([x4.broken]:List Int),U8 x) <| j2 (b4++(jA [x4.broken]))
) ( aX (w6 x4) fun (r1:ab)=> aY (b4.size+r1.size≤140737488355328) <| j2 (b4++r1)
)
) (fun (b5:ab)=> aY (cR (x3+1)) <| ag1 b5 (x3+1)
)
) ( j1 b4
)
def xe (l1:List cS):Option ab := cJ (fun (j1:ab→Option ab)=> zaI (fun _ _=>none) (zcs l1 j1) zbH aA 0
) (fun (b1:ab)=> some b1
)
theorem Ot {d m:Value} {a:List (cS×Hd×Hd)} {w:Nat} {t:List (cS×Hd×Hd)} {s:List cS} (f:Vw d a 5 w m t) (o:t.map bu=s) {r:ab} (h:xe s=some r):Fn prog 75 [m,.func (.func 134) #[] #[]] [mr d a,own gX a] (fun _b:Unit=>.string r) (fun _b=>[mr d a,own gX a]):=by
 unfold xe at h
 refine _root_.Go.Proofs.YtifpjbgnikjglaaGreatDoor.Fn.intro func75 rfl ntmps75 (by simp) ?_
 intro w0 K
 obtain⟨y,G,h⟩:=cP h
 refine c8 (β:=ab×Value) 2 rfl (fun b=>y b.1=some r) (fun b=>[]) (fun b=>[(5,b.2)]) (fun b=>[mr d a,own gX a,byt 5 b.2 b.1]) (fun cut=>?_) ?_
 ·
  refine aC (ac 1 rfl (cv (ac 1 rfl (az (cut (aC (ac 1 rfl ?_)))))))
  refine z7 o f rfl dc rfl eJ (ac 1 rfl (az (cy (x0 (e:=5) ?_))))
  refine fh (β:=Nat×ab×Int×Value) (fun b=>zaI (fun _ _=>none) (zcs s y) b.1 b.2.1 b.2.2.1=some r) (fun b=>[]) (fun b=>[(1,.func (.func 134) #[] #[]),(5,b.2.2.2),(8,m),(9,zI (s.length:Int)),(10,zI b.2.2.1)]) (fun b=>[mr d a,own gX a,byt 5 b.2.2.2 b.2.1]) (fun b=>b.1) (zbH,aA,0,(.slice none 0 0)) h rfl (aT rfl) (aH [0,1,2] kr rfl) ?_
  rintro⟨x,z,u,S⟩ h
  cases x with
  | zero=>exact fa h
  | succ x=>
   obtain⟨M,p⟩:∃ag,ag=zaI (fun _ _=>none) (zcs s y) x:=⟨_,rfl⟩
   have h:zcs s y M z u=some r:=by rw[p];exact h
   unfold zcs at h
   refine aC (aO rfl ei (az (cm ?_)))
   refine bG rfl h (fun h=>?_) (fun h=>?_)
   ·
    refine bH (cz ?_)
    obtain⟨T,F,h⟩:=cP h
    refine c8 (β:=ab×Value) 0 rfl (fun b=>T b.1=some r) (fun b=>[]) (fun b=>[(1,.func (.func 134) #[] #[]),(5,b.2),(8,m),(9,zI (s.length:Int)),(10,zI u)]) (fun b=>[mr d a,own gX a,byt 5 b.2 b.1]) (fun cut=>?_) ?_
    ·
     refine cut (cy (aC ?_))
     obtain⟨c,E,h⟩:=bj h
     obtain⟨⟨l,g⟩,n⟩:=vU o E
     refine gq f n eJ qU rfl dc rfl rfl rfl (mR (i:=w+(u:Int).toNat) (j:=0) (k:=0) (q:=(c,(l,g))) (cs:=[zI c.at_,.int .u8 c.broken,.int .i32 c.base,l.v,g.v]) pv oh rfl dc rfl rfl (cI f n) rfl rfl rfl ?_)
     refine eN yl rfl dc (fun Y=>?_)
     refine eH (k:=3) (vs:=[zI c.at_,.int .u8 c.broken,.int .i32 c.base,l.v,g.v]) (l':=[zI c.at_,.int .u8 c.broken,.int .i32 c.base,l.v,g.v]) qU rfl rfl rfl rfl rfl (show _≤_ by simp) rfl rfl ?_
     refine cv (cf nY rfl dc rfl (show _=2 from rfl) (bF (k:=3) fT rfl dc rfl rfl rfl (aO rfl ei (az ?_))))
     refine bG rfl h (fun h=>?_) (fun h=>?_)
     ·
      refine ct (ac 1 rfl (cf Ao rfl dc rfl (show _=1 from rfl) (bF (k:=3) Ae rfl dc rfl rfl rfl ?_)))
      refine gl (cs:=[.int .u8 c.broken]) (te:=5) (ps:=[(0,.tmp 19)]) rfl dc rfl (fun _=>by kernel_rfl) (fun W=>?_)
      obtain⟨L,h⟩:=bC h
      obtain⟨J,h⟩:=bC h
      refine zK (k:=2) (k2:=4) (ys:=(jA [c.broken])) de rO rfl dc rfl rfl rfl rfl (z1 J) rfl L (fun P=>?_)
      refine ac 1 rfl (bU (cw ?_))
      exact bx (z++(jA [c.broken]),P) h rfl (aT rfl) (aH [0,1,2] kr rfl)
     refine ct (ac 2 rfl (gM (k:=3) (cs:=[zI c.at_,.int .u8 c.broken,.int .i32 c.base,l.v,g.v]) pv rfl dc rfl rfl rfl rfl ?_))
     refine pr (k:=1) rfl (vT (cI f n)) (fun _ _=>?_)
     obtain⟨N,D,h⟩:=bj h
     refine ox (v:=.string N) (vs:=[.agg #[zI c.at_,.int .u8 c.broken,.int .i32 c.base,l.v,g.v]]) rfl dc rfl rfl rfl LD (Ng (u1:=c) (u1_h0:=l) (u1_h1:=g) D) [4,5] kr rfl ?_
     obtain⟨I,h⟩:=bC h
     refine vG (k:=2) de an rO rfl dc rfl rfl rfl I (fun O=>?_)
     refine ac 1 rfl (bU (cw (rN (k:=1) rfl (aH [4,5] kr rfl) rfl (sQ (nest:=gX) (cI f n) rfl) ?_)))
     exact bx (z++N,O) h rfl (aT rfl) (aH [0,1,2] kr rfl)
    rintro⟨U,Q⟩ h
    rw[F] at h
    refine ct ?_
    obtain⟨H,h⟩:=bC h
    refine aO rfl (dN (r:=u+1) (ai _ H)) (ac 1 rfl (bU ?_))
    subst p
    exact ff (x,U,u+1,Q) h (av _) rfl (aT rfl) (aH [0,1,2] kr rfl)
   refine dZ (cA (cA (ed ?_)))
   exact bx (z,S) h rfl (aT rfl) (aH [0,1,2] kr rfl)
 rintro⟨b1,V⟩ h
 rw[G] at h
 refine aC (ac 1 rfl (p5 (k:=2) rfl dc rfl rfl de underlying5 an (ac 1 rfl (az (bI ?_)))))
 cases h
 exact eO (rs:=[.tmp 4]) () (.inl rfl) results75 (.cons (.tmp rfl) .nil) rfl (aH [0,1] kr rfl)
def uX (s1:ab):Option ab := aX (si s1) fun (r1:(List cS))=> aX (xe r1) fun (r2:ab)=> some r2
theorem G1 {a:ab} {r:ab} (h:uX a=some r):dO prog 85 [.string a] (.string r):=by
 unfold uX at h
 refine dO.intro func85 rfl ntmps85 (by simp) ?_
 intro w0 K
 refine aC (ac 1 rfl (cv (ac 1 rfl ?_)))
 obtain⟨m,e,h⟩:=bj h
 refine fY (vs:=[.string a]) rfl dc rfl rfl rfl AH (BJ e) ad ?_
 rintro l
 refine zS (k:=0) rfl (fun g f=>?_)
 subst f
 refine pr (k:=0) rfl tW (fun i b=>?_)
 refine kG (k:=0) rfl (fun c=>?_)
 obtain⟨j,d,h⟩:=bj h
 refine ox (v:=.string j) (vs:=[g.v,.func (.func 134) #[] #[]]) rfl dc rfl rfl rfl AG (Ot c b d) [0,1] kr rfl (ac 1 rfl (az (bI ?_)))
 cases h
 exact dk 2 results85
def xf (s1:ab):Option ab := aX (rf s1) fun (r1:(List bX))=> aX (tc r1) fun (r2:(List bX))=> aX (uI r2) fun (r3:ab)=> some r3
theorem Ou {a:ab} {r:ab} (h:xf a=some r):dO prog 96 [.string a] (.string r):=by
 unfold xf at h
 refine dO.intro func96 rfl ntmps96 (by simp) ?_
 intro w0 K
 refine aC (ac 1 rfl (cv (ac 1 rfl ?_)))
 obtain⟨m,f,h⟩:=bj h
 refine fY (vs:=[.string a]) rfl dc rfl rfl rfl wc (wY f) ad ?_
 rintro i
 refine kG (k:=0) rfl (fun c=>?_)
 obtain⟨l,e,h⟩:=bj h
 refine fY (vs:=[i]) rfl dc rfl rfl rfl Ax (Bo c e) (aH [0] kr rfl) ?_
 rintro g
 refine kG (k:=2) rfl (fun b=>?_)
 obtain⟨j,d,h⟩:=bj h
 refine nj (v:=.string j) (vs:=[g]) (Rd.nil:Rd _ _ []) rfl dc rfl rfl rfl Fg (F6 b d) (.own (As:=[fv g l]) (aH [2] kr rfl) (fun _ _ h=>nU kX (aN.one1.1 h)) .nil) ?_
 refine ac 1 rfl (az (bI ?_))
 cases h
 exact dk 2 results96
theorem Ov (a:cS→ab) (l:List cS) (g:l.length≤1048576) (h:∀u∈l,u.base<0∧U8 u.broken∨0≤u.base∧w6 u=some (a u)∧(a u).size≤1048576):xe l=some (J (wr a) l):=by
 unfold xe
 refine dv ((qq (xs:=l) (f:=fun b u=>b++wr a u) (J:=some) (fun k b=>b.size≤k*1048576) ?_ ?_ ?_ (kZ (by omega)) (by decide)).trans rfl)
 ·intro ag k u b hu d
  have hk:=nD hu
  unfold zcs
  refine cu (mE hu) (dv (bN (lW hu) ?_))
  rcases h u (aJ hu) with⟨h1,h2⟩ | ⟨h1,h2,c⟩
  ·exact cu (al h1) (zbx (by omega) (zbx (by simpa using h2) (zbx (jC (by omega)) (by simp only[wr,ay h1]))))
  ·exact cr (ae (by omega)) (bN h2 (zbx (by omega) (zbx (jC (by omega)) (by simp only[wr,ar (show ¬ u.base<0 by omega)]))))
 ·intro k u b hu d
  have e:(wr a u).size≤1048576:=by
   rcases h u (aJ hu) with⟨h1,h2⟩ | ⟨h1,h2,c⟩
   ·unfold wr;rw[ay h1,zQ];simp
   ·unfold wr;rw[ar (by omega)];exact c
  rw[aK];omega
 ·intro ag b _;unfold zcs;exact cr mu rfl
def G2 (s:ab):ab:=J (fun c=>c.1.Text) (jL s)
def oH (c:bd×List bd):ab:=J (·.Text) (lN c)
def lZ (s:ab):ab:=J oH (jL s)
theorem G3 (l:List bd) (h:∀m∈l,isM m=true∧kv m):iU (l.map (·.Rune))=J (·.Text) l:=by
 rw[pK,rk]
 refine sj fun m hm=>?_
 obtain⟨h1,h2⟩:=h m hm
 rcases h2.2 with⟨a,_⟩ | ⟨_,a⟩
 ·have:eC m.Rune=true:=h1
  unfold eC at this;simp at this;omega
 ·exact a.symm
theorem Ow {a:List bd} {P:bd→Prop} (h:∀m∈a,P m):(∀m∈loI a,P m)∧∀m∈hiI a,P m :=
 ⟨fun m hm=>h m (cp.1 hm).1,fun m hm=>h m (cp.1 hm).1⟩
theorem xg (a:List bd):(loI a).length≤a.length∧(hiI a).length≤a.length:=⟨oM _ _,oM _ _⟩
theorem Ox (s:ab) (d:s.size≤65536):uX s=some (lZ s):=by
 unfold uX
 obtain⟨j,hc⟩:=sn d
 refine bN (BL s d) (bN (Ov (fun u=>((af u.base)++(iU u.low))++(iU u.high)) _ (by rw[aF];omega) ?_) ?_)
 ·intro u hu
  obtain⟨c,a,rfl⟩:=aW.1 hu
  obtain⟨h1,_,_,l⟩:=hc c a
  rcases uW c h1 with⟨b,h,_⟩ | ⟨b,h,g,g4⟩
  ·exact .inl ⟨b,h⟩
  ·have k:=xg c.2
   have e1:(fl c).low.length≤196608:=by rw[g4];simp;omega
   have e2:(fl c).high.length≤196608:=by rw[g4];simp;omega
   have o:=yW (fl c).low
   have n:=yW (fl c).high
   have m:=oG (fl c).base
   refine .inr ⟨b,?_,?_⟩
   ·unfold w6
    exact zbx (by omega) (zbx (by rw[aK];omega) rfl)
   ·rw[aK,aK]
    have:(fl c).low.length+(fl c).high.length≤196608:=by
     rw[g4];have:=pI c.2;rw[ah] at this;simp;omega
    omega
 ·rw[BS _ oH s d (fun c a h0=>by
   obtain⟨h1,h2,_⟩:=hc c a
   obtain⟨e,f⟩:=Ow h2
   rcases uW c h1 with⟨_,_,g,_⟩ | ⟨b,h,g,g4⟩
   ·omega
   ·rw[g4]
    show af c.1.Rune++iU ((loI c.2).map (·.Rune))++iU ((hiI c.2).map (·.Rune))=_
    rw[G3 _ e,G3 _ f]
    unfold oH lN
    rw[j0,xd,g,dS]) (fun c a h0=>by
   obtain⟨_,_,i,_⟩:=hc c a
   unfold oH lN
   rw[i (yV h0)]
   show J _ [c.1]=_
   rw[j0,qw,bW])];rfl
theorem Oy (s:ab) (b:s.size≤65536):xf s=some (lZ s):=by
 unfold xf
 have d:(gw s).length≤s.size:=by unfold gw;simpa using sb s
 have a:=BP (uV (s:=s))
 have c:=tk (gw s)
 have h5:=sq (apL (gw s))
 refine bN (w9 s (by omega)) (bN (BG _ (fun x hx=>(uV x hx).1) (by omega)) ?_)
 have hsz:oF (k5 (apL (gw s)))≤(k5 (apL (gw s))).length*4:=GV (fun x hx=>sr (a x (N6 hx)))
 refine bN (Gx _ (by omega) (by omega)) ?_
 rw[GN]
 show some (J _ ((jL s).flatMap lN))=_
 rw[BN];rfl
def zcW (u1:cS) (Mc0:List (zam×Int)) (j2:Int→(List Int)→Option ab) (ag1:Int→(List Int)→Bool→Int→Option ab) (u7:Int) (stayed5:List Int) (free3:Bool) (x3:Int):Option ab := aU (decide ((x3:Int)<(u1.low.length:Int))) ( cJ (fun (j3:Int→(List Int)→Bool→Option ab)=> aX (zcy u1.low x3) fun (q1:Int)=> aU ((zbL (⟨u7,q1⟩:zam) Mc0).isSome) ( aU (free3) ( j3 ((zbL (⟨u7,q1⟩:zam) Mc0).getD 0) stayed5 free3
) ( aY (stayed5.length+1≤2147483648) <| j3 u7 (stayed5++[q1]) false
)
) ( aY (stayed5.length+1≤2147483648) <| j3 u7 (stayed5++[q1]) false
)
) (fun (u8:Int) (stayed6:List Int) (free4:Bool)=> aY (cR (x3+1)) <| ag1 u8 stayed6 free4 (x3+1)
)
) ( j2 u7 stayed5
)
def zcj (u1:cS) (Mc0:List (zam×Int)) (j4:Int→(List Int)→Option ab) (ag2:Int→(List Int)→Bool→Int→Option ab) (u12:Int) (stayed10:List Int) (free7:Bool) (x6:Int):Option ab := aU (decide ((x6:Int)<(u1.high.length:Int))) ( cJ (fun (j5:Int→(List Int)→Bool→Option ab)=> aX (zcy u1.high x6) fun (q2:Int)=> aU ((zbL (⟨u12,q2⟩:zam) Mc0).isSome) ( aU (free7) ( j5 ((zbL (⟨u12,q2⟩:zam) Mc0).getD 0) stayed10 free7
) ( aY (stayed10.length+1≤2147483648) <| j5 u12 (stayed10++[q2]) false
)
) ( aY (stayed10.length+1≤2147483648) <| j5 u12 (stayed10++[q2]) false
)
) (fun (u13:Int) (stayed11:List Int) (free8:Bool)=> aY (cR (x6+1)) <| ag2 u13 stayed11 free8 (x6+1)
)
) ( j4 u12 stayed10
)
def uY (u1:cS) (Mc0:List (zam×Int)):Option ab := aX (rh u1) fun (r1:Bool)=> aU (!r1) ( some (af u1.base)
) ( cJ (fun (j1:Int→(List Int)→Option ab)=> cJ (fun (j2:Int→(List Int)→Option ab)=> zaI (fun _ _ _ _=>none) (zcW u1 Mc0 j2) zbH u1.base ([]:List Int) true 0
) (fun (u3:Int) (stayed2:List Int)=> cJ (fun (j4:Int→(List Int)→Option ab)=> zaI (fun _ _ _ _=>none) (zcj u1 Mc0 j4) zbH u3 stayed2 true 0
) (fun (u9:Int) (stayed7:List Int)=> j1 u9 stayed7
)
)
) (fun (u2:Int) (stayed1:List Int)=> aY ((af u2).size+(iU stayed1).size≤9223372036854775807) <| some ((af u2)++(iU stayed1))
)
)
theorem Oz {u1:cS} {u1_h0 u1_h1:Hd} {bc0 bmc0:Nat} {d:List (zam×Int)} {r:ab} (h:uY u1 d=some r):Fn prog 77 [.agg #[zI u1.at_,.int .u8 u1.broken,.int .i32 u1.base,u1_h0.v,u1_h1.v],zP bc0] [eo u1_h0.v u1.low,eo u1_h1.v u1.high,cells bc0 [.map (some bmc0)] 115,cq (fun p:zam=>aZ #[.int .i32 p.e0,.int .i32 p.e1]) (fun n:Int=>ax .i32 n) bmc0 d] (fun _b:Unit=>.string r) (fun _b=>[eo u1_h0.v u1.low,eo u1_h1.v u1.high,cells bc0 [.map (some bmc0)] 115,cq (fun p:zam=>aZ #[.int .i32 p.e0,.int .i32 p.e1]) (fun n:Int=>ax .i32 n) bmc0 d]):=by
 unfold uY at h
 refine _root_.Go.Proofs.YtifpjbgnikjglaaGreatDoor.Fn.intro func77 rfl ntmps77 (by simp) ?_
 intro w0 K
 refine aC ?_
 refine jy rfl dc rfl (fun b1=>?_)
 refine ac 1 rfl (az (cm (aC (gM (k:=4) (cs:=[zI u1.at_,.int .u8 u1.broken,.int .i32 u1.base,u1_h0.v,u1_h1.v]) pv rfl dc rfl rfl rfl rfl ?_))))
 obtain⟨r1,W,h⟩:=bj h
 refine ox (v:=.bool r1) (vs:=[.agg #[zI u1.at_,.int .u8 u1.broken,.int .i32 u1.base,u1_h0.v,u1_h1.v]]) rfl dc rfl rfl rfl yo (yI (u1:=u1) (u1_h0:=u1_h0) (u1_h1:=u1_h1) W) [0,1] kr rfl (jq rfl dc rfl js (az ?_))
 refine bG rfl h (fun h=>?_) (fun h=>?_)
 ·
  refine aC (cf nY rfl dc rfl (show _=2 from rfl) (bF (k:=4) fT rfl dc rfl rfl rfl (jr rfl dc rfl (mf bg an) (ac 1 rfl (az (bI (bT ?_)))))))
  cases h
  exact eO (rs:=[.tmp 3]) () (.inl rfl) results77 (.cons (.tmp rfl) .nil) rfl (aH [0,1,2,3] kr rfl)
 refine bH (cz ?_)
 obtain⟨j1,a0,h⟩:=cP h
 refine c8 (β:=Int×(List Int)×Hd) 1 rfl (fun b=>j1 b.1 b.2.1=some r) (fun b=>[]) (fun b=>[(2,zP b1),(4,b.2.2.v)]) (fun b=>[cells bc0 [.map (some bmc0)] 115,cq (fun p:zam=>aZ #[.int .i32 p.e0,.int .i32 p.e1]) (fun n:Int=>ax .i32 n) bmc0 d,eo u1_h0.v u1.low,eo u1_h1.v u1.high,cells b1 [zI u1.at_,.int .u8 u1.broken,.int .i32 b.1,u1_h0.v,u1_h1.v] 123,eo b.2.2.v b.2.1]) (fun cut=>?_) ?_
 ·
  refine aC (ac 1 rfl (az (cut (aC (cf yj rfl dc rfl (show _=3 from rfl) (bF (k:=4) uh rfl dc rfl rfl rfl (cf yk rfl dc rfl (show _=4 from rfl) (bF (k:=4) uh rfl dc rfl rfl rfl ?_))))))))
  refine eU (v:=.agg #[u1_h0.v,u1_h1.v]) (ps:=[(0,.tmp 19),(1,.tmp 21)]) rfl dc rfl (fun _=>by kernel_rfl) ?_
  refine ac 1 rfl (az (cy (Ef 3 (sP (aC (aO rfl (sK (show am (decide ((0:Int)<2))=am true from aL am dc) ei) (az (cm (iH rfl (bH ?_))))))))))
  refine cz ?_
  obtain⟨U,aw,h⟩:=cP h
  refine c8 (β:=Int×(List Int)×Hd) 0 rfl (fun b=>U b.1 b.2.1=some r) (fun b=>[]) (fun b=>[(1,zP bc0),(2,zP b1),(4,b.2.2.v),(22,.agg #[u1_h0.v,u1_h1.v]),(23,zI 0)]) (fun b=>[cells bc0 [.map (some bmc0)] 115,cq (fun p:zam=>aZ #[.int .i32 p.e0,.int .i32 p.e1]) (fun n:Int=>ax .i32 n) bmc0 d,eo u1_h0.v u1.low,eo u1_h1.v u1.high,cells b1 [zI u1.at_,.int .u8 u1.broken,.int .i32 b.1,u1_h0.v,u1_h1.v] 123,eo b.2.2.v b.2.1]) (fun cut=>?_) ?_
  ·
   refine cut (cy (aC ?_))
   refine ny (v:=u1_h0.v) rfl dc rfl rfl (fun _=>by kernel_rfl) ?_
   refine ac 1 rfl (cv (ac 1 rfl (cv (ac 1 rfl (iA (k:=0) rfl dc rfl rfl bf (ac 1 rfl (bU ?_)))))))
   refine cz (cy (nf (enc:=(kn (.i32))) (e:=21) (size:=1) ?_))
   refine fh (β:=Nat×Int×(List Int)×Bool×Int×Hd) (fun b=>zaI (fun _ _ _ _=>none) (zcW u1 d U) b.1 b.2.1 b.2.2.1 b.2.2.2.1 b.2.2.2.2.1=some r) (fun b=>[]) (fun b=>[(1,zP bc0),(2,zP b1),(4,b.2.2.2.2.2.v),(7,.bool b.2.2.2.1),(22,.agg #[u1_h0.v,u1_h1.v]),(23,zI 0),(26,u1_h0.v),(27,zI (u1.low.length:Int)),(28,zI b.2.2.2.2.1)]) (fun b=>[cells bc0 [.map (some bmc0)] 115,cq (fun p:zam=>aZ #[.int .i32 p.e0,.int .i32 p.e1]) (fun n:Int=>ax .i32 n) bmc0 d,eo u1_h0.v u1.low,eo u1_h1.v u1.high,cells b1 [zI u1.at_,.int .u8 u1.broken,.int .i32 b.2.1,u1_h0.v,u1_h1.v] 123,eo b.2.2.2.2.2.v b.2.2.1]) (fun b=>b.1) (zbH,u1.base,([]:List Int),true,0,Hd.nil) h rfl (aT rfl) (aH [2,3,0,1,4,5] kr rfl) ?_
   rintro⟨S,x,f,w,H,M⟩ h
   cases S with
   | zero=>exact fa h
   | succ S=>
    obtain⟨b9,D⟩:∃ag,ag=zaI (fun _ _ _ _=>none) (zcW u1 d U) S:=⟨_,rfl⟩
    have h:zcW u1 d U b9 x f w H=some r:=by rw[D];exact h
    unfold zcW at h
    refine aC (aO rfl ei (az (cm ?_)))
    refine bG rfl h (fun h=>?_) (fun h=>?_)
    ·
     refine bH (cz ?_)
     obtain⟨j3,ao,h⟩:=cP h
     refine c8 (β:=Int×(List Int)×Bool×Hd) 0 rfl (fun b=>j3 b.1 b.2.1 b.2.2.1=some r) (fun b=>[]) (fun b=>[(1,zP bc0),(2,zP b1),(4,b.2.2.2.v),(7,.bool b.2.2.1),(22,.agg #[u1_h0.v,u1_h1.v]),(23,zI 0),(26,u1_h0.v),(27,zI (u1.low.length:Int)),(28,zI H)]) (fun b=>[cells bc0 [.map (some bmc0)] 115,cq (fun p:zam=>aZ #[.int .i32 p.e0,.int .i32 p.e1]) (fun n:Int=>ax .i32 n) bmc0 d,eo u1_h0.v u1.low,eo u1_h1.v u1.high,cells b1 [zI u1.at_,.int .u8 u1.broken,.int .i32 b.1,u1_h0.v,u1_h1.v] 123,eo b.2.2.2.v b.2.1]) (fun cut=>?_) ?_
     ·
      refine cut (cy (aC ?_))
      obtain⟨q1,L,h⟩:=bj h
      refine fO (k:=2) L bf kq rfl dc rfl rfl rfl rfl (ib (i:=(H:Int).toNat) (j:=0) (k:=2) (q:=q1) fT jh rfl dc rfl rfl (fb L) rfl dc rfl (ac 1 rfl (cv (bF (k:=0) wa rfl dc rfl rfl rfl (cf nY rfl dc rfl (show _=2 from rfl) (bF (k:=4) fT rfl dc rfl rfl rfl (ac 1 rfl ?_)))))))
      refine eU (v:=.agg #[.int .i32 x,.int .i32 q1]) (ps:=[(0,.tmp 35),(1,.tmp 36)]) rfl dc rfl (fun _=>by kernel_rfl) ?_
      refine yb (k:=1) (ek:=(fun p:zam=>aZ #[.int .i32 p.e0,.int .i32 p.e1])) (ev':=(fun n:Int=>ax .i32 n)) (kk:=(⟨x,q1⟩:zam)) (z0:=0) (Aa (f0:=fun p:zam=>p.e0) (f1:=fun p:zam=>p.e1) (fun a b h1 h2=>by cases a;cases b;simp_all) jg bg kq) underlying115 kr rfl dc rfl rfl rfl ?_
      refine ac 1 rfl (fS rfl dc rfl rfl (fS rfl dc rfl rfl (ac 2 rfl (cv (ac 2 rfl ?_)))))
      refine dG (s:=42) rfl h (fun h=>?_) (fun h=>?_)
      ·
       refine ac 2 rfl (az ?_)
       refine bG rfl h (fun h=>?_) (fun h=>?_)
       ·
        refine ct (ac 1 rfl (cf nY rfl dc rfl (show _=2 from rfl) ?_))
        refine ef (k:=4) (l':=[zI u1.at_,.int .u8 u1.broken,.int .i32 ((zbL (⟨x,q1⟩:zam) d).getD 0),u1_h0.v,u1_h1.v]) kq rfl rfl rfl rfl rfl (fun _ _=>rfl) rfl ?_
        refine bU (cw ?_)
        exact bx (((zbL (⟨x,q1⟩:zam) d).getD 0),f,w,M) h rfl (aT rfl) (aH [0,1,2,3,4,5] kr rfl)
       refine aC (ac 2 rfl ?_)
       refine gl (cs:=[.int .i32 q1]) (te:=21) (ps:=[(0,.tmp 48)]) rfl dc rfl (fun _=>by kernel_rfl) (fun b2=>?_)
       obtain⟨a7,h⟩:=bC h
       refine iT (k:=5) (k2:=6) (ys:=[q1]) bf rP jh rK rfl dc rfl rfl rfl rfl rfl rfl a7 (fun v1=>?_)
       refine jd (k:=5) rfl (fun b0 bh=>?_)
       subst bh
       refine ac 1 rfl (az (ct (ac 1 rfl (bU (cw ?_)))))
       exact bx (x,f++[q1],false,b0) h rfl (aT rfl) (aH [0,1,2,3,4,5] kr rfl)
      refine ac 2 rfl (az (eQ rfl (aC (ac 2 rfl ?_))))
      refine gl (cs:=[.int .i32 q1]) (te:=21) (ps:=[(0,.tmp 48)]) rfl dc rfl (fun _=>by kernel_rfl) (fun b3=>?_)
      obtain⟨a6,h⟩:=bC h
      refine iT (k:=5) (k2:=6) (ys:=[q1]) bf rP jh rK rfl dc rfl rfl rfl rfl rfl rfl a6 (fun v2=>?_)
      refine jd (k:=5) rfl (fun bs bb=>?_)
      subst bb
      refine ac 1 rfl (az (ct (ac 1 rfl (bU (cw ?_)))))
      exact bx (x,f++[q1],false,bs) h rfl (aT rfl) (aH [0,1,2,3,4,5] kr rfl)
     rintro⟨u8,o,F,b6⟩ h
     rw[ao] at h
     refine ct ?_
     obtain⟨a5,h⟩:=bC h
     refine aO rfl (dN (r:=H+1) (ai _ a5)) (ac 1 rfl (bU ?_))
     subst D
     exact ff (S,u8,o,F,H+1,b6) h (av _) rfl (aT rfl) (aH [0,1,2,3,4,5] kr rfl)
    refine dZ (cA (cA (ed (cw ?_))))
    exact bx (x,f,M) h rfl (aT rfl) (aH [0,1,2,3,4,5] kr rfl)
  rintro⟨u3,t,b7⟩ h
  rw[aw] at h
  refine ct (aO rfl (dN (r:=1) dc) (ac 1 rfl (bU (vQ (sP (aC (aO rfl (sK (show am (decide ((1:Int)<2))=am true from aL am dc) ei) (az (cm (iH rfl (bH ?_)))))))))))
  refine cz ?_
  obtain⟨T,Z,h⟩:=cP h
  refine c8 (β:=Int×(List Int)×Hd) 0 rfl (fun b=>T b.1 b.2.1=some r) (fun b=>[]) (fun b=>[(1,zP bc0),(2,zP b1),(4,b.2.2.v),(22,.agg #[u1_h0.v,u1_h1.v]),(23,zI 1)]) (fun b=>[cells bc0 [.map (some bmc0)] 115,cq (fun p:zam=>aZ #[.int .i32 p.e0,.int .i32 p.e1]) (fun n:Int=>ax .i32 n) bmc0 d,eo u1_h0.v u1.low,eo u1_h1.v u1.high,cells b1 [zI u1.at_,.int .u8 u1.broken,.int .i32 b.1,u1_h0.v,u1_h1.v] 123,eo b.2.2.v b.2.1]) (fun cut=>?_) ?_
  ·
   refine cut (cy (aC ?_))
   refine ny (v:=u1_h1.v) rfl dc rfl rfl (fun _=>by kernel_rfl) ?_
   refine ac 1 rfl (cv (ac 1 rfl (cv (ac 1 rfl (iA (k:=3) rfl dc rfl rfl bf (ac 1 rfl (bU ?_)))))))
   refine cz (cy ?_)
   refine fh (β:=Nat×Int×(List Int)×Bool×Int×Hd) (fun b=>zaI (fun _ _ _ _=>none) (zcj u1 d T) b.1 b.2.1 b.2.2.1 b.2.2.2.1 b.2.2.2.2.1=some r) (fun b=>[]) (fun b=>[(1,zP bc0),(2,zP b1),(4,b.2.2.2.2.2.v),(7,.bool b.2.2.2.1),(22,.agg #[u1_h0.v,u1_h1.v]),(23,zI 1),(26,u1_h1.v),(27,zI (u1.high.length:Int)),(28,zI b.2.2.2.2.1)]) (fun b=>[cells bc0 [.map (some bmc0)] 115,cq (fun p:zam=>aZ #[.int .i32 p.e0,.int .i32 p.e1]) (fun n:Int=>ax .i32 n) bmc0 d,eo u1_h0.v u1.low,eo u1_h1.v u1.high,cells b1 [zI u1.at_,.int .u8 u1.broken,.int .i32 b.2.1,u1_h0.v,u1_h1.v] 123,eo b.2.2.2.2.2.v b.2.2.1]) (fun b=>b.1) (zbH,u3,t,true,0,b7) h rfl (aT rfl) (aH [0,1,2,3,4,5] kr rfl) ?_
   rintro⟨Q,g,c,u,G,y⟩ h
   cases Q with
   | zero=>exact fa h
   | succ Q=>
    obtain⟨b8,z⟩:∃ag,ag=zaI (fun _ _ _ _=>none) (zcj u1 d T) Q:=⟨_,rfl⟩
    have h:zcj u1 d T b8 g c u G=some r:=by rw[z];exact h
    unfold zcj at h
    refine aC (aO rfl ei (az (cm ?_)))
    refine bG rfl h (fun h=>?_) (fun h=>?_)
    ·
     refine bH (cz ?_)
     obtain⟨j5,Y,h⟩:=cP h
     refine c8 (β:=Int×(List Int)×Bool×Hd) 0 rfl (fun b=>j5 b.1 b.2.1 b.2.2.1=some r) (fun b=>[]) (fun b=>[(1,zP bc0),(2,zP b1),(4,b.2.2.2.v),(7,.bool b.2.2.1),(22,.agg #[u1_h0.v,u1_h1.v]),(23,zI 1),(26,u1_h1.v),(27,zI (u1.high.length:Int)),(28,zI G)]) (fun b=>[cells bc0 [.map (some bmc0)] 115,cq (fun p:zam=>aZ #[.int .i32 p.e0,.int .i32 p.e1]) (fun n:Int=>ax .i32 n) bmc0 d,eo u1_h0.v u1.low,eo u1_h1.v u1.high,cells b1 [zI u1.at_,.int .u8 u1.broken,.int .i32 b.1,u1_h0.v,u1_h1.v] 123,eo b.2.2.2.v b.2.1]) (fun cut=>?_) ?_
     ·
      refine cut (cy (aC ?_))
      obtain⟨q2,J,h⟩:=bj h
      refine fO (k:=3) J bf kq rfl dc rfl rfl rfl rfl (ib (i:=(G:Int).toNat) (j:=0) (k:=3) (q:=q2) fT jh rfl dc rfl rfl (fb J) rfl dc rfl (ac 1 rfl (cv (bF (k:=0) wa rfl dc rfl rfl rfl (cf nY rfl dc rfl (show _=2 from rfl) (bF (k:=4) fT rfl dc rfl rfl rfl (ac 1 rfl ?_)))))))
      refine eU (v:=.agg #[.int .i32 g,.int .i32 q2]) (ps:=[(0,.tmp 35),(1,.tmp 36)]) rfl dc rfl (fun _=>by kernel_rfl) ?_
      refine yb (k:=1) (ek:=(fun p:zam=>aZ #[.int .i32 p.e0,.int .i32 p.e1])) (ev':=(fun n:Int=>ax .i32 n)) (kk:=(⟨g,q2⟩:zam)) (z0:=0) (Aa (f0:=fun p:zam=>p.e0) (f1:=fun p:zam=>p.e1) (fun a b h1 h2=>by cases a;cases b;simp_all) jg bg kq) underlying115 kr rfl dc rfl rfl rfl ?_
      refine ac 1 rfl (fS rfl dc rfl rfl (fS rfl dc rfl rfl (ac 2 rfl (cv (ac 2 rfl ?_)))))
      refine dG (s:=42) rfl h (fun h=>?_) (fun h=>?_)
      ·
       refine ac 2 rfl (az ?_)
       refine bG rfl h (fun h=>?_) (fun h=>?_)
       ·
        refine ct (ac 1 rfl (cf nY rfl dc rfl (show _=2 from rfl) ?_))
        refine ef (k:=4) (l':=[zI u1.at_,.int .u8 u1.broken,.int .i32 ((zbL (⟨g,q2⟩:zam) d).getD 0),u1_h0.v,u1_h1.v]) kq rfl rfl rfl rfl rfl (fun _ _=>rfl) rfl ?_
        refine bU (cw ?_)
        exact bx (((zbL (⟨g,q2⟩:zam) d).getD 0),c,u,y) h rfl (aT rfl) (aH [0,1,2,3,4,5] kr rfl)
       refine aC (ac 2 rfl ?_)
       refine gl (cs:=[.int .i32 q2]) (te:=21) (ps:=[(0,.tmp 48)]) rfl dc rfl (fun _=>by kernel_rfl) (fun b4=>?_)
       obtain⟨a4,h⟩:=bC h
       refine iT (k:=5) (k2:=6) (ys:=[q2]) bf rP jh rK rfl dc rfl rfl rfl rfl rfl rfl a4 (fun v3=>?_)
       refine jd (k:=5) rfl (fun O a9=>?_)
       subst a9
       refine ac 1 rfl (az (ct (ac 1 rfl (bU (cw ?_)))))
       exact bx (g,c++[q2],false,O) h rfl (aT rfl) (aH [0,1,2,3,4,5] kr rfl)
      refine ac 2 rfl (az (eQ rfl (aC (ac 2 rfl ?_))))
      refine gl (cs:=[.int .i32 q2]) (te:=21) (ps:=[(0,.tmp 48)]) rfl dc rfl (fun _=>by kernel_rfl) (fun b5=>?_)
      obtain⟨a3,h⟩:=bC h
      refine iT (k:=5) (k2:=6) (ys:=[q2]) bf rP jh rK rfl dc rfl rfl rfl rfl rfl rfl a3 (fun v4=>?_)
      refine jd (k:=5) rfl (fun N a8=>?_)
      subst a8
      refine ac 1 rfl (az (ct (ac 1 rfl (bU (cw ?_)))))
      exact bx (g,c++[q2],false,N) h rfl (aT rfl) (aH [0,1,2,3,4,5] kr rfl)
     rintro⟨V,l,E,P⟩ h
     rw[Y] at h
     refine ct ?_
     obtain⟨a2,h⟩:=bC h
     refine aO rfl (dN (r:=G+1) (ai _ a2)) (ac 1 rfl (bU ?_))
     subst z
     exact ff (Q,V,l,E,G+1,P) h (av _) rfl (aT rfl) (aH [0,1,2,3,4,5] kr rfl)
    refine dZ (cA (cA (ed (cw ?_))))
    exact bx (g,c,y) h rfl (aT rfl) (aH [0,1,2,3,4,5] kr rfl)
  rintro⟨u9,m,bk⟩ h
  rw[Z] at h
  refine ct (aO rfl (dN (r:=2) dc) (ac 1 rfl (bU (vQ (sP (aC (aO rfl (sK (show am (decide ((2:Int)<2))=am false from aL am dc) ei) (az (cm (eQ rfl (dZ ?_)))))))))))
  refine cA (cA (ed ?_))
  exact bx (u9,m,bk) h rfl (aT rfl) (aH [0,1,2,3,4,5] kr rfl)
 rintro⟨u2,I,cc⟩ h
 rw[a0] at h
 refine aC (cf nY rfl dc rfl (show _=2 from rfl) (bF (k:=4) fT rfl dc rfl rfl rfl (jr rfl dc rfl (mf bg an) (ac 1 rfl (zX (k:=5) rfl dc rfl rfl bf bg an ?_)))))
 obtain⟨a1,h⟩:=bC h
 refine aO rfl (kQ a1) (ac 1 rfl (az (bI ?_)))
 cases h
 exact eO (rs:=[.tmp 3]) () (.inl rfl) results77 (.cons (.tmp rfl) .nil) rfl (aH [2,3,0,1] kr rfl)
def zb8 (l1:List cS) (Mof10:List (zam×Int)) (j1:ab→Option ab) (ag1:ab→Int→Option ab) (b4:ab) (x3:Int):Option ab := aU (decide ((x3:Int)<(l1.length:Int))) ( cJ (fun (j2:ab→Option ab)=> aX (zcy l1 x3) fun (x4:cS)=> aU (decide ((x4.base:Int)<0)) ( aY (b4.size+1≤140737488355328) <| aY (∀x∈([x4.broken]:List Int),U8 x) <| j2 (b4++(jA [x4.broken]))
) ( aX (uY x4 Mof10) fun (r1:ab)=> aY (b4.size+r1.size≤140737488355328) <| j2 (b4++r1)
)
) (fun (b5:ab)=> aY (cR (x3+1)) <| ag1 b5 (x3+1)
)
) ( j1 b4
)
def xh (l1:List cS) (Mof10:List (zam×Int)):Option ab := cJ (fun (j1:ab→Option ab)=> zaI (fun _ _=>none) (zb8 l1 Mof10 j1) zbH aA 0
) (fun (b1:ab)=> some b1
)
theorem OA {g s:Value} {d:List (cS×Hd×Hd)} {D:Nat} {y:List (cS×Hd×Hd)} {x:List cS} (l:Vw g d 5 D s y) (u:y.map bu=x) {c bmof10:Nat} {a:List (zam×Int)} {r:ab} (h:xh x a=some r):Fn prog 75 [s,.func (.func 77) #[] #[zP c]] [mr g d,own gX d,cells c [.map (some bmof10)] 115,cq (fun p:zam=>aZ #[.int .i32 p.e0,.int .i32 p.e1]) (fun n:Int=>ax .i32 n) bmof10 a] (fun _b:Unit=>.string r) (fun _b=>[mr g d,own gX d,cells c [.map (some bmof10)] 115,cq (fun p:zam=>aZ #[.int .i32 p.e0,.int .i32 p.e1]) (fun n:Int=>ax .i32 n) bmof10 a]):=by
 unfold xh at h
 refine _root_.Go.Proofs.YtifpjbgnikjglaaGreatDoor.Fn.intro func75 rfl ntmps75 (by simp) ?_
 intro w0 K
 obtain⟨F,L,h⟩:=cP h
 refine c8 (β:=ab×Value) 2 rfl (fun b=>F b.1=some r) (fun b=>[]) (fun b=>[(5,b.2)]) (fun b=>[cells c [.map (some bmof10)] 115,cq (fun p:zam=>aZ #[.int .i32 p.e0,.int .i32 p.e1]) (fun n:Int=>ax .i32 n) bmof10 a,mr g d,own gX d,byt 5 b.2 b.1]) (fun cut=>?_) ?_
 ·
  refine aC (ac 1 rfl (cv (ac 1 rfl (az (cut (aC (ac 1 rfl ?_)))))))
  refine z7 u l rfl dc rfl eJ (ac 1 rfl (az (cy (x0 (e:=5) ?_))))
  refine fh (β:=Nat×ab×Int×Value) (fun b=>zaI (fun _ _=>none) (zb8 x a F) b.1 b.2.1 b.2.2.1=some r) (fun b=>[]) (fun b=>[(1,.func (.func 77) #[] #[zP c]),(5,b.2.2.2),(8,s),(9,zI (x.length:Int)),(10,zI b.2.2.1)]) (fun b=>[cells c [.map (some bmof10)] 115,cq (fun p:zam=>aZ #[.int .i32 p.e0,.int .i32 p.e1]) (fun n:Int=>ax .i32 n) bmof10 a,mr g d,own gX d,byt 5 b.2.2.2 b.2.1]) (fun b=>b.1) (zbH,aA,0,(.slice none 0 0)) h rfl (aT rfl) (aH [2,3,0,1,4] kr rfl) ?_
  rintro⟨E,G,z,W⟩ h
  cases E with
  | zero=>exact fa h
  | succ E=>
   obtain⟨Q,w⟩:∃ag,ag=zaI (fun _ _=>none) (zb8 x a F) E:=⟨_,rfl⟩
   have h:zb8 x a F Q G z=some r:=by rw[w];exact h
   unfold zb8 at h
   refine aC (aO rfl ei (az (cm ?_)))
   refine bG rfl h (fun h=>?_) (fun h=>?_)
   ·
    refine bH (cz ?_)
    obtain⟨Y,J,h⟩:=cP h
    refine c8 (β:=ab×Value) 0 rfl (fun b=>Y b.1=some r) (fun b=>[]) (fun b=>[(1,.func (.func 77) #[] #[zP c]),(5,b.2),(8,s),(9,zI (x.length:Int)),(10,zI z)]) (fun b=>[cells c [.map (some bmof10)] 115,cq (fun p:zam=>aZ #[.int .i32 p.e0,.int .i32 p.e1]) (fun n:Int=>ax .i32 n) bmof10 a,mr g d,own gX d,byt 5 b.2 b.1]) (fun cut=>?_) ?_
    ·
     refine cut (cy (aC ?_))
     obtain⟨f,I,h⟩:=bj h
     obtain⟨⟨o,m⟩,t⟩:=vU u I
     refine gq l t eJ qU rfl dc rfl rfl rfl (mR (i:=D+(z:Int).toNat) (j:=0) (k:=2) (q:=(f,(o,m))) (cs:=[zI f.at_,.int .u8 f.broken,.int .i32 f.base,o.v,m.v]) pv oh rfl dc rfl rfl (cI l t) rfl rfl rfl ?_)
     refine eN yl rfl dc (fun b6=>?_)
     refine eH (k:=5) (vs:=[zI f.at_,.int .u8 f.broken,.int .i32 f.base,o.v,m.v]) (l':=[zI f.at_,.int .u8 f.broken,.int .i32 f.base,o.v,m.v]) qU rfl rfl rfl rfl rfl (show _≤_ by simp) rfl rfl ?_
     refine cv (cf nY rfl dc rfl (show _=2 from rfl) (bF (k:=5) fT rfl dc rfl rfl rfl (aO rfl ei (az ?_))))
     refine bG rfl h (fun h=>?_) (fun h=>?_)
     ·
      refine ct (ac 1 rfl (cf Ao rfl dc rfl (show _=1 from rfl) (bF (k:=5) Ae rfl dc rfl rfl rfl ?_)))
      refine gl (cs:=[.int .u8 f.broken]) (te:=5) (ps:=[(0,.tmp 19)]) rfl dc rfl (fun _=>by kernel_rfl) (fun b7=>?_)
      obtain⟨P,h⟩:=bC h
      obtain⟨O,h⟩:=bC h
      refine zK (k:=4) (k2:=6) (ys:=(jA [f.broken])) de rO rfl dc rfl rfl rfl rfl (z1 O) rfl P (fun U=>?_)
      refine ac 1 rfl (bU (cw ?_))
      exact bx (G++(jA [f.broken]),U) h rfl (aT rfl) (aH [0,1,2,3,4] kr rfl)
     refine ct (ac 2 rfl (gM (k:=5) (cs:=[zI f.at_,.int .u8 f.broken,.int .i32 f.base,o.v,m.v]) pv rfl dc rfl rfl rfl rfl ?_))
     refine pr (k:=3) rfl (vT (cI l t)) (fun _ _=>?_)
     obtain⟨S,H,h⟩:=bj h
     refine ox (v:=.string S) (vs:=[.agg #[zI f.at_,.int .u8 f.broken,.int .i32 f.base,o.v,m.v]]) rfl dc rfl rfl rfl K9 (Oz (u1:=f) (u1_h0:=o) (u1_h1:=m) (bmc0:=bmof10) H) [6,7,0,1] kr rfl ?_
     obtain⟨N,h⟩:=bC h
     refine vG (k:=4) de an rO rfl dc rfl rfl rfl N (fun T=>?_)
     refine ac 1 rfl (bU (cw (rN (k:=3) rfl (aH [6,7] kr rfl) rfl (sQ (nest:=gX) (cI l t) rfl) ?_)))
     exact bx (G++S,T) h rfl (aT rfl) (aH [0,1,2,3,4] kr rfl)
    rintro⟨Z,V⟩ h
    rw[J] at h
    refine ct ?_
    obtain⟨M,h⟩:=bC h
    refine aO rfl (dN (r:=z+1) (ai _ M)) (ac 1 rfl (bU ?_))
    subst w
    exact ff (E,Z,z+1,V) h (av _) rfl (aT rfl) (aH [0,1,2,3,4] kr rfl)
   refine dZ (cA (cA (ed ?_)))
   exact bx (G,W) h rfl (aT rfl) (aH [0,1,2,3,4] kr rfl)
 rintro⟨b1,v1⟩ h
 rw[L] at h
 refine aC (ac 1 rfl (p5 (k:=4) rfl dc rfl rfl de underlying5 an (ac 1 rfl (az (bI ?_)))))
 cases h
 exact eO (rs:=[.tmp 4]) () (.inl rfl) results75 (.cons (.tmp rfl) .nil) rfl (aH [2,3,0,1] kr rfl)
def ss (s1:ab):Option ab := aX (uN) fun (r1:((List (zam×Int))×(List (Int×zam))))=> aX (si s1) fun (r2:(List cS))=> aX (xh r2 r1.1) fun (r3:ab)=> some r3
theorem BV {a:ab} {r:ab} (h:ss a=some r):dO prog 35 [.string a] (.string r):=by
 unfold ss at h
 refine dO.intro func35 rfl ntmps35 (by simp) ?_
 intro w0 K
 refine aC (ac 1 rfl (cv ?_))
 obtain⟨p,f,h⟩:=bj h
 refine fY (vs:=[]) rfl dc rfl rfl rfl AF (Bq f) ad ?_
 rintro⟨b1,q⟩
 refine ac 1 rfl (fS rfl dc rfl rfl (fS rfl dc rfl rfl ?_))
 refine eN EO rfl dc (fun m=>?_)
 refine ef (k:=2) (l':=[.map (some b1)]) EN rfl rfl rfl rfl rfl (fun _ _=>rfl) rfl ?_
 refine ac 1 rfl (cv (ac 1 rfl ?_))
 obtain⟨o,e,h⟩:=bj h
 refine fY (vs:=[.string a]) rfl dc rfl rfl rfl AH (BJ e) ad ?_
 rintro n
 refine zS (k:=3) rfl (fun i g=>?_)
 subst g
 refine tF (x1:=[]) (x2:=[.tmp 3]) rfl dc rfl rfl ?_
 refine pr (k:=3) rfl tW (fun j b=>?_)
 refine kG (k:=3) rfl (fun c=>?_)
 obtain⟨l,d,h⟩:=bj h
 refine ox (v:=.string l) (vs:=[i.v,.func (.func 77) #[] #[zP m]]) rfl dc rfl rfl rfl AG (OA (bmof10:=b1) c b d) [3,4,2,0] kr rfl (ac 1 rfl (az (bI ?_)))
 cases h
 exact dk 2 results35
def zcP (r2:(List bX)) (j2:Int→Int→ab→Int→ab→Option ab) (ag2:Int→Int→ab→Int→ab→Bool→Bool→Int→Option ab) (i7:Int) (x10:Int) (x11:ab) (x12:Int) (stayed4:ab) (group5:Bool) (group6:Bool) (n4:Int):Option ab := aU (decide ((0:Int)<n4)) ( cJ (fun (j3:Int→Option ab)=> aX (zcy r2 i7) fun (q2:bX)=> aX (uH q2.Rune) fun (r5:Bool)=> aU (r5) ( j3 1
) ( j3 0
)
) (fun (k1:Int)=> cJ (fun (j4:Int→ab→Int→ab→Bool→Bool→Option ab)=> aX (zcy r2 i7) fun (q3:bX)=> aX (uF x10 q3.Rune) fun (r6:Int)=> aU ((r6:Int) != 0) ( aX (zcy ([group5,group6]:List Bool) k1) fun (q4:Bool)=> aU (!q4) ( aX (uJ r6 (⟨x10,x11,x12⟩:bX)) fun (r7:bX)=> j4 r7.Rune r7.Text r7.At stayed4 group5 group6
) ( aX (zcy r2 i7) fun (q5:bX)=> aY (stayed4.size+q5.Text.size≤9223372036854775807) <| aX (zcy ([group5,group6]:List Bool) k1) fun (q6:Bool)=> j4 x10 x11 x12 (stayed4++q5.Text) (if (k1:Int).toNat=0 then true else group5) (if (k1:Int).toNat=1 then true else group6)
)
) ( aX (zcy r2 i7) fun (q7:bX)=> aY (stayed4.size+q7.Text.size≤9223372036854775807) <| aX (zcy ([group5,group6]:List Bool) k1) fun (q8:Bool)=> j4 x10 x11 x12 (stayed4++q7.Text) (if (k1:Int).toNat=0 then true else group5) (if (k1:Int).toNat=1 then true else group6)
)
) (fun (x13:Int) (x14:ab) (x15:Int) (stayed5:ab) (group7:Bool) (group8:Bool)=> aY (cR (i7+1)) <| aY (cR (n4 - 1)) <| ag2 (i7+1) x13 x14 x15 stayed5 group7 group8 (n4 - 1)
)
)
) ( j2 i7 x10 x11 x12 stayed4
)
def zcv (j1:ab→Option ab) (r2:(List bX)) (ag1:ab→Int→Option ab) (out4:ab) (i3:Int):Option ab := aU (decide ((i3:Int)<(r2.length:Int))) ( aX (zcy r2 i3) fun (q1:bX)=> aY (cR (i3+1)) <| aX (re q1) fun (r3:Bool)=> aU (!r3) ( aY (out4.size+q1.Text.size≤9223372036854775807) <| ag1 (out4++q1.Text) (i3+1)
) ( cJ (fun (j2:Int→Int→ab→Int→ab→Option ab)=> aY (0≤(i3+1:Int)∧(i3+1:Int)≤(r2.length:Int)∧((r2.length:Int):Int)≤(r2.length:Int)) <| aX (s9 (fi r2 (i3+1) (r2.length:Int))) fun (r4:Int)=> zaI (fun _ _ _ _ _ _ _ _=>none) (zcP r2 j2) zbH (i3+1) q1.Rune q1.Text q1.At (⟨#[]⟩:ab) false false r4
) (fun (i4:Int) (x1:Int) (x2:ab) (x3:Int) (stayed1:ab)=> aY (x2.size+stayed1.size≤9223372036854775807) <| aY (out4.size+(x2++stayed1).size≤9223372036854775807) <| ag1 (out4++(x2++stayed1)) i4
)
)
) ( j1 out4
)
def uZ (s1:ab):Option ab := cJ (fun (j1:ab→Option ab)=> aX (rf s1) fun (r1:(List bX))=> aX (tc r1) fun (r2:(List bX))=> zaI (fun _ _=>none) (zcv j1 r2) zbH (⟨#[]⟩:ab) 0
) (fun (out1:ab)=> some out1
)
theorem G4 {s1:ab} {r:ab} (h:uZ s1=some r):dO prog 13 [.string s1] (.string r):=by
 unfold uZ at h
 refine dO.intro func13 rfl ntmps13 (by simp) ?_
 intro w0 K
 obtain⟨j1,b0,h⟩:=cP h
 refine c8 (β:=ab) 3 rfl (fun b=>j1 b=some r) (fun b=>[]) (fun b=>[(4,.string b)]) (fun b=>[]) (fun cut=>?_) ?_
 ·
  refine aC (ac 1 rfl (cv (ac 1 rfl ?_)))
  obtain⟨r1,bb,h⟩:=bj h
  refine fY (vs:=[.string s1]) rfl dc rfl rfl rfl wc (wY bb) ad ?_
  rintro v1
  refine kG (k:=0) rfl (fun a2=>?_)
  obtain⟨y,a9,h⟩:=bj h
  refine fY (vs:=[v1]) rfl dc rfl rfl rfl Ax (Bo a2 a9) (aH [0] kr rfl) ?_
  rintro t
  refine ac 1 rfl (cv (ac 1 rfl (az (cut (aC (ac 1 rfl (az ?_)))))))
  refine cy ?_
  refine fh (β:=Nat×ab×Int) (fun b=>zaI (fun _ _=>none) (zcv j1 y) b.1 b.2.1 b.2.2=some r) (fun b=>[]) (fun b=>[(3,t),(4,.string b.2.1),(5,zI b.2.2)]) (fun b=>[fv t y]) (fun b=>b.1) (zbH,(⟨#[]⟩:ab),0) (by exact h) rfl (aT rfl) (aH [2] kr rfl) ?_
  rintro⟨S,g,P⟩ h
  cases S with
  | zero=>exact fa h
  | succ S=>
   obtain⟨c2,z⟩:∃ag,ag=zaI (fun _ _=>none) (zcv j1 y) S:=⟨_,rfl⟩
   have h:zcv j1 y c2 g P=some r:=by rw[z];exact h
   unfold zcv at h
   refine cm (aC (ac 2 rfl (iA (k:=0) rfl dc rfl rfl bc (aO rfl ei (az ?_)))))
   refine bG rfl h (fun h=>?_) (fun h=>?_)
   ·
    refine bH (cz (cy (aC (ac 2 rfl ?_))))
    obtain⟨q1,V,h⟩:=bj h
    refine fO (k:=0) V bc jB rfl dc rfl rfl rfl rfl (mR (i:=(P:Int).toNat) (j:=0) (k:=0) (q:=q1) (cs:=(gg q1)) lL kX rfl dc rfl rfl (fb V) rfl rfl rfl ?_)
    refine eN qf rfl dc (fun b1=>?_)
    refine eH (k:=1) (vs:=(gg q1)) (l':=(gg q1)) jB rfl rfl rfl rfl rfl (show _≤_ by simp) rfl rfl ?_
    refine cv (ac 1 rfl ?_)
    obtain⟨ch,h⟩:=bC h
    refine aO rfl (dN (r:=P+1) (ai _ ch)) (ac 1 rfl (az (cm (aC (gM (k:=1) (cs:=(gg q1)) lL rfl dc rfl rfl rfl rfl ?_)))))
    obtain⟨r3,a8,h⟩:=bj h
    refine dq (v:=.bool r3) (vs:=[.agg (gg q1).toArray]) rfl dc rfl rfl rfl we (wW (x1:=q1) a8) (jq rfl dc rfl js (az ?_))
    refine bG rfl h (fun h=>?_) (fun h=>?_)
    ·
     refine aC (ac 1 rfl (cf rQ rfl dc rfl (show _=1 from rfl) (bF (k:=1) ea rfl dc rfl rfl rfl ?_)))
     obtain⟨cc,h⟩:=bC h
     refine aO rfl (kQ cc) (ac 1 rfl (az (dZ (cA (ed ?_)))))
     subst z
     exact ff (S,g++q1.Text,P+1) h (av _) rfl (aT rfl) (aH [0] kr rfl)
    refine bH (cz ?_)
    obtain⟨Z,bs,h⟩:=cP h
    refine c8 (β:=Int×Int×ab×Int×ab) 2 rfl (fun b=>Z b.1 b.2.1 b.2.2.1 b.2.2.2.1 b.2.2.2.2=some r) (fun b=>[]) (fun b=>[(3,t),(4,.string g),(5,zI b.1),(6,zP b1),(7,.string b.2.2.2.2)]) (fun b=>[fv t y,cells b1 [.int .i32 b.2.1,.string b.2.2.1,zI b.2.2.2.1] 81]) (fun cut=>?_) ?_
    ·
     refine aC (ac 1 rfl (cv ?_))
     refine eU (v:=.agg #[.bool false,.bool false]) (ps:=[]) rfl dc rfl (fun _=>by kernel_rfl) ?_
     refine eN J7 rfl dc (fun N=>?_)
     refine eH (k:=2) (vs:=[.bool false,.bool false]) (l':=[.bool false,.bool false]) J6 rfl rfl rfl rfl rfl (show _≤_ by simp) rfl rfl ?_
     refine az (cut (aC (ac 2 rfl ?_)))
     refine kG (k:=0) rfl (fun a1=>?_)
     obtain⟨b9,h⟩:=bC h
     obtain⟨v3,a3,a4⟩:=oZ (lo:=some (zI (P+1))) (hi:=none) a1 bc jB (.inr rfl) (.inl ⟨rfl,rfl⟩) b9
     refine iz rfl dc rfl rfl rfl a4 ?_
     obtain⟨r4,a7,h⟩:=bj h
     refine ox (v:=zI r4) (vs:=[v3]) rfl dc rfl rfl rfl Ay (Bn a3 a7) [0] kr rfl (ac 1 rfl (az (cy ?_)))
     refine fh (β:=Nat×Int×Int×ab×Int×ab×Bool×Bool×Int) (fun b=>zaI (fun _ _ _ _ _ _ _ _=>none) (zcP y Z) b.1 b.2.1 b.2.2.1 b.2.2.2.1 b.2.2.2.2.1 b.2.2.2.2.2.1 b.2.2.2.2.2.2.1 b.2.2.2.2.2.2.2.1 b.2.2.2.2.2.2.2.2=some r) (fun b=>[]) (fun b=>[(3,t),(4,.string g),(5,zI b.2.1),(6,zP b1),(7,.string b.2.2.2.2.2.1),(8,zP N),(9,zI b.2.2.2.2.2.2.2.2)]) (fun b=>[fv t y,cells b1 [.int .i32 b.2.2.1,.string b.2.2.2.1,zI b.2.2.2.2.1] 81,cells N [.bool b.2.2.2.2.2.2.1,.bool b.2.2.2.2.2.2.2.1] 82]) (fun b=>b.1) (zbH,P+1,q1.Rune,q1.Text,q1.At,(⟨#[]⟩:ab),false,false,r4) (by exact h) rfl (aT rfl) (aH [0,1,2] kr rfl) ?_
     rintro⟨Y,p,l,o,m,f,e,a,Q⟩ h
     cases Y with
     | zero=>exact fa h
     | succ Y=>
      obtain⟨c0,M⟩:∃ag,ag=zaI (fun _ _ _ _ _ _ _ _=>none) (zcP y Z) Y:=⟨_,rfl⟩
      have h:zcP y Z c0 p l o m f e a Q=some r:=by rw[M];exact h
      unfold zcP at h
      refine cm (aC (ac 1 rfl (aO rfl lK (az ?_))))
      refine bG rfl h (fun h=>?_) (fun h=>?_)
      ·
       refine bH (cz (cm (cy ?_)))
       obtain⟨j3,bk,h⟩:=cP h
       refine c8 (β:=Int) 1 rfl (fun b=>j3 b=some r) (fun b=>[]) (fun b=>[(3,t),(4,.string g),(5,zI p),(6,zP b1),(7,.string f),(8,zP N),(9,zI Q),(10,zI b)]) (fun b=>[fv t y,cells b1 [.int .i32 l,.string o,zI m] 81,cells N [.bool e,.bool a] 82]) (fun cut=>?_) ?_
       ·
        refine aC (ac 1 rfl (az (cut (aC (ac 2 rfl ?_)))))
        obtain⟨q2,U,h⟩:=bj h
        refine fO (k:=0) U bc jB rfl dc rfl rfl rfl rfl (cf mq rfl dc rfl (show _=((p:Int).toNat)*3 from rfl) (ib (i:=(p:Int).toNat) (j:=0) (k:=0) (q:=q2) fT kX rfl dc rfl rfl (fb U) rfl dc rfl ?_))
        obtain⟨r5,a6,h⟩:=bj h
        refine dq (v:=.bool r5) (vs:=[.int .i32 q2.Rune]) rfl dc rfl rfl rfl E4 (F5 a6) (az ?_)
        refine bG rfl h (fun h=>?_) (fun h=>?_)
        ·
         refine ct (ac 1 rfl (bU ?_))
         exact bx 1 h rfl (aT rfl) (aH [0,1,2] kr rfl)
        refine bH ?_
        exact bx 0 h rfl (aT rfl) (aH [0,1,2] kr rfl)
       rintro k1 h
       rw[bk] at h
       obtain⟨j4,bh,h⟩:=cP h
       refine c8 (β:=Int×ab×Int×ab×Bool×Bool) 0 rfl (fun b=>j4 b.1 b.2.1 b.2.2.1 b.2.2.2.1 b.2.2.2.2.1 b.2.2.2.2.2=some r) (fun b=>[]) (fun b=>[(3,t),(4,.string g),(5,zI p),(6,zP b1),(7,.string b.2.2.2.1),(8,zP N),(9,zI Q)]) (fun b=>[fv t y,cells b1 [.int .i32 b.1,.string b.2.1,zI b.2.2.1] 81,cells N [.bool b.2.2.2.2.1,.bool b.2.2.2.2.2] 82]) (fun cut=>?_) ?_
       ·
        refine cut (cm ?_)
        obtain⟨q3,T,h⟩:=bj h
        obtain⟨r6,a5,h⟩:=bj h
        refine jc 7 [(0,47,zP b1),(1,48,.int .i32 l),(2,49,t),(3,50,zI p),(4,51,.pointer (some ⟨gG t,(p:Int).toNat*3,none⟩)),(5,52,.pointer (some ⟨gG t,((p:Int).toNat)*3,none⟩)),(6,53,.int .i32 q3.Rune)] mixed kr kr dc (by rfl) kr kr (bR ?_ (bR ?_ (gY 2 2 rfl (bR ?_ (bR ?_ (bR ?_ bM.nil)))))) ?_
        · exact fun D n d c u i=>cf mq rfl dc (dE (by rfl) rfl) (show _=0 from rfl) (bm 0 u i)
        · exact fun D n d c u i=>bF (k:=1) fT rfl dc (bq 0 u d) rfl rfl (bm 1 u i)
        · exact fun D n d c u i=>fO (k:=0) T bc jB rfl dc (bq 2 u d) (bq 3 u d) rfl rfl (bm 4 u i)
        · exact fun D n d c u i=>cf mq rfl dc (bq 4 u d) (show _=((p:Int).toNat)*3 from rfl) (bm 5 u i)
        · exact fun D n d c u i=>ib (i:=(p:Int).toNat) (j:=0) (k:=0) (q:=q3) fT kX rfl dc (bq 5 u d) rfl (fb T) rfl dc rfl (bm 6 u i)
        refine dq (v:=.int .i32 r6) (vs:=[.int .i32 l,.int .i32 q3.Rune]) rfl dc rfl rfl rfl KU (M7 a5) (ac 1 rfl (cv (ac 1 rfl (aO rfl nc (ac 1 rfl ?_)))))
        refine dG (s:=57) rfl h (fun h=>?_) (fun h=>?_)
        ·
         refine ac 1 rfl ?_
         obtain⟨q4,L,h⟩:=bj h
         refine nR (vH L) rB kI rfl dc rfl rfl (cg _) (mS (enc:=tQ) (size:=1) ([e,a]:List Bool) (k:=2) rfl tR rfl (show 2≤maxLen by decide) ?_)
         refine ib (i:=(k1:Int).toNat) (j:=0) (k:=2) (q:=q4) nl tR rfl dc rfl rfl (fb L) rfl dc rfl (pp (k:=2) rfl (zT (by rfl)) ?_)
         refine jq rfl dc rfl js (ac 1 rfl (az ?_))
         refine bG rfl h (fun h=>?_) (fun h=>?_)
         ·
          refine ct (ac 1 rfl (gM (k:=1) (cs:=[.int .i32 l,.string o,zI m]) lL rfl dc rfl rfl rfl rfl ?_))
          obtain⟨O,W,h⟩:=bj h
          refine dq (v:=.agg (gg O).toArray) (vs:=[.int .i32 r6,.agg #[.int .i32 l,.string o,zI m]]) rfl dc rfl rfl rfl E5 (F7 (x1:=(⟨l,o,m⟩:bX)) W) (eH (k:=1) (vs:=(gg O)) (l':=(gg O)) jB rfl rfl rfl rfl rfl (show _≤_ by simp) rfl rfl (bU ?_))
          exact bx (O.Rune,O.Text,O.At,f,e,a) h rfl (aT rfl) (aH [0,1,2] kr rfl)
         refine aC (ac 3 rfl ?_)
         obtain⟨q5,J,h⟩:=bj h
         refine fO (k:=0) J bc jB rfl dc rfl rfl rfl rfl (cf rQ rfl dc rfl (show _=((p:Int).toNat)*3+1 from rfl) (ib (i:=(p:Int).toNat) (j:=1) (k:=0) (q:=q5) ea kX rfl dc rfl rfl (fb J) rfl dc rfl ?_))
         obtain⟨b8,h⟩:=bC h
         refine aO rfl (kQ b8) (ac 1 rfl (az (ct (ac 1 rfl ?_))))
         obtain⟨q6,I,h⟩:=bj h
         refine nR (vH I) rB kI rfl dc rfl rfl (cg _) (mS (enc:=tQ) (size:=1) ([e,a]:List Bool) (k:=2) rfl tR rfl (show 2≤maxLen by decide) ?_)
         refine p4 (i:=(k1:Int).toNat) (j:=0) (k:=2) (q:=q6) (q':=true) kI tR rfl rfl rfl rfl (fb I) rfl dc rfl (fun _ _=>rfl) ?_
         refine rD (k:=2) rfl (aL (vec tQ 82 1 (.slice (some ⟨N,0,none⟩) 2 2)) (show _=([(if (k1:Int).toNat=0 then true else e),(if (k1:Int).toNat=1 then true else a)]:List Bool) from Ed _ _ _)) (pp (k:=2) rfl (zT (by rfl)) ?_)
         refine bU ?_
         exact bx (l,o,m,f++q5.Text,if (k1:Int).toNat=0 then true else e,if (k1:Int).toNat=1 then true else a) h rfl (aT rfl) (aH [0,1,2] kr rfl)
        refine ac 5 rfl (az (eQ rfl (aC (ac 3 rfl ?_))))
        obtain⟨q7,H,h⟩:=bj h
        refine fO (k:=0) H bc jB rfl dc rfl rfl rfl rfl (cf rQ rfl dc rfl (show _=((p:Int).toNat)*3+1 from rfl) (ib (i:=(p:Int).toNat) (j:=1) (k:=0) (q:=q7) ea kX rfl dc rfl rfl (fb H) rfl dc rfl ?_))
        obtain⟨b7,h⟩:=bC h
        refine aO rfl (kQ b7) (ac 1 rfl (az (ct (ac 1 rfl ?_))))
        obtain⟨q8,G,h⟩:=bj h
        refine nR (vH G) rB kI rfl dc rfl rfl (cg _) (mS (enc:=tQ) (size:=1) ([e,a]:List Bool) (k:=2) rfl tR rfl (show 2≤maxLen by decide) ?_)
        refine p4 (i:=(k1:Int).toNat) (j:=0) (k:=2) (q:=q8) (q':=true) kI tR rfl rfl rfl rfl (fb G) rfl dc rfl (fun _ _=>rfl) ?_
        refine rD (k:=2) rfl (aL (vec tQ 82 1 (.slice (some ⟨N,0,none⟩) 2 2)) (show _=([(if (k1:Int).toNat=0 then true else e),(if (k1:Int).toNat=1 then true else a)]:List Bool) from Ed _ _ _)) (pp (k:=2) rfl (zT (by rfl)) ?_)
        refine bU ?_
        exact bx (l,o,m,f++q7.Text,if (k1:Int).toNat=0 then true else e,if (k1:Int).toNat=1 then true else a) h rfl (aT rfl) (aH [0,1,2] kr rfl)
       rintro⟨a0,aw,ao,w,F,E⟩ h
       rw[bh] at h
       refine ct (ac 1 rfl ?_)
       obtain⟨b6,h⟩:=bC h
       refine aO rfl (dN (r:=p+1) (ai _ b6)) (ac 1 rfl (bU (cw (cz (ct (ac 1 rfl ?_))))))
       obtain⟨b5,h⟩:=bC h
       refine aO rfl (mD (r:=Q - 1) (ai _ b5)) (ac 1 rfl (bU ?_))
       subst M
       exact ff (Y,p+1,a0,aw,ao,w,F,E,Q - 1) h (av _) rfl (aT rfl) (aH [0,1,2] kr rfl)
      refine dZ (cA (cA (ed ?_)))
      exact bx (p,l,o,m,f) h rfl (aT rfl) (aH [0,1] kr rfl)
    rintro⟨i4,x1,x2,x3,x⟩ h
    rw[bs] at h
    refine ct (ac 1 rfl (cf rQ rfl dc rfl (show _=1 from rfl) (bF (k:=1) ea rfl dc rfl rfl rfl (ac 1 rfl ?_))))
    obtain⟨b4,h⟩:=bC h
    refine aO rfl (kQ b4) ?_
    obtain⟨b3,h⟩:=bC h
    refine aO rfl (kQ b3) (ac 1 rfl (bU (cw ?_)))
    subst z
    exact ff (S,g++(x2++x),i4) h (av _) rfl (aT rfl) (aH [0] kr rfl)
   refine dZ (cA (cA (ed ?_)))
   exact bx g h rfl (aT rfl) ad
 rintro c3 h
 rw[b0] at h
 refine aC (ac 2 rfl (az (bI ?_)))
 cases h
 exact dk 2 results13
theorem OB (M:List (zam×Int)) (a:cS→ab) (l:List cS) (g:l.length≤1048576) (h:∀u∈l,u.base<0∧U8 u.broken∨0≤u.base∧uY u M=some (a u)∧(a u).size≤1048576):xh l M=some (J (wr a) l):=by
 unfold xh
 refine dv ((qq (xs:=l) (f:=fun b u=>b++wr a u) (J:=some) (fun k b=>b.size≤k*1048576) ?_ ?_ ?_ (kZ (by omega)) (by decide)).trans rfl)
 ·intro ag k u b hu d
  have hk:=nD hu
  unfold zb8
  refine cu (mE hu) (dv (bN (lW hu) ?_))
  rcases h u (aJ hu) with⟨h1,h2⟩ | ⟨h1,h2,c⟩
  ·exact cu (al h1) (zbx (by omega) (zbx (by simpa using h2) (zbx (jC (by omega)) (by simp only[wr,ay h1]))))
  ·exact cr (ae (by omega)) (bN h2 (zbx (by omega) (zbx (jC (by omega)) (by simp only[wr,ar (show ¬ u.base<0 by omega)]))))
 ·intro k u b hu d
  have e:(wr a u).size≤1048576:=by
   rcases h u (aJ hu) with⟨h1,h2⟩ | ⟨h1,h2,c⟩
   ·unfold wr;rw[ay h1,zQ];simp
   ·unfold wr;rw[ar (by omega)];exact c
  rw[aK];omega
 ·intro ag b _;unfold zb8;exact cr mu rfl
theorem OC:(im.all fun p=>decide (0<p.2∧p.2≤2000)&&dw p.2)=true:=by decide +kernel
theorem G5 {b m j:Int} (h:gv b m=some j):0<j∧j≤2000∧dw j=true:=by
 have:=bz.1 OC _ (qu h)
 simp only[aR,decide_eq_true_eq] at this
 exact⟨this.1.1,this.1.2,this.2⟩
def fg (a:Int×List Int×Bool) (m:Int):Int×List Int×Bool :=
 match gv a.1 m with
 | some j=>if a.2.2 then (j,a.2.1,true) else (a.1,a.2.1++[m],false)
 | none=>(a.1,a.2.1++[m],false)
def pM (b:Int) (lo hi:List Int):ab :=
 af (hi.foldl fg ((lo.foldl fg (b,[],true)).1,(lo.foldl fg (b,[],true)).2.1,true)).1++iU (hi.foldl fg ((lo.foldl fg (b,[],true)).1,(lo.foldl fg (b,[],true)).2.1,true)).2.1
theorem BW (a:Int×List Int×Bool) (m:Int):(fg a m).2.1.length≤a.2.1.length+1:=by
 unfold fg
 split
 ·split <;> simp
 ·simp
theorem u0 (b:List Int):∀a:Int×List Int×Bool,(b.foldl fg a).2.1.length≤a.2.1.length+b.length:=by
 induction b with
 | nil=>intro a;simp
 | cons m b c=>intro a;have:=c (fg a m);have:=BW a m;rw[bQ,aj];omega
section
variable {R X A B C:Type} {xs:List X}
theorem G6 {F:(A→B→C→Int→Option R)→A→B→C→Int→Option R} {bot:A→B→C→Int→Option R} {f:A×B×C→X→A×B×C} {Jf:A→B→Option R} (Inv:Nat→A×B×C→Prop)
  (c:∀ag k x (a:A×B×C),xs[k]?=some x→Inv k a→F ag a.1 a.2.1 a.2.2 (k:Int)=ag (f a x).1 (f a x).2.1 (f a x).2.2 ((k:Int)+1)) (e:∀k x a,xs[k]?=some x→Inv k a→Inv (k+1) (f a x))
  (he:∀ag (a:A×B×C),Inv xs.length a→F ag a.1 a.2.1 a.2.2 (xs.length:Int)=Jf a.1 a.2.1) {n:Nat} (d:xs.length<n) {a:A×B×C} (h0:Inv 0 a):zaI bot F n a.1 a.2.1 a.2.2 0=Jf (xs.foldl f a).1 (xs.foldl f a).2.1:=by
 have key:∀ (n k:Nat) (a:A×B×C),k≤xs.length→xs.length - k<n→Inv k a→zaI bot F n a.1 a.2.1 a.2.2 (k:Int)=Jf ((xs.drop k).foldl f a).1 ((xs.drop k).foldl f a).2.1:=by
  intro n
  induction n with
  | zero=>intro k a _ h;omega
  | succ n b=>
   intro k a hk d hi
   rw[ic]
   by_cases h:k<xs.length
   ·have hx:xs[k]?=some xs[k]:=List.getElem?_eq_getElem h
    rw[c _ k _ a hx hi,List.drop_eq_getElem_cons h,bQ]
    exact b (k+1) _ (by omega) (by omega) (e k _ a hx hi)
   ·have:k=xs.length:=by omega
    subst this
    rw[he _ a hi,List.drop_length];rfl
 have:=key n 0 a (cH _) (by omega) h0
 simpa using this
end
def yZ:Int→List Int→Option ab:=fun u9 stayed7=>aY ((af u9).size+(iU stayed7).size≤9223372036854775807)<|some ((af u9)++(iU stayed7))
def G7 (u:cS):Int→List Int→Option ab:=fun u3 stayed2=>cJ (fun (j4:Int→(List Int)→Option ab)=>zaI (fun _ _ _ _=>none) (zcj u im j4) zbH u3 stayed2 true 0) yZ
theorem OD (u:cS) (hu:fN u.base) (h1:u.low.length≤200000) (h2:u.high.length≤200000):uY u im=some (if dw u.base then pM u.base u.low u.high else af u.base):=by
 unfold uY
 refine bN (yK u hu) ?_
 cases hL:dw u.base with
 | false=>exact cu rfl rfl
 | true=>
  refine cr rfl (dv (dv ?_))
  have step:∀ (xs:List Int) (k:Nat) (x:Int) (a:Int×List Int×Bool) (ag:Int→List Int→Bool→Int→Option ab),xs[k]?=some x→xs.length≤200000→a.2.1.length≤400000 →
    (aX (zcy xs (k:Int)) fun (q1:Int)=>aU ((zbL (⟨a.1,q1⟩:zam) im).isSome) (aU (a.2.2) ((fun (u8:Int) (b:List Int) (c:Bool)=>aY (cR ((k:Int)+1))<|ag u8 b c ((k:Int)+1)) ((zbL (⟨a.1,q1⟩:zam) im).getD 0) a.2.1 a.2.2)
     (aY (a.2.1.length+1≤2147483648)<|(fun (u8:Int) (b:List Int) (c:Bool)=>aY (cR ((k:Int)+1))<|ag u8 b c ((k:Int)+1)) a.1 (a.2.1++[q1]) false))
     (aY (a.2.1.length+1≤2147483648)<|(fun (u8:Int) (b:List Int) (c:Bool)=>aY (cR ((k:Int)+1))<|ag u8 b c ((k:Int)+1)) a.1 (a.2.1++[q1]) false))=ag (fg a x).1 (fg a x).2.1 (fg a x).2.2 ((k:Int)+1):=by
   intro xs k x a ag hx h i
   have hk:=nD hx
   refine bN (lW hx) ?_
   unfold fg gv
   cases zbL (⟨a.1,x⟩:zam) im with
   | none=>exact cr rfl (zbx (by omega) (zbx (jC (by omega)) rfl))
   | some j=>
    refine cu rfl ?_
    cases hf:a.2.2 with
    | true=>exact cu rfl (zbx (jC (by omega)) rfl)
    | false=>exact cr rfl (zbx (by omega) (zbx (jC (by omega)) rfl))
  have d:=u0 u.low (u.base,[],true)
  have lo:=G6 (xs:=u.low) (F:=zcW u im (G7 u)) (bot:=fun _ _ _ _=>none) (f:=fg) (Jf:=G7 u) (fun k a=>a.2.1.length≤k) (fun ag k x a hx hi=>by
     have hk:=nD hx
     unfold zcW
     exact cu (mE hx) (dv (step u.low k x a ag hx h1 (by omega)))) (fun k x a _ hi=>by have:=BW a x;omega) (fun ag a _=>by unfold zcW;exact cr mu rfl) (n:=zbH) (kZ (by omega)) (a:=(u.base,[],true)) (bJ _)
  refine lo.trans ?_
  show zaI (fun _ _ _ _=>none) (zcj u im yZ) zbH _ _ true 0=_
  simp only[bl,cg] at d
  generalize hA:u.low.foldl fg (u.base,[],true)=A at d ⊢
  have g:=u0 u.high (A.1,A.2.1,true)
  have e:=G6 (xs:=u.high) (F:=zcj u im yZ) (bot:=fun _ _ _ _=>none) (f:=fg) (Jf:=yZ) (fun k a=>a.2.1.length≤200000+k) (fun ag k x a hx hi=>by
     have hk:=nD hx
     unfold zcj
     exact cu (mE hx) (dv (step u.high k x a ag hx h2 (by omega)))) (fun k x a _ hi=>by have:=BW a x;omega) (fun ag a _=>by unfold zcj;exact cr mu rfl) (n:=zbH) (kZ (by omega)) (a:=(A.1,A.2.1,true)) (by show A.2.1.length≤200000+0;omega)
  refine e.trans ?_
  simp only at g
  have e1:=oG (u.high.foldl fg (A.1,A.2.1,true)).1
  have e2:=yW (u.high.foldl fg (A.1,A.2.1,true)).2.1
  refine zbx (by omega) ?_
  show some _=some (pM _ _ _)
  unfold pM
  rw[hA]
def ka (a:Int×ab×ab×Bool×Bool) (m:bd):Int×ab×ab×Bool×Bool :=
 match gv a.1 m.Rune with
 | some j=>if lM m then (if a.2.2.2.2 then (a.1,a.2.1,a.2.2.1++m.Text,a.2.2.2.1,true) else (j,af j,a.2.2.1,a.2.2.2.1,a.2.2.2.2)) else (if a.2.2.2.1 then (a.1,a.2.1,a.2.2.1++m.Text,true,a.2.2.2.2) else (j,af j,a.2.2.1,a.2.2.2.1,a.2.2.2.2))
 | none=>if lM m then (a.1,a.2.1,a.2.2.1++m.Text,a.2.2.2.1,true) else (a.1,a.2.1,a.2.2.1++m.Text,true,a.2.2.2.2)
theorem OE (a:Int×ab×ab×Bool×Bool) (m:bd) (hm:m.Text.size≤4) (b:a.2.1.size≤4):(ka a m).2.2.1.size≤a.2.2.1.size+4∧(ka a m).2.1.size≤4:=by
 unfold ka
 have:=oG
 split
 ·split <;> split <;> simp[aK] <;> (try exact⟨by omega,b⟩) <;> (try exact oG _)
 ·split <;> simp[aK] <;> exact⟨by omega,b⟩
theorem G8:∀ (P:List bd) (b:Int) (st:List Int) (d a:Bool),(∀m∈P,lM m=true∧m.Text=af m.Rune) →
  P.foldl ka (b,af b,iU st,d,a)=(((P.map (·.Rune)).foldl fg (b,st,!a)).1,af ((P.map (·.Rune)).foldl fg (b,st,!a)).1,iU ((P.map (·.Rune)).foldl fg (b,st,!a)).2.1,d,!((P.map (·.Rune)).foldl fg (b,st,!a)).2.2)
 | [],b,st,d,a,_=>by simp
 | m::P,b,st,d,a,h=>by
  obtain⟨h1,h2⟩:=h m (aB ..)
  have e:=fun b st a=>G8 P b st d a (fun z hz=>h z (aq _ hz))
  have c:iU st++m.Text=iU (st++[m.Rune]):=by rw[pK,pK,xd,j0,qw,bW,h2]
  rw[bQ,aE,bQ]
  unfold ka fg
  simp only[h1,if_true]
  cases gv b m.Rune with
  | none=>simp only[c];exact e b (st++[m.Rune]) true
  | some j=>
   cases a with
   | true=>simp only[if_true,c,eh,bw,if_false];exact e b (st++[m.Rune]) true
   | false=>simp only[bw,if_false,dU,if_true];exact e j st false
theorem G9:∀ (P:List bd) (b:Int) (st:List Int) (a d:Bool),(∀m∈P,lM m=false∧m.Text=af m.Rune) →
  P.foldl ka (b,af b,iU st,a,d)=(((P.map (·.Rune)).foldl fg (b,st,!a)).1,af ((P.map (·.Rune)).foldl fg (b,st,!a)).1,iU ((P.map (·.Rune)).foldl fg (b,st,!a)).2.1,!((P.map (·.Rune)).foldl fg (b,st,!a)).2.2,d)
 | [],b,st,a,d,_=>by simp
 | m::P,b,st,a,d,h=>by
  obtain⟨h1,h2⟩:=h m (aB ..)
  have e:=fun b st a=>G9 P b st a d (fun z hz=>h z (aq _ hz))
  have c:iU st++m.Text=iU (st++[m.Rune]):=by rw[pK,pK,xd,j0,qw,bW,h2]
  rw[bQ,aE,bQ]
  unfold ka fg
  simp only[h1,bw,if_false]
  cases gv b m.Rune with
  | none=>simp only[c];exact e b (st++[m.Rune]) true
  | some j=>
   cases a with
   | true=>simp only[if_true,c,eh,bw,if_false];exact e b (st++[m.Rune]) true
   | false=>simp only[bw,if_false,dU,if_true];exact e j st false
def mW (c:bd×List bd):ab:=if dz c.1 then pM c.1.Rune ((loI c.2).map (·.Rune)) ((hiI c.2).map (·.Rune)) else c.1.Text
def zoJ (s:ab):ab:=J mW (jL s)
theorem BX (b:Int) (lo hi:List Int) (h1:lo.length≤200000) (h2:hi.length≤200000):(pM b lo hi).size≤4+4*(lo.length+hi.length):=by
 unfold pM
 rw[aK]
 have a1:=u0 lo (b,[],true)
 have a:=u0 hi ((lo.foldl fg (b,[],true)).1,(lo.foldl fg (b,[],true)).2.1,true)
 have d:=yW (hi.foldl fg ((lo.foldl fg (b,[],true)).1,(lo.foldl fg (b,[],true)).2.1,true)).2.1
 have c:=oG (hi.foldl fg ((lo.foldl fg (b,[],true)).1,(lo.foldl fg (b,[],true)).2.1,true)).1
 simp only[bl,cg] at a1
 simp only at a
 omega
theorem Hb (s:ab) (e:s.size≤65536):ss s=some (zoJ s):=by
 unfold ss
 obtain⟨g,hc⟩:=sn e
 refine bN Gc (bN (BL s e) (bN (OB im (fun u=>if dw u.base then pM u.base u.low u.high else af u.base) _ (by rw[aF];omega) ?_) ?_))
 ·intro u hu
  obtain⟨c,a,rfl⟩:=aW.1 hu
  obtain⟨h1,_,_,i⟩:=hc c a
  rcases uW c h1 with⟨d,b,_⟩ | ⟨d,b,f,g4⟩
  ·exact .inl ⟨d,b⟩
  ·have h:=xg c.2
   have e1:(fl c).low.length≤196608:=by rw[g4];simp;omega
   have e2:(fl c).high.length≤196608:=by rw[g4];simp;omega
   have j:(fl c).low.length+(fl c).high.length≤196608:=by
    rw[g4];have:=pI c.2;rw[ah] at this;simp;omega
   refine .inr ⟨d,OD _ (by rw[BK c b];exact h1.1) (by omega) (by omega),?_⟩
   split
   ·have:=BX (fl c).base (fl c).low (fl c).high (by omega) (by omega);omega
   ·have:=oG (fl c).base;omega
 ·rw[BS _ mW s e (fun c a h0=>by
   obtain⟨h1,_⟩:=hc c a
   rcases uW c h1 with⟨_,_,f,_⟩ | ⟨d,b,f,g4⟩
   ·omega
   ·unfold mW dz
    rw[g4]
    show (if dw c.1.Rune then _ else _)=_
    cases dw c.1.Rune with
    | true=>rfl
    | false=>simp[f]) (fun c a h0=>by unfold mW;rw[yV h0];rfl)];rfl
theorem OG (i:List bd) (J:Int→Int→ab→Int→ab→Option ab) (O:i.length≤1000000) (at_:Int):∀ (P A R:List bd) (n:Nat) (a:Int×ab×ab×Bool×Bool),i=A++(P++R)→P.length<n→(∀m∈P,m.Text.size≤4)→a.2.1.size≤4→a.2.2.1.size≤4*A.length →
  zaI (fun _ _ _ _ _ _ _ _=>none) (zcP i J) n (A.length:Int) a.1 a.2.1 at_ a.2.2.1 a.2.2.2.1 a.2.2.2.2 (P.length:Int)=J ((A.length+P.length:Nat):Int) (P.foldl ka a).1 (P.foldl ka a).2.1 at_ (P.foldl ka a).2.2.1:=by
 intro P
 induction P with
 | nil=>
  intro A R n a hr D _ _ _
  obtain⟨n,rfl⟩:∃k,n=k+1:=⟨n - 1,by omega⟩
  rw[ic]
  unfold zcP
  exact cr (by decide) rfl
 | cons m P H=>
  intro A R n a hr D hm I N
  obtain⟨n,rfl⟩:∃k,n=k+1:=⟨n - 1,by omega⟩
  have E:i.length=A.length+1+P.length+R.length:=by rw[hr];simp;omega
  have c:zcy i (A.length:Int)=some m:=jz (by rw[hr,bp];exact se A m _)
  have K:=hm m (aB ..)
  have hsz:=OE a m K I
  have p:=H (A++[m]) R n (ka a m) (by rw[hr];simp) (by simp at D;omega) (fun z hz=>hm z (aq _ hz)) hsz.2 (by simp;omega)
  rw[ic]
  generalize zaI (fun _ _ _ _ _ _ _ _=>none) (zcP i J) n=ag at p ⊢
  unfold zcP
  have e:∀ (g:Int) (f:ab) (st:ab) (v u:Bool),(g,f,st,v,u)=ka a m→(aY (cR ((A.length:Int)+1))<|aY (cR (((m::P).length:Int) - 1))<|ag ((A.length:Int)+1) g f at_ st v u (((m::P).length:Int) - 1))=J ((A.length+(m::P).length:Nat):Int) ((m::P).foldl ka a).1 ((m::P).foldl ka a).2.1 at_ ((m::P).foldl ka a).2.2.1:=by
   intro g f st v u he
   rw[← he] at p
   simp only[ah,aj,bl,cg] at p
   push_cast at p
   refine zbx ⟨by omega,by omega⟩ (zbx ⟨by simp only[aj];omega,by simp only[aj];omega⟩ ?_)
   rw[show (((m::P).length:Int) - 1)=(P.length:Int) by simp,p,bQ,← he]
   congr 1
   simp only[aj];push_cast;omega
  refine cu (al (by simp only[aj];omega)) (dv (bN c (bN (Gh _) ?_)))
  have t:lX m.Rune=lM m:=rfl
  rw[t]
  have body:∀ (k1:Int),k1=(if lM m then 1 else 0)→(cJ (fun (s:Int→ab→Int→ab→Bool→Bool→Option ab)=>
    aX (zcy i (A.length:Int)) fun (G:bd)=>aX (uF a.1 G.Rune) fun (w:Int)=>
    aU ((w:Int) != 0) (aX (zcy ([a.2.2.2.1,a.2.2.2.2]:List Bool) k1) fun (F:Bool)=>aU (!F) (aX (uJ w (⟨a.1,a.2.1,at_⟩:bd)) fun (r:bd)=>s r.Rune r.Text r.At a.2.2.1 a.2.2.2.1 a.2.2.2.2)
     (aX (zcy i (A.length:Int)) fun (y:bd)=>aY (a.2.2.1.size+y.Text.size≤9223372036854775807)<|aX (zcy ([a.2.2.2.1,a.2.2.2.2]:List Bool) k1) fun (M:Bool)=>s a.1 a.2.1 at_ (a.2.2.1++y.Text) (if (k1:Int).toNat=0 then true else a.2.2.2.1) (if (k1:Int).toNat=1 then true else a.2.2.2.2)))
     (aX (zcy i (A.length:Int)) fun (x:bd)=>aY (a.2.2.1.size+x.Text.size≤9223372036854775807)<|aX (zcy ([a.2.2.2.1,a.2.2.2.2]:List Bool) k1) fun (L:Bool)=>s a.1 a.2.1 at_ (a.2.2.1++x.Text) (if (k1:Int).toNat=0 then true else a.2.2.2.1) (if (k1:Int).toNat=1 then true else a.2.2.2.2)))
    (fun (g:Int) (f:ab) (q:Int) (h:ab) (o:Bool) (l:Bool)=>aY (cR ((A.length:Int)+1))<|aY (cR (((m::P).length:Int) - 1))<|ag ((A.length:Int)+1) g f q h o l (((m::P).length:Int) - 1)))=J ((A.length+(m::P).length:Nat):Int) ((m::P).foldl ka a).1 ((m::P).foldl ka a).2.1 at_ ((m::P).foldl ka a).2.2.1:=by
   intro k1 b
   refine dv (bN c (bN (NI _ _) ?_))
   cases hj:gv a.1 m.Rune with
   | none=>
    refine cr rfl (bN c (zbx (by omega) ?_))
    cases d:lM m with
    | true=>rw[d] at b;subst b;exact bN rfl (e _ _ _ _ _ (by unfold ka;rw[hj,d];rfl))
    | false=>rw[d] at b;subst b;exact bN rfl (e _ _ _ _ _ (by unfold ka;rw[hj,d];rfl))
   | some j=>
    have hr:=G5 hj
    refine cu (by rw[Option.getD_some,er];omega) ?_
    cases d:lM m with
    | true=>
     rw[d] at b;subst b
     refine bN (a:=a.2.2.2.2) rfl ?_
     cases hg:a.2.2.2.2 with
     | true=>exact cr rfl (bN c (zbx (by omega) (bN (a:=true) rfl (e _ _ _ _ _ (by unfold ka;rw[hj,d,hg];rfl)))))
     | false=>exact cu rfl (bN (Bw j _ ⟨by omega,by omega⟩) (e _ _ _ _ _ (by unfold ka;rw[hj,d,hg];rfl)))
    | false=>
     rw[d] at b;subst b
     refine bN (a:=a.2.2.2.1) rfl ?_
     cases hg:a.2.2.2.1 with
     | true=>exact cr rfl (bN c (zbx (by omega) (bN (a:=true) rfl (e _ _ _ _ _ (by unfold ka;rw[hj,d,hg];rfl)))))
     | false=>exact cu rfl (bN (Bw j _ ⟨by omega,by omega⟩) (e _ _ _ _ _ (by unfold ka;rw[hj,d,hg];rfl)))
  cases d:lM m with
  | true=>rw[d] at body;exact cu rfl (body 1 rfl)
  | false=>rw[d] at body;exact cr rfl (body 0 rfl)
theorem Hc {α:Type} (f:α→ab) (x:α) (l:List α) (b:ab):(b++f x)++J f l=b++J f (x::l):=by rw[j0,dS]
theorem OH (x:bd) (M:List bd) (hx:x.Text=af x.Rune) (a:∀m∈M,m.Text=af m.Rune) :
  ((loI M++hiI M).foldl ka (x.Rune,x.Text,(⟨#[]⟩:ab),false,false)).2.1++((loI M++hiI M).foldl ka (x.Rune,x.Text,(⟨#[]⟩:ab),false,false)).2.2.1=pM x.Rune ((loI M).map (·.Rune)) ((hiI M).map (·.Rune)):=by
 have h1:=G8 (loI M) x.Rune [] false false (fun m hm=>by
  unfold loI at hm;rw[cp] at hm;exact⟨hm.2,a m hm.1⟩)
 rw[← hx,show iU []=(⟨#[]⟩:ab) from rfl] at h1
 rw[List.foldl_append,h1]
 have h2:=G9 (hiI M) (((loI M).map (·.Rune)).foldl fg (x.Rune,[],!false)).1 (((loI M).map (·.Rune)).foldl fg (x.Rune,[],!false)).2.1 false (!(((loI M).map (·.Rune)).foldl fg (x.Rune,[],!false)).2.2) (fun m hm=>by
  unfold hiI at hm;rw[cp] at hm;exact⟨by simpa using hm.2,a m hm.1⟩)
 rw[h2]
 rfl
theorem BZ {m:bd} (h:kv m) (hm:isM m=true):m.Text=af m.Rune:=by
 rcases h.2 with⟨a,_⟩ | ⟨_,a⟩
 ·have:eC m.Rune=true:=hm
  unfold eC at this;simp at this;omega
 ·exact a
theorem OI (b:List bd) (Jf:ab→Option ab) (N:b.length≤200000):∀ (m n:Nat) (A B:List bd) (out:ab),B.length≤m→B.length<n→b=A++k5 B→(∀x∈B,kv x)→out.size≤4*A.length →
  zaI (fun _ _=>none) (zcv Jf b) n out (A.length:Int)=Jf (out++J mW (cl B)):=by
 have o:∀ (n:Nat) (A:List bd) (out:ab),0<n→b=A→zaI (fun _ _=>none) (zcv Jf b) n out (A.length:Int)=Jf (out++J mW (cl [])):=by
  intro n A out u he
  obtain⟨n,rfl⟩:∃k,n=k+1:=⟨n - 1,by omega⟩
  rw[ic]
  unfold zcv
  exact cr (ae (by rw[he];omega)) (by rw[GA,qw,bW])
 intro m
 induction m with
 | zero=>
  intro n A B out hB u he d K
  have:B=[]:=List.eq_nil_of_length_eq_zero (by omega)
  subst this
  exact o n A out (by omega) (by rw[he,uR,aQ])
 | succ m p=>
  intro n A B out hB u he d K
  cases B with
  | nil=>exact o n A out (by omega) (by rw[he,uR,aQ])
  | cons x xs=>
   simp only[aj] at hB u
   obtain⟨n,rfl⟩:∃k,n=k+1:=⟨n - 1,by omega⟩
   have hx:=d x (aB ..)
   have t:=sr hx
   have G:b.length=A.length+1+xs.length:=by rw[he,ah,sq];simp;omega
   rw[ic]
   generalize j:zaI (fun _ _=>none) (zcv Jf b) n=ag at p ⊢
   unfold zcv
   have h:zcy b (A.length:Int)=some x:=jz (by
    rw[he]
    cases hL:dz x with
    | true=>rw[tn hL];exact se A x _
    | false=>rw[tp hL];exact se A x _)
   refine cu (al (by omega)) (bN h (zbx ⟨by omega,by omega⟩ (bN (uQ x hx.1) ?_)))
   have D:dw x.Rune=dz x:=rfl
   rw[D]
   cases hL:dz x with
   | false=>
    rw[tp hL] at he
    refine cu rfl (zbx (by omega) ?_)
    have:=p n (A++[x]) xs (out++x.Text) (by omega) (by omega) (by rw[he];simp) (fun z hz=>d z (aq _ hz)) (by rw[aK];simp;omega)
    rw[j] at this
    have ht:mW (x,[])=x.Text:=by unfold mW;rw[hL];rfl
    rw[show ((A.length:Int)+1)=((A++[x]).length:Int) by simp,this,yO hL,← Hc,ht]
   | true=>
    rw[tn hL] at he
    obtain⟨M,R,w,v,f⟩:∃M R,M=xs.takeWhile isM∧R=xs.dropWhile isM∧xs=M++R:=⟨_,_,rfl,rfl,(List.takeWhile_append_dropWhile).symm⟩
    rw[← w,← v] at he
    have g:=pI M
    have I:xs.length=M.length+R.length:=by rw[f];simp
    have l:∀y∈M,isM y=true:=by rw[w];exact BC xs
    have e:∀y∈M,kv y:=fun y hy=>d y (by rw[f];exact aq _ (jO _ hy))
    have i:fi b ((A.length:Int)+1) (b.length:Int)=(loI M++hiI M)++k5 R:=by
     rw[he];exact BF A x _ _ rfl
    refine cr rfl (dv (zbx ⟨by omega,by omega,by omega⟩ ?_))
    rw[i]
    refine bN (Bx _ (by rw[ah,sq];omega)) ?_
    have s:(((loI M++hiI M)++k5 R).takeWhile fun x=>eC x.Rune)=loI M++hiI M:=GQ _ _ (BB l) (by rw[v];exact GR xs)
    rw[s]
    have r:x.Text=af x.Rune:=by
     rcases hx.2 with⟨E,_⟩ | ⟨_,E⟩
     ·have:=yV E;rw[hL] at this;cases this
     ·exact E
    have c:=OG b (fun (H:Int) (x1:Int) (x2:ab) (L:Int) (a:ab)=>aY (x2.size+a.size≤9223372036854775807)<|aY (out.size+(x2++a).size≤9223372036854775807)<|ag (out++(x2++a)) H) (by omega) x.At (loI M++hiI M) (A++[x]) (k5 R) zbH (x.Rune,x.Text,(⟨#[]⟩:ab),false,false) (by rw[he];simp) (kZ (by omega)) (fun y hy=>by
      have q:y∈M:=by
       unfold loI hiI at hy
       rw[bO,cp,cp] at hy
       rcases hy with hy | hy <;> exact hy.1
      exact sr (e y q)) t (cH _)
    rw[show (((A++[x]).length:Nat):Int)=(A.length:Int)+1 by simp] at c
    refine c.trans ?_
    have hall:=OH x M r (fun y hy=>BZ (e y hy) (l y hy))
    have hsz:(pM x.Rune ((loI M).map (·.Rune)) ((hiI M).map (·.Rune))).size≤4+4*M.length:=by
     have:=BX x.Rune ((loI M).map (·.Rune)) ((hiI M).map (·.Rune)) (by simp;have:=(xg M).1;omega) (by simp;have:=(xg M).2;omega)
     rw[ah] at g
     simp only[aF] at this
     omega
    have F:(((loI M++hiI M).foldl ka (x.Rune,x.Text,(⟨#[]⟩:ab),false,false)).2.1.size+((loI M++hiI M).foldl ka (x.Rune,x.Text,(⟨#[]⟩:ab),false,false)).2.2.1.size)≤4+4*M.length:=by
     rw[← aK,hall];exact hsz
    refine zbx (by omega) (zbx (by rw[aK];omega) ?_)
    rw[hall]
    have ht:mW (x,M)=pM x.Rune ((loI M).map (·.Rune)) ((hiI M).map (·.Rune)):=by unfold mW;rw[hL];rfl
    have:=p n (A++[x]++(loI M++hiI M)) R (out++mW (x,M)) (by omega) (by omega) (by rw[he];simp) (fun z hz=>d z (by rw[f];exact aq _ (jw _ hz))) (by rw[aK,ht];simp only[ah,aj,bl] at g ⊢;omega)
    rw[j] at this
    rw[ht] at this
    rw[show ((((A++[x]).length+(loI M++hiI M).length:Nat)):Int)=((A++[x]++(loI M++hiI M)).length:Int) by rw[← ah],this,yN hL,← w,← v,← Hc,ht]
theorem He (s:ab) (b:s.size≤65536):uZ s=some (zoJ s):=by
 unfold uZ
 have d:(gw s).length≤s.size:=by unfold gw;simpa using sb s
 have a:=BP (uV (s:=s))
 have c:=tk (gw s)
 have h5:=sq (apL (gw s))
 refine dv (bN (w9 s (by omega)) (bN (BG _ (fun x hx=>(uV x hx).1) (by omega)) ?_))
 have:=OI (k5 (apL (gw s))) some (by omega) (apL (gw s)).length zbH [] (apL (gw s)) (⟨#[]⟩:ab) (bJ _) (kZ (by omega)) rfl a (by decide)
 refine this.trans ?_
 rw[show (⟨#[]⟩:ab)=aA from rfl,ByteArray.empty_append];rfl

def nF (t:dV):Prop:=t.valid∨t.broken=true
def u6 (x:bd):dV:=⟨if x.Rune<0 then 65533 else x.Rune.toNat,x.Text.data.toList⟩
theorem tv {t:dV} (h:nF t):u6 (zfM t)=t:=by
 unfold u6 zfM
 rcases h with h | h
 ·rw[s0 h]
  cases t;simp;intro h;omega
 ·rw[h]
  have:t.r=65533:=by unfold dV.broken at h;simp at h;exact h.1
  cases t;simp at this;subst this;simp
def LM (t:dV):Prop:=dw (t.r:Int)=true∨eC (t.r:Int)=true
def va (g:List dV×(bd×List bd)):Prop :=
 (dz g.2.1=true∧g.1≠[]∧(∀t∈g.1,t.valid∧LM t)∧(∀m∈g.2.2,isM m=true)∧zbL g.2.1.Rune tabS=none)∨(dz g.2.1=false∧g.2.2=[]∧∃t,g.1=[t]∧nF t∧g.2.1=zfM t)
theorem OJ {t:dV} (h:nF t) (hm:isM (zfM t)=true):t.valid∧eC (t.r:Int)=true:=by
 rcases h with h | h
 ·refine⟨h,?_⟩
  unfold isM zfM at hm
  rw[s0 h] at hm;exact hm
 ·unfold isM zfM at hm
  rw[h] at hm;exact absurd (show eC (-1)=true from hm) (by decide)
theorem Hf {t:dV} (h:nF t):∃x c,iP (zfM t)=x::c∧va ([t],(x,c))∧(∀m∈c,isM m=true)∧(dz x=false→c=[])∧isM x=isM (zfM t):=by
 cases hL:dz (zfM t) with
 | false=>
  exact⟨zfM t,[],by unfold iP;rw[hL];rfl,.inr ⟨hL,rfl,t,rfl,h,rfl⟩,by simp,fun _=>rfl,rfl⟩
 | true=>
  have a:dw (zfM t).Rune=true:=hL
  obtain⟨b,c,l,i,n,f,_⟩:=tj a
  have hv:t.valid:=by
   rcases h with h | h
   ·exact h
   ·unfold zfM at a;rw[h] at a;exact absurd (show dw (-1)=true from a) (by decide)
  have g:dw (t.r:Int)=true:=by unfold zfM at a;rw[s0 hv] at a;exact a
  have k:isM (zfM t)=false:=by
   cases e:isM (zfM t) with
   | false=>rfl
   | true=>have:=pH (show eC (zfM t).Rune=true from e);rw[a] at this;cases this
  have j:isM (⟨b,af b,(zfM t).At⟩:bd)=false:=by
   cases e:isM (⟨b,af b,(zfM t).At⟩:bd) with
   | false=>rfl
   | true=>have:=pH (show eC b=true from e);rw[i] at this;cases this
  have d:∀m∈c.map (fun r=>(⟨r,af r,(zfM t).At⟩:bd)),isM m=true:=fun m hm=>by
   obtain⟨r,hr,rfl⟩:=aW.1 hm;exact f r hr
  exact⟨⟨b,af b,(zfM t).At⟩,c.map fun r=>⟨r,af r,(zfM t).At⟩,by unfold iP;rw[hL,l];rfl,.inl ⟨i,by simp,fun u hu=>by simp at hu;subst hu;exact⟨hv,.inl g⟩,d,n⟩,d,
   (fun e=>by rw[show dz (⟨b,af b,(zfM t).At⟩:bd)=true from i] at e;cases e),by rw[k,j]⟩
theorem B2:∀ (ts gs:List dV) (c:bd×List bd),(∀t∈ts,nF t)→va (gs,c)→∃G:List (List dV×(bd×List bd)),gs++ts=G.flatMap (·.1)∧fw (some c) (apL (ts.map zfM))=G.map (·.2)∧∀g∈G,va g
 | [],gs,c,_,hc=>⟨[(gs,c)],by simp,by simp[apL,fw],by simpa using hc⟩
 | t::ts,gs,c,hok,hc=>by
  have ht:=hok t (aB ..)
  have b:=fun u hu=>hok u (aq _ hu)
  have f:apL ((t::ts).map zfM)=iP (zfM t)++apL (ts.map zfM):=by unfold apL;rw[aE,aG]
  obtain⟨x,a,h1,h2,l,k,h5⟩:=Hf ht
  rw[f]
  cases hk:(dz c.1&&isM (zfM t)) with
  | true=>
   rw[aR] at hk
   have hL:dz (zfM t)=false:=pH (show eC (zfM t).Rune=true from hk.2)
   have i:iP (zfM t)=[zfM t]:=by unfold iP;rw[hL];rfl
   obtain⟨hv,hm⟩:=OJ ht hk.2
   have e:va (gs++[t],(c.1,c.2++[zfM t])):=by
    rcases hc with⟨d,p,o,g4,n⟩ | ⟨d,_⟩
    ·refine .inl ⟨d,by simp,fun u hu=>?_,fun m hm2=>?_,n⟩
     ·rcases bO.1 hu with hu | hu
      ·exact o u hu
      ·simp at hu;subst hu;exact⟨hv,.inr hm⟩
     ·rcases bO.1 hm2 with hm2 | hm2
      ·exact g4 m hm2
      ·simp at hm2;subst hm2;exact hk.2
    ·rw[hk.1] at d;cases d
   obtain⟨G,e1,e2,h⟩:=B2 ts (gs++[t]) (c.1,c.2++[zfM t]) b e
   refine⟨G,by rw[← e1];simp,?_,h⟩
   rw[i,← e2,oU]
   show (if dz c.1&&isM (zfM t) then fw (some (c.1,c.2++[zfM t])) (apL (ts.map zfM)) else _)=_
   rw[hk.1,hk.2];rfl
  | false=>
   obtain⟨G,e1,e2,h⟩:=B2 ts [t] (x,a) b h2
   refine⟨(gs,c)::G,by rw[aG,← e1];simp,?_,fun g hg=>?_⟩
   ·rw[h1,bp,aE,← e2]
    show (if dz c.1&&isM x then _ else c::fw (some (x,[])) (a++apL (ts.map zfM)))=_
    rw[h5,hk]
    have j:fw (some (x,[])) (a++apL (ts.map zfM))=fw (some (x,a)) (apL (ts.map zfM)):=by
     cases hx:dz x with
     | true=>rw[yQ x hx _ a [] l];rfl
     | false=>rw[k hx];rfl
    rw[← j];rfl
   ·rcases bE.1 hg with rfl | hg
    ·exact hc
    ·exact h g hg
theorem Hg (ts:List dV) (a:∀t∈ts,nF t):∃G:List (List dV×(bd×List bd)),ts=G.flatMap (·.1)∧iQ ts=G.map (·.2)∧∀g∈G,va g:=by
 cases ts with
 | nil=>exact⟨[],rfl,rfl,by simp⟩
 | cons t ts=>
  obtain⟨x,b,h1,h2,e,d,h5⟩:=Hf (a t (aB ..))
  obtain⟨G,e1,e2,f⟩:=B2 ts [t] (x,b) (fun u hu=>a u (aq _ hu)) h2
  refine⟨G,by rw[← e1];rfl,?_,f⟩
  unfold iQ
  have c:apL ((t::ts).map zfM)=iP (zfM t)++apL (ts.map zfM):=by unfold apL;rw[aE,aG]
  rw[c,h1,← e2]
  show fw (some (x,[])) (b++apL (ts.map zfM))=_
  cases hx:dz x with
  | true=>rw[yQ x hx _ b [] e];rfl
  | false=>rw[d hx];rfl
structure su (out:bd×List bd→List dV):Prop where
 other:∀x,dz x=false→out (x,[])=[u6 x]
 ne:∀c,dz c.1=true→out c≠[]
 val:∀c,dz c.1=true→zbL c.1.Rune tabS=none→(∀m∈c.2,isM m=true)→∀t∈out c,t.valid∧LM t
theorem Hh {out:bd×List bd→List dV} (a:su out):∀ (G:List (List dV×(bd×List bd))),(∀g∈G,va g)→mT (G.flatMap (·.1)) ((G.map (·.2)).flatMap out)
 | [],_=>mT.nil
 | g::G,h=>by
  have c:=Hh a G (fun x hx=>h x (aq _ hx))
  rw[aG,aE,aG]
  rcases h g (aB ..) with⟨b,i,f,g4,d⟩ | ⟨b,i,t,f,g4,d⟩
  ·exact mT.val i (a.ne _ b) (fun t ht=>(f t ht).1) (fun t ht=>(a.val _ b d g4 t ht).1) c
  ·have e:out g.2=[t]:=by
    rw[show g.2=(g.2.1,[]) from _root_.Prod.ext rfl i,a.other _ b,d,tv g4]
   rw[f,e]
   rcases g4 with g4 | g4
   ·exact mT.one g4 (by simp) (by simpa using g4) c
   ·exact mT.brk g4 c
theorem B3 {out:bd×List bd→List dV} (a:su out) {s x:ab} (hx:x.data.toList=ep ((iQ (gj s.data.toList)).flatMap out)):gj x.data.toList=(iQ (gj s.data.toList)).flatMap out:=by
 obtain⟨G,e1,e2,b⟩:=Hg (gj s.data.toList) (ql _)
 rw[hx,e2]
 have:=(Hh a G b).good (by rw[← e1];exact Mn _)
 exact this
theorem y0 (y:bd) (Y:List bd) (hy:isM y=false):∀ (X:List bd) (a:Option (bd×List bd)),fw a (X++y::Y)=fw a X++fw none (y::Y)
 | [],none=>rfl
 | [],some c=>by
  show (if dz c.1&&isM y then _ else c::fw (some (y,[])) Y)=_
  rw[hy,Bool.and_false];rfl
 | x::X,none=>y0 y Y hy X (some (x,[]))
 | x::X,some c=>by
  show (if dz c.1&&isM x then fw (some (c.1,c.2++[x])) (X++y::Y) else c::fw (some (x,[])) (X++y::Y))=(if dz c.1&&isM x then fw (some (c.1,c.2++[x])) X else c::fw (some (x,[])) X)++_
  split
  ·exact y0 y Y hy X _
  ·rw[y0 y Y hy X];rfl
theorem OK (c a:List dV) (h:∀t,a.head?=some t→eC (zfM t).Rune=false):iQ (c++a)=iQ c++iQ a:=by
 unfold iQ
 rw[eT]
 have e:∀x y:List bd,apL (x++y)=apL x++apL y:=fun x y=>by unfold apL;rw[List.flatMap_append]
 rw[e]
 cases a with
 | nil=>simp[apL,cl,fw]
 | cons t a=>
  have ht:=h t rfl
  obtain⟨y,ys,hy,hm⟩:∃y ys,apL ((t::a).map zfM)=y::ys∧isM y=false:=by
   unfold apL
   rw[aE,aG]
   unfold iP
   split
   ·rename_i hL
    obtain⟨b,g,d,f,_⟩:=tj (show dw (zfM t).Rune=true from hL)
    rw[d]
    refine⟨_,_,rfl,?_⟩
    cases e:isM (⟨b,af b,(zfM t).At⟩:bd) with
    | false=>rfl
    | true=>have:=pH (show eC b=true from e);rw[f] at this;cases this
   ·exact⟨_,_,rfl,ht⟩
  rw[hy]
  exact y0 y ys hm _ none
theorem xi (l:List bd):loI (l.map je)=(loI l).map je∧hiI (l.map je)=(hiI l).map je:=by
 unfold loI hiI
 rw[List.filter_map,List.filter_map]
 exact⟨rfl,rfl⟩
theorem y2 (c:bd×List bd):oH (mw c)=oH c:=by
 unfold oH lN mw
 simp only
 rw[(xi c.2).1,(xi c.2).2,← eT,j0,j0,rk];rfl
theorem OL (c:bd×List bd):mW (mw c)=mW c:=by
 unfold mW mw
 simp only
 rw[BT,(xi c.2).1,(xi c.2).2,ce,ce];rfl
def gZ (g:bd×List bd→List Int) (c:bd×List bd):List dV:=if dz c.1 then (g c).map kw else [u6 c.1]
theorem OM (rs:List Int):(iU rs).data.toList=ep (rs.map kw):=by
 rw[pK]
 induction rs with
 | nil=>rfl
 | cons r rs a=>
  rw[j0,aE,qk,← a]
  have:(af r).data.toList=encodeRune r:=o0 r
  show (af r++J af rs).data.toList=encodeRune r++_
  rw[← this];simp
theorem vc {r:Int} (h:dw r=true):vr r:=by have:=mG r h;unfold vr;omega
theorem y3 {r:Int} (h:eC r=true):vr r:=by unfold eC at h;simp at h;unfold vr;omega
theorem ON {r:Int} (h:dw r=true∨eC r=true):(kw r).valid∧LM (kw r):=by
 have hv:vr r:=by rcases h with h | h;exact vc h;exact y3 h
 refine⟨BU hv,?_⟩
 unfold LM
 have:(((kw r).r:Nat):Int)=r:=by show ((r.toNat:Nat):Int)=r;unfold vr at hv;omega
 rw[this];exact h
theorem B4 {g:bd×List bd→List Int} (h0:∀c,dz c.1=true→g c≠[]) (h:∀c,dz c.1=true→zbL c.1.Rune tabS=none→(∀m∈c.2,isM m=true)→∀r∈g c,dw r=true∨eC r=true):su (gZ g) where
 other x hx:=by unfold gZ;rw[hx];rfl
 ne c hc:=by unfold gZ;rw[hc];simpa using h0 c hc
 val c hc hn hm t ht:=by
  unfold gZ at ht;rw[hc] at ht
  obtain⟨r,hr,rfl⟩:=aW.1 (show t∈(g c).map kw from ht)
  exact ON (h c hc hn hm r hr)
theorem Hi (f:bd×List bd→ab) (out:bd×List bd→List dV):∀l:List (bd×List bd),(∀c∈l,(f c).data.toList=ep (out c))→(J f l).data.toList=ep (l.flatMap out)
 | [],_=>rfl
 | c::l,h=>by
  rw[j0,aG,oi,← Hi f out l (fun d hd=>h d (aq _ hd)),← h c (aB ..)]
  simp
theorem y4 {x:bd} (h:kv x):kv (je x):=h
theorem B5 {f:bd×List bd→ab} {g:bd×List bd→List Int} (hf:∀c,f (mw c)=f c)
  (h1:∀c,dz c.1=true→kv c.1→(∀m∈c.2,isM m=true∧kv m)→f c=iU (g c)) (h2:∀c,dz c.1=false→c.2=[]→f c=c.1.Text)
  (s:ab) (h:s.size≤65536):(J f (jL s)).data.toList=ep ((iQ (gj s.data.toList)).flatMap (gZ g)):=by
 have e:J f (jL s)=J f (iQ (gj s.data.toList)):=by
  rw[← yY,rk];exact sj fun c _=>(hf c).symm
 rw[e]
 refine Hi f _ _ fun c hc=>?_
 rw[← yY] at hc
 obtain⟨d,hd,rfl⟩:=aW.1 hc
 obtain⟨o1,a,b,_⟩:=(sn h).2 d hd
 unfold gZ
 cases hL:dz (mw d).1 with
 | true=>
  rw[h1 _ hL (y4 o1) (fun m hm=>by obtain⟨y,hy,rfl⟩:=aW.1 (show m∈d.2.map je from hm);exact⟨(a y hy).1,y4 (a y hy).2⟩),OM];rfl
 | false=>
  rw[h2 _ hL (by show d.2.map je=[];rw[b hL];rfl)]
  show _=ep [u6 (mw d).1]
  simp[ep,u6]
def gA (c:bd×List bd):List Int:=(lN c).map (·.Rune)
def gT (c:bd×List bd):List Int:=let hi:=(hiI c.2).map (·.Rune);let lo:=(loI c.2).map (·.Rune)
 (hi.foldl fg ((lo.foldl fg (c.1.Rune,[],true)).1,(lo.foldl fg (c.1.Rune,[],true)).2.1,true)).1::(hi.foldl fg ((lo.foldl fg (c.1.Rune,[],true)).1,(lo.foldl fg (c.1.Rune,[],true)).2.1,true)).2.1
theorem B6 {c:bd×List bd} {x:bd} (h:x∈lN c):x=c.1∨x∈c.2:=by
 unfold lN at h
 rcases bE.1 h with h | h
 ·exact .inl h
 ·unfold loI hiI at h
  rw[bO,cp,cp] at h
  exact .inr (by rcases h with h | h <;> exact h.1)
theorem OO:su (gZ gA):=B4 (fun c _=>by unfold gA lN;simp) (fun c hc a hm r hr=>by
 unfold gA at hr
 obtain⟨x,hx,rfl⟩:=aW.1 hr
 rcases B6 hx with rfl | hx
 ·exact .inl hc
 ·exact .inr (hm x hx))
theorem Hj {x:bd} (h:kv x) (hL:dz x=true):x.Text=af x.Rune:=by
 rcases h.2 with⟨h1,_⟩ | ⟨_,h1⟩
 ·have:=(mG _ hL).1;omega
 ·exact h1
theorem OP (s:ab) (a:s.size≤65536):(lZ s).data.toList=ep ((iQ (gj s.data.toList)).flatMap (gZ gA)):=by
 refine B5 y2 (fun c hL h1 h2=>?_) (fun c hL h2=>?_) s a
 ·unfold oH gA
  rw[pK,rk]
  refine sj fun x hx=>?_
  rcases B6 hx with rfl | hx
  ·exact Hj h1 hL
  ·exact BZ (h2 x hx).2 (h2 x hx).1
 ·unfold oH lN loI hiI;rw[h2];rw[j0];simp[qw]
theorem OQ (x:Int) (l:List Int):iU (x::l)=af x++iU l:=by rw[pK,pK,j0]
theorem OR {a:Int×List Int×Bool} {m:Int} (h:dw a.1=true∧∀x∈a.2.1,eC x=true) (hm:eC m=true):dw (fg a m).1=true∧∀x∈(fg a m).2.1,eC x=true:=by
 have b:∀x∈a.2.1++[m],eC x=true:=fun x hx=>by
  rcases bO.1 hx with hx | hx
  ·exact h.2 x hx
  ·simp at hx;subst hx;exact hm
 unfold fg
 split
 ·rename_i j hj
  split
  ·exact⟨(G5 hj).2.2,h.2⟩
  ·exact⟨h.1,b⟩
 ·exact⟨h.1,b⟩
theorem B7:∀ (b:List Int) (a:Int×List Int×Bool),(dw a.1=true∧∀x∈a.2.1,eC x=true)→(∀m∈b,eC m=true)→dw (b.foldl fg a).1=true∧∀x∈(b.foldl fg a).2.1,eC x=true
 | [],a,h,_=>h
 | m::b,a,h,hm=>B7 b _ (OR h (hm m (aB ..))) (fun x hx=>hm x (aq _ hx))
theorem y5 {c:bd×List bd} (hm:∀m∈c.2,isM m=true):(∀m∈(loI c.2).map (·.Rune),eC m=true)∧∀m∈(hiI c.2).map (·.Rune),eC m=true:=by
 constructor <;> intro m h <;> obtain⟨x,hx,rfl⟩:=aW.1 h
 ·unfold loI at hx;rw[cp] at hx;exact hm x hx.1
 ·unfold hiI at hx;rw[cp] at hx;exact hm x hx.1
theorem B8 {c:bd×List bd} (hL:dz c.1=true) (hm:∀m∈c.2,isM m=true):∃j st,gT c=j::st∧dw j=true∧∀x∈st,eC x=true:=by
 obtain⟨h1,h2⟩:=y5 hm
 have a:=B7 _ (c.1.Rune,[],true) ⟨hL,by simp⟩ h1
 have b:=B7 _ (((loI c.2).map (·.Rune)).foldl fg (c.1.Rune,[],true) |>.1,(((loI c.2).map (·.Rune)).foldl fg (c.1.Rune,[],true)).2.1,true) a h2
 exact⟨_,_,rfl,b.1,b.2⟩
theorem pN:su (gZ gT):=B4 (fun c _=>by unfold gT;simp) (fun c hc a hm r hr=>by
 obtain⟨j,st,e,h1,h2⟩:=B8 hc hm
 rw[e] at hr
 rcases bE.1 hr with rfl | hr
 ·exact .inl h1
 ·exact .inr (h2 r hr))
theorem B9 (s:ab) (a:s.size≤65536):(zoJ s).data.toList=ep ((iQ (gj s.data.toList)).flatMap (gZ gT)):=by
 refine B5 OL (fun c hL h1 h2=>?_) (fun c hL h2=>?_) s a
 ·unfold mW pM
  rw[hL]
  exact (OQ _ _).symm
 ·unfold mW;rw[hL];rfl
def vd:Bool→List (bd×List bd)→Prop
 | _,[]=>True
 | p,c::cs=>(p=true→isM c.1=false)∧vd (dz c.1) cs
theorem Ca:∀ (xs:List bd) (c:bd×List bd) (p:Bool),(p=true→isM c.1=false)→vd p (fw (some c) xs)
 | [],c,p,h=>⟨h,trivial⟩
 | x::xs,c,p,h=>by
  show vd p (if dz c.1&&isM x then fw (some (c.1,c.2++[x])) xs else c::fw (some (x,[])) xs)
  cases e:(dz c.1&&isM x) with
  | true=>exact Ca xs (c.1,c.2++[x]) p h
  | false=>exact⟨h,Ca xs (x,[]) (dz c.1) (fun hL=>by rw[hL] at e;exact e)⟩
theorem OS (xs:List bd):vd false (cl xs):=by
 cases xs with
 | nil=>trivial
 | cons x xs=>exact Ca xs (x,[]) false (fun h=>by cases h)
def Hk (c:bd×List bd):Prop:=(dz c.1=true∧(∀m∈c.2,isM m=true)∧zbL c.1.Rune tabS=none)∨(dz c.1=false∧c.2=[]∧∃t,nF t∧c.1=zfM t)
theorem y6 {ts:List dV} (a:∀t∈ts,nF t):∀c∈iQ ts,Hk c:=by
 obtain⟨G,e1,e2,h⟩:=Hg ts a
 intro c hc
 rw[e2] at hc
 obtain⟨g,hg,rfl⟩:=aW.1 hc
 rcases h g hg with⟨d,e,f,g4,b⟩ | ⟨d,e,t,f,g4,b⟩
 ·exact .inl ⟨d,g4,b⟩
 ·exact .inr ⟨d,e,t,g4,b⟩
theorem OT (x:bd) (xs:List bd):apL (x::xs)=iP x++apL xs:=by unfold apL;rw[aG]
theorem Cb {t:dV} (h:dz (zfM t)=false) (ts:List dV):iQ (t::ts)=(zfM t,[])::iQ ts:=by
 unfold iQ
 rw[aE,OT,show iP (zfM t)=[zfM t] by unfold iP;rw[h];rfl]
 exact yO h _
theorem Hl {out:bd×List bd→List dV} (b:su out) (i:∀c,dz c.1=true→zbL c.1.Rune tabS=none→(∀m∈c.2,isM m=true)→∀t,(out c).head?=some t→eC (zfM t).Rune=false) :
  ∀ (cs:List (bd×List bd)) (p:Bool),(∀c∈cs,Hk c)→vd p cs→iQ (cs.flatMap out)=cs.flatMap (fun c=>iQ (out c))
 | [],_,_,_=>rfl
 | c::cs,p,hc,ha=>by
  have l:=Hl b i cs (dz c.1) (fun d hd=>hc d (aq _ hd)) ha.2
  rw[aG,aG,← l]
  rcases hc c (aB ..) with⟨f,k,j⟩ | ⟨f,k,t,j,g4⟩
  ·refine OK _ _ fun t ht=>?_
   cases cs with
   | nil=>cases ht
   | cons a cs=>
    have g:=ha.2.1 f
    rw[aG] at ht
    rcases hc a (aq _ (aB ..)) with⟨k1,k2,k3⟩ | ⟨k1,k2,u,k3,h⟩
    ·obtain⟨v,vs,hv⟩:=List.exists_cons_of_ne_nil (b.ne a k1)
     rw[hv] at ht
     exact i a k1 k3 k2 t (by rw[hv];exact ht)
    ·have e:out a=[u]:=by rw[show a=(a.1,[]) from _root_.Prod.ext rfl k2,b.other _ k1,h,tv k3]
     rw[e] at ht
     have:u=t:=mA ht
     subst this
     rw[← h];exact g
  ·have e:out c=[t]:=by rw[show c=(c.1,[]) from _root_.Prod.ext rfl k,b.other _ f,g4,tv j]
   have hL:dz (zfM t)=false:=by rw[← g4];exact f
   rw[e,oU,Cb hL,Cb hL];rfl
theorem Hm {out:bd×List bd→List dV} (j:su out) (k:∀c,dz c.1=true→zbL c.1.Rune tabS=none→(∀m∈c.2,isM m=true)→∀t,(out c).head?=some t→eC (zfM t).Rune=false)
  {f g:bd×List bd→ab} (hf:∀c,f (mw c)=f c) (hg:∀c,g (mw c)=g c) {s x:ab} (r:s.size≤65536) (hx:x.data.toList=ep ((iQ (gj s.data.toList)).flatMap out))
  (hL:∀c,dz c.1=true→(∀m∈c.2,isM m=true∧kv m)→zbL c.1.Rune tabS=none→kv c.1→J f (iQ (out c))=g c)
  (v:∀y,dz y=false→f (y,[])=g (y,[])):J f (jL x)=J g (jL s):=by
 have e:∀ (h:bd×List bd→ab) (u:ab),(∀c,h (mw c)=h c)→J h (jL u)=J h (iQ (gj u.data.toList)):=fun h u k=>by
  rw[← yY,rk];exact sj fun c _=>(k c).symm
 rw[e f x hf,e g s hg,B3 j hx]
 have b:vd false (iQ (gj s.data.toList)):=OS _
 have a:=y6 (ql s.data.toList)
 rw[Hl j k _ false a b,BN]
 refine sj fun c hc=>?_
 rcases a c hc with⟨i,p,n⟩ | ⟨i,p,t,n,g4⟩
 ·rw[← yY] at hc
  obtain⟨d,hd,rfl⟩:=aW.1 hc
  obtain⟨o1,o,w,_⟩:=(sn r).2 d hd
  exact hL _ i (fun m hm=>by obtain⟨y,hy,rfl⟩:=aW.1 (show m∈d.2.map je from hm);exact⟨(o y hy).1,y4 (o y hy).2⟩) n (y4 o1)
 ·have q:c=(c.1,[]):=_root_.Prod.ext rfl p
  have e1:out c=[t]:=by rw[q,j.other _ i,g4,tv n]
  have l:dz (zfM t)=false:=by rw[← g4];exact i
  rw[e1,Cb l]
  show J f [(zfM t,[])]=g c
  rw[j0,qw,bW,← g4,v _ i,← q]
theorem Ce {r:Int} (h:dw r=true):eC r=false:=by
 cases e:eC r with
 | false=>rfl
 | true=>have:=pH e;rw[h] at this;cases this
theorem Hn {r:Int} (h:vr r):zfM (kw r)=jR r:=by
 rw[GZ (BU h)]
 show jR ((r.toNat:Nat):Int)=jR r
 rw[show ((r.toNat:Nat):Int)=r by unfold vr at h;omega]
theorem OU {rs:List Int} (h:∀r∈rs,vr r):(rs.map kw).map zfM=rs.map jR:=by
 rw[ce]
 exact List.map_congr_left fun r hr=>Hn (h r hr)
theorem Ho:∀ {st:List Int},(∀m∈st,eC m=true)→st.flatMap gp=st
 | [],_=>rfl
 | m::st,h=>by
  rw[aG,G0 (pH (h m (aB ..))),Ho fun x hx=>h x (aq _ hx)];rfl
theorem Hq {α:Type} {p:α→Bool}:∀ {l:List α},(∀x∈l,p x=true)→l.takeWhile p=l
 | [],_=>rfl
 | x::l,h=>by rw[List.takeWhile_cons,ay (h x (aB ..)),Hq fun y hy=>h y (aq _ hy)]
theorem Hr {α:Type} {p:α→Bool}:∀ {l:List α},(∀x∈l,p x=true)→l.dropWhile p=[]
 | [],_=>rfl
 | x::l,h=>by rw[List.dropWhile_cons,ay (h x (aB ..)),Hr fun y hy=>h y (aq _ hy)]
theorem OV {j b:Int} {st c:List Int} (hj:dw j=true) (a:∀m∈st,eC m=true) (hp:gp j=b::c):iQ ((j::st).map kw)=[(jR b,(c++st).map jR)]:=by
 unfold iQ
 rw[OU (fun r hr=>by
  rcases bE.1 hr with rfl | hr
  ·exact vc hj
  ·exact y3 (a r hr)),Oq,aG,hp,Ho a]
 obtain⟨i,f,e,g,h,d,_⟩:=tj hj
 rw[hp] at e
 obtain⟨rfl,rfl⟩:=ju e
 rw[bp,aE,yN (show dz (jR b)=true from g)]
 have hall:∀x∈(c++st).map jR,isM x=true:=fun x hx=>by
  obtain⟨r,hr,rfl⟩:=aW.1 hx
  show eC r=true
  rcases bO.1 hr with hr | hr
  ·exact d r hr
  ·exact a r hr
 have h1:((c++st).map jR).takeWhile isM=(c++st).map jR:=Hq hall
 have h2:((c++st).map jR).dropWhile isM=[]:=Hr hall
 rw[h1,h2,GA]
def kx (c:bd×List bd):List Int:=(loI c.2).map (·.Rune)
def lm (c:bd×List bd):List Int:=(hiI c.2).map (·.Rune)
theorem Ht (b:Int) (ks:List Int):kx (jR b,ks.map jR)=ks.filter lX∧lm (jR b,ks.map jR)=ks.filter (fun r=>!lX r):=by
 unfold kx lm loI hiI
 constructor
 ·induction ks with
  | nil=>rfl
  | cons k ks a=>
   rw[aE,hO,hO,show lM (jR k)=lX k from rfl]
   split
   ·rw[aE];exact aL _ a
   ·exact a
 ·induction ks with
  | nil=>rfl
  | cons k ks a=>
   rw[aE,hO,hO,show lM (jR k)=lX k from rfl]
   split
   ·rw[aE];exact aL _ a
   ·exact a
theorem Hu (c:bd×List bd):(∀x∈kx c,lX x=true)∧∀x∈lm c,lX x=false:=by
 unfold kx lm loI hiI
 constructor
 ·intro x hx
  obtain⟨y,hy,rfl⟩:=aW.1 hx
  rw[cp] at hy;exact hy.2
 ·intro x hx
  obtain⟨y,hy,rfl⟩:=aW.1 hx
  rw[cp] at hy
  simpa [lM] using hy.2
theorem y7 (c:bd×List bd):gA c=c.1.Rune::(kx c++lm c):=by unfold gA lN kx lm;simp
def Hv (c d:bd×List bd):Prop:=c.1.Rune=d.1.Rune∧kx c=kx d∧lm c=lm d
theorem OW {c d:bd×List bd} (h:Hv c d):gA c=gA d:=by
 obtain⟨h1,h2,a⟩:=h
 rw[y7,y7,h1,h2,a]
theorem OX:(im.all fun p=>decide (gp p.2=gp p.1.e0++[p.1.e1]))=true:=by decide +kernel
theorem OY {b m j:Int} (h:gv b m=some j):gp j=gp b++[m]:=by
 unfold gv at h
 have:=bz.1 OX _ (qu h)
 simpa using this
theorem Hw:∀ (l:List Int) (b:Int) (st:List Int),l.foldl fg (b,st,false)=(b,st++l,false)
 | [],b,st=>by simp
 | m::l,b,st=>by
  have:fg (b,st,false) m=(b,st++[m],false):=by unfold fg;split <;> rfl
  rw[bQ,this,Hw l];simp
theorem Cf:∀ (l:List Int) (b:Int) (st:List Int),∃c a,l=c++a∧(l.foldl fg (b,st,true)).2.1=st++a∧gp (l.foldl fg (b,st,true)).1=gp b++c
 | [],b,st=>⟨[],[],rfl,by simp,by simp⟩
 | m::l,b,st=>by
  rw[bQ]
  cases h:gv b m with
  | some j=>
   have e:fg (b,st,true) m=(j,st,true):=by unfold fg;rw[h];rfl
   rw[e]
   obtain⟨c,a,h1,h2,d⟩:=Cf l j st
   exact⟨m::c,a,by rw[h1];rfl,h2,by rw[d,OY h];simp⟩
  | none=>
   have e:fg (b,st,true) m=(b,st++[m],false):=by unfold fg;rw[h]
   rw[e,Hw]
   exact⟨[],m::l,rfl,by simp,by simp⟩
theorem OZ {c:bd×List bd} (f:zbL c.1.Rune tabS=none):∃j b a e d,gT c=j::(a++d)∧kx c=b++a∧lm c=e++d∧gp j=c.1.Rune::(b++e):=by
 obtain⟨b,a,h1,h2,g⟩:=Cf (kx c) c.1.Rune []
 obtain⟨e,d,k1,k2,k3⟩:=Cf (lm c) ((kx c).foldl fg (c.1.Rune,[],true)).1 ((kx c).foldl fg (c.1.Rune,[],true)).2.1
 have hp:gp c.1.Rune=[c.1.Rune]:=by unfold gp;rw[f]
 refine⟨((lm c).foldl fg (((kx c).foldl fg (c.1.Rune,[],true)).1,((kx c).foldl fg (c.1.Rune,[],true)).2.1,true)).1,b,a,e,d,?_,h1,k1,?_⟩
 ·show gT c=_::_
  unfold kx lm at *
  unfold gT
  simp only
  rw[k2,h2];simp
 ·rw[k3,g,hp];simp
def Cg (c:bd×List bd) (ts:List dV) (d:bd×List bd):Prop:=iQ ts=[d]∧dz d.1=true∧kv d.1∧(∀m∈d.2,isM m=true∧kv m)∧d.1.Rune=c.1.Rune
theorem Hy {r:Int} (h:vr r):kv (jR r):=by
 unfold vr at h
 refine⟨?_,.inr ⟨?_,rfl⟩⟩
 ·show fN r;exact⟨by omega,by omega⟩
 ·show 0≤r;omega
theorem Hz {c:bd×List bd} {j b:Int} {st g:List Int} (hj:dw j=true) (a:∀m∈st,eC m=true) (hp:gp j=b::g) (k:b=c.1.Rune):Cg c ((j::st).map kw) (jR b,(g++st).map jR):=by
 obtain⟨n,i,h,e,l,f,_⟩:=tj hj
 rw[hp] at h
 obtain⟨rfl,rfl⟩:=ju h
 refine⟨OV hj a hp,e,Hy (vc e),fun m hm=>?_,k⟩
 obtain⟨r,hr,rfl⟩:=aW.1 hm
 have d:eC r=true:=by
  rcases bO.1 hr with hr | hr
  ·exact f r hr
  ·exact a r hr
 exact⟨d,Hy (y3 d)⟩
theorem y8 {l:List Int} (h:∀x∈l,lX x=true):l.filter lX=l∧l.filter (fun r=>!lX r)=[] :=
 ⟨pX.2 h,ov.2 fun x hx=>by simp[h x hx]⟩
theorem y9 {l:List Int} (h:∀x∈l,lX x=false):l.filter lX=[]∧l.filter (fun r=>!lX r)=l :=
 ⟨ov.2 fun x hx=>by simp[h x hx],pX.2 fun x hx=>by simp[h x hx]⟩
theorem O0 {c:bd×List bd} (hL:dz c.1=true) (hm:∀m∈c.2,isM m=true) (s:zbL c.1.Rune tabS=none):∃d,Cg c (gZ gT c) d∧Hv d c:=by
 obtain⟨j,p,f,q,g,h1,h2,h,t⟩:=OZ s
 obtain⟨w,r,i,v,u⟩:=B8 hL hm
 rw[h1] at i
 obtain⟨rfl,rfl⟩:=ju i
 have e:gZ gT c=(j::(f++g)).map kw:=by unfold gZ;rw[hL,h1];rfl
 rw[e]
 refine⟨_,Hz v u t rfl,rfl,?_⟩
 obtain⟨k1,k2⟩:=Ht c.1.Rune ((p++q)++(f++g))
 obtain⟨b,a⟩:=Hu c
 rw[h2] at b
 rw[h] at a
 have a1:=y8 (l:=p) fun x hx=>b x (jO _ hx)
 have o:=y8 (l:=f) fun x hx=>b x (jw _ hx)
 have n:=y9 (l:=q) fun x hx=>a x (jO _ hx)
 have k:=y9 (l:=g) fun x hx=>a x (jw _ hx)
 rw[k1,k2,h2,h]
 simp only[List.filter_append,a1.1,a1.2,o.1,o.2,n.1,n.2,k.1,k.2]
 simp
theorem Ch {c:bd×List bd} (hL:dz c.1=true) (h1:kv c.1) (h2:∀m∈c.2,isM m=true∧kv m):oH c=iU (gA c):=by
 unfold oH gA
 rw[pK,rk]
 refine sj fun x hx=>?_
 rcases B6 hx with rfl | hx
 ·exact Hj h1 hL
 ·exact BZ (h2 x hx).2 (h2 x hx).1
theorem HA {r:Int} {rs:List Int} (h:dw r=true):∀t,((r::rs).map kw).head?=some t→eC (zfM t).Rune=false:=by
 intro t ht
 have:kw r=t:=mA ht
 subst this
 rw[Hn (vc h)]
 exact Ce h
theorem O1:∀c:bd×List bd,dz c.1=true→zbL c.1.Rune tabS=none→(∀m∈c.2,isM m=true)→∀t,(gZ gT c).head?=some t→eC (zfM t).Rune=false:=by
 intro c hL _ hm
 obtain⟨j,st,b,a,d⟩:=B8 hL hm
 have e:gZ gT c=(j::st).map kw:=by unfold gZ;rw[hL,b];rfl
 rw[e];exact HA a
theorem O2 {c d:bd×List bd} {ts:List dV} (f:bd×List bd→ab) (h:Cg c ts d):J f (iQ ts)=f d:=by
 rw[h.1,j0,qw,bW]
theorem O3 (s:ab) (b:s.size≤65536):lZ (zoJ s)=lZ s:=by
 refine Hm pN O1 y2 y2 b (B9 s b) (fun c hL hm e a=>?_) (fun y hy=>rfl)
 obtain⟨d,hd,hk⟩:=O0 hL (fun m h=>(hm m h).1) e
 rw[O2 _ hd,Ch hd.2.1 hd.2.2.1 hd.2.2.2.1,Ch hL a hm,OW hk]
end Go.Proofs.YtifpjbgnikjglaaGreatDoor


namespace Go.Proofs.YtifpjbgnikjglaaGreatDoor
open Go.RowKit Go.Lib
open Tryz
set_option linter.unusedVariables false
set_option linter.unusedSimpArgs false
open _root_.ByteArray renaming empty→aA
open _root_.Go.IntWalk renaming i64_in→ai
open _root_.Go.Lib renaming indexByte→bi
open _root_.Go.Proofs.Tryz renaming underlying9→an,underlying63→cD,results68→nt,underlying21→bg,underlying46→de,underlying36→aD,results118→mb,results95→lx
open bM renaming nil→bK
open ap renaming nil→ad
open Vw renaming get→cI
open _root_.Go.Utf8 renaming encode→af
open _root_.Go.Value renaming string→aa,int→ax,bool→am
open _root_.List renaming nil_append→bt,append_nil→aQ
open _root_.Nat renaming lt_succ_self→av
def ve (p1:cX):Option Bool := aY (fN p1.Rune) <| some (((gN p1.Broken p1.Rune):Int)==1)
theorem HB {p1:cX} {r:Bool} (h:ve p1=some r):dO prog 123 [.agg #[zI p1.At,zI p1.Width,.int .i32 p1.Rune,.bool p1.Broken]] (.bool r):=by
 unfold ve at h
 refine dO.intro func123 rfl ntmps123 (by simp) ?_
 intro w0 K
 refine aC ?_
 refine jy rfl dc rfl (fun b1=>?_)
 refine ac 1 rfl (cv (gM (k:=0) (cs:=[zI p1.At,zI p1.Width,.int .i32 p1.Rune,.bool p1.Broken]) kW rfl dc rfl rfl rfl rfl ?_))
 obtain⟨a,h⟩:=bC h
 refine dq (v:=zI (gN p1.Broken p1.Rune)) (vs:=[.agg #[zI p1.At,zI p1.Width,.int .i32 p1.Rune,.bool p1.Broken]]) rfl dc rfl rfl rfl uj (uv p1.At p1.Width p1.Rune p1.Broken a.1 a.2) (aO rfl eE (ac 1 rfl (az (bI ?_))))
 cases h
 exact dk 2 results123
def vf (p1:cX):Option Bool := aY (fN p1.Rune) <| some (((gN p1.Broken p1.Rune):Int)==2)
theorem HC {p1:cX} {r:Bool} (h:vf p1=some r):dO prog 92 [.agg #[zI p1.At,zI p1.Width,.int .i32 p1.Rune,.bool p1.Broken]] (.bool r):=by
 unfold vf at h
 refine dO.intro func92 rfl ntmps92 (by simp) ?_
 intro w0 K
 refine aC ?_
 refine jy rfl dc rfl (fun b1=>?_)
 refine ac 1 rfl (cv (gM (k:=0) (cs:=[zI p1.At,zI p1.Width,.int .i32 p1.Rune,.bool p1.Broken]) kW rfl dc rfl rfl rfl rfl ?_))
 obtain⟨a,h⟩:=bC h
 refine dq (v:=zI (gN p1.Broken p1.Rune)) (vs:=[.agg #[zI p1.At,zI p1.Width,.int .i32 p1.Rune,.bool p1.Broken]]) rfl dc rfl rfl rfl uj (uv p1.At p1.Width p1.Rune p1.Broken a.1 a.2) (aO rfl eE (ac 1 rfl (az (bI ?_))))
 cases h
 exact dk 2 results92
def zdE (line1:ab) (at1:Int) (j1:(List fU)→Option (List fU)) (ag1:(List fU)→Bool→Int→Option (List fU)) (l4:List fU) (open3:Bool) (x3:Int):Option (List fU) := aU (decide ((x3:Int)<(line1.size:Int))) ( cJ (fun (j2:(List fU)→Bool→Option (List fU))=> aX (kR line1 x3) fun (c1:Int)=> aU ((c1:Int)==32) ( j2 l4 false
) ( aU (open3) ( aY (cR ((l4.length:Int) - 1)) <| aX (zcy l4 ((l4.length:Int) - 1)) fun (q1:fU)=> aY (cR (x3+1)) <| aY (0≤(x3:Int)∧(x3:Int)≤(x3+1)∧(x3+1:Int)≤(line1.size:Int)) <| aY (q1.text.size+(c7 line1 x3 (x3+1)).size≤9223372036854775807) <| j2 (l4.set ((l4.length:Int) - 1:Int).toNat (⟨q1.at_,q1.text++(c7 line1 x3 (x3+1))⟩:fU)) open3
) ( aY (cR (at1+x3)) <| aY (cR (x3+1)) <| aY (0≤(x3:Int)∧(x3:Int)≤(x3+1)∧(x3+1:Int)≤(line1.size:Int)) <| aY (l4.length+1≤2147483648) <| j2 (l4++[(⟨at1+x3,c7 line1 x3 (x3+1)⟩:fU)]) true
)
)
) (fun (l5:List fU) (open4:Bool)=> aY (cR (x3+1)) <| ag1 l5 open4 (x3+1)
)
) ( j1 l4
)
def xj (line1:ab) (at1:Int):Option (List fU) := cJ (fun (j1:(List fU)→Option (List fU))=> zaI (fun _ _ _=>none) (zdE line1 at1 j1) zbH ([]:List fU) false 0
) (fun (l1:List fU)=> some l1
)
theorem O4 {a:ab} {g:Int} {r:(List fU)} (h:xj a g=some r):Fn prog 30 [.string a,zI g] [] (fun v0:Value=>v0) (fun v0=>[rZ v0 r]):=by
 unfold xj at h
 refine _root_.Go.Proofs.YtifpjbgnikjglaaGreatDoor.Fn.intro func30 rfl ntmps30 (by simp) ?_
 intro w0 K
 obtain⟨x,A,h⟩:=cP h
 refine c8 (β:=(List fU)×Value) 3 rfl (fun b=>x b.1=some r) (fun b=>[]) (fun b=>[(5,b.2)]) (fun b=>[rZ b.2 b.1]) (fun cut=>?_) ?_
 ·
  refine aC (ac 1 rfl (cv (ac 1 rfl (cv (ac 1 rfl (bU ?_))))))
  refine cz (cut (aC (ac 1 rfl (ly rfl dc rfl an (ac 1 rfl (az (cy (nf (enc:=sV) (e:=111) (size:=2) ?_))))))))
  refine fh (β:=Nat×(List fU)×Bool×Int×Value) (fun b=>zaI (fun _ _ _=>none) (zdE a g x) b.1 b.2.1 b.2.2.1 b.2.2.2.1=some r) (fun b=>[]) (fun b=>[(0,.string a),(1,zI g),(5,b.2.2.2.2),(6,.bool b.2.2.1),(9,zI (a.size:Int)),(10,zI b.2.2.2.1)]) (fun b=>[rZ b.2.2.2.2 b.2.1]) (fun b=>b.1) (zbH,([]:List fU),false,0,(.slice none 0 0)) h rfl (aT rfl) (aH [0] kr rfl) ?_
  rintro⟨w,l,m,f,s⟩ h
  cases w with
  | zero=>exact fa h
  | succ w=>
   obtain⟨M,p⟩:∃ag,ag=zaI (fun _ _ _=>none) (zdE a g x) w:=⟨_,rfl⟩
   have h:zdE a g x M l m f=some r:=by rw[p];exact h
   unfold zdE at h
   refine aC (aO rfl ei (az (cm ?_)))
   refine bG rfl h (fun h=>?_) (fun h=>?_)
   ·
    refine bH (cz ?_)
    obtain⟨R,z,h⟩:=cP h
    refine c8 (β:=(List fU)×Bool×Value) 0 rfl (fun b=>R b.1 b.2.1=some r) (fun b=>[]) (fun b=>[(0,.string a),(1,zI g),(5,b.2.2),(6,.bool b.2.1),(9,zI (a.size:Int)),(10,zI f)]) (fun b=>[rZ b.2.2 b.1]) (fun cut=>?_) ?_
    ·
     refine cut (cy (aC (ac 2 rfl (az (cy (aC (ac 2 rfl ?_)))))))
     obtain⟨c1,y,h⟩:=bj h
     refine ny rfl dc rfl rfl (p6 an y) (aO rfl eE (ac 1 rfl (az ?_)))
     refine bG rfl h (fun h=>?_) (fun h=>?_)
     ·
      refine ct (ac 1 rfl (bU (cw (cw ?_))))
      exact bx (l,false,s) h rfl (aT rfl) (aH [0] kr rfl)
     refine aC (ac 2 rfl (az ?_))
     refine bG rfl h (fun h=>?_) (fun h=>?_)
     ·
      obtain⟨L,h⟩:=bC h
      obtain⟨q1,o,h⟩:=bj h
      obtain⟨J,h⟩:=bC h
      obtain⟨I,h⟩:=bC h
      obtain⟨H,h⟩:=bC h
      refine jc 12 [(0,32,s),(1,33,s),(2,34,zI (l.length:Int)),(3,35,zI ((l.length:Int) - 1)),(4,36,.pointer (some ⟨gG s,((l.length:Int) - 1:Int).toNat*2,none⟩)),(5,37,.pointer (some ⟨gG s,(((l.length:Int) - 1:Int).toNat)*2+1,none⟩)),(6,38,.string q1.text),(7,39,.string a),(8,40,zI f),(9,41,zI f),(10,42,zI (f+1)),(11,43,.string (c7 a f (f+1)))] mixed kr kr dc (by rfl) kr kr (gY 2 0 rfl (bR ?_ (bR ?_ (bR ?_ (bR ?_ (bR ?_ (gY 3 7 rfl (bR ?_ (bR ?_ bK))))))))) ?_
      · exact fun D n d c u i=>iA (k:=0) rfl dc (bq 1 u d) rfl cD (bm 2 u i)
      · exact fun D n d c u i=>kl rfl dc (bq 2 u d) rfl (mD (r:=(l.length:Int) - 1) (ai _ L)) (bm 3 u i)
      · exact fun D n d c u i=>fO (k:=0) o cD zip rfl dc (bq 0 u d) (bq 3 u d) rfl rfl (bm 4 u i)
      · exact fun D n d c u i=>cf ui rfl dc (bq 4 u d) (show _=(((l.length:Int) - 1:Int).toNat)*2+1 from rfl) (bm 5 u i)
      · exact fun D n d c u i=>ib (i:=((l.length:Int) - 1:Int).toNat) (j:=1) (k:=0) (q:=q1) ea yr rfl dc (bq 5 u d) rfl (fb o) rfl dc rfl (bm 6 u i)
      · exact fun D n d c u i=>kl rfl dc (bq 9 u d) rfl (dN (r:=f+1) (ai _ J)) (bm 10 u i)
      · exact fun D n d c u i=>iz rfl dc (bq 7 u d) (evO.some (bq 8 u d)) (evO.some (bq 10 u d)) (jZ (i:=f) (j:=f+1) an (.inr rfl) (.inr rfl) I) (bm 11 u i)
      refine aO rfl (kQ H) (fO (k:=0) o cD zip rfl dc rfl rfl rfl rfl (cf ui rfl dc rfl (show _=(((l.length:Int) - 1:Int).toNat)*2+1 from rfl) ?_))
      refine p4 (i:=((l.length:Int) - 1:Int).toNat) (j:=1) (k:=0) (q:=q1) (q':=(⟨q1.at_,q1.text++(c7 a f (f+1))⟩:fU)) gm yr rfl rfl rfl rfl (fb o) rfl dc rfl (fun _ _=>rfl) ?_
      refine bU (cw (cw ?_))
      exact bx (l.set ((l.length:Int) - 1:Int).toNat (⟨q1.at_,q1.text++(c7 a f (f+1))⟩:fU),m,s) h rfl (aT rfl) (aH [0] kr rfl)
     refine aC (ac 3 rfl ?_)
     obtain⟨G,h⟩:=bC h
     refine aO rfl (dN (r:=g+f) (ai _ G)) (ac 3 rfl ?_)
     obtain⟨F,h⟩:=bC h
     refine aO rfl (dN (r:=f+1) (ai _ F)) ?_
     obtain⟨E,h⟩:=bC h
     refine iz rfl dc rfl rfl rfl (jZ (i:=f) (j:=f+1) an (.inr rfl) (.inr rfl) E) ?_
     refine eU (v:=.agg #[zI (g+f),.string (c7 a f (f+1))]) (ps:=[(0,.tmp 16),(1,.tmp 21)]) rfl dc rfl (fun _=>by kernel_rfl) ?_
     refine gl (cs:=[zI (g+f),.string (c7 a f (f+1))]) (te:=111) (ps:=[(0,.tmp 22)]) rfl dc rfl (fun _=>by kernel_rfl) (fun b1=>?_)
     obtain⟨C,h⟩:=bC h
     refine iT (k:=0) (k2:=1) (ys:=[(⟨g+f,c7 a f (f+1)⟩:fU)]) cD KB yr L2 rfl dc rfl rfl rfl rfl rfl rfl C (fun N=>?_)
     refine ac 1 rfl (az (ct (ac 1 rfl (bU (cw (cw ?_))))))
     exact bx (l++[(⟨g+f,c7 a f (f+1)⟩:fU)],true,N) h rfl (aT rfl) (aH [0] kr rfl)
    rintro⟨Q,t,O⟩ h
    rw[z] at h
    refine ct ?_
    obtain⟨B,h⟩:=bC h
    refine aO rfl (dN (r:=f+1) (ai _ B)) (ac 1 rfl (bU ?_))
    subst p
    exact ff (w,Q,t,f+1,O) h (av _) rfl (aT rfl) (aH [0] kr rfl)
   refine dZ (cA (cA (ed ?_)))
   exact bx (l,s) h rfl (aT rfl) (aH [0] kr rfl)
 rintro⟨S,P⟩ h
 rw[A] at h
 refine aC (ac 2 rfl (az (bI ?_)))
 cases h
 exact eO (rs:=[.tmp 4]) P (.inl rfl) results30 (.cons (.tmp rfl) .nil) rfl (aH [0] kr rfl)
def xk (l1:List fU) (end1:Int):Option Int := cJ (fun (j1:Int→Int→Option Int)=> aX (zcy l1 0) fun (q1:fU)=> aU (decide (q1.text=(⟨#[112,117,116]⟩:ab))) ( cJ (fun (j2:Option Int)=> aU (decide ((2:Int)<(l1.length:Int))) ( aX (zcy l1 2) fun (q2:fU)=> aU (!decide (q2.text=(⟨#[97,102,116,101,114]⟩:ab))) ( aX (zcy l1 2) fun (q3:fU)=> some q3.at_
) ( j2
)
) ( j2
)
) ( j1 4 4
)
) ( aU (decide (q1.text=(⟨#[97,115]⟩:ab))) ( j1 3 6
) ( aU (decide (q1.text=(⟨#[115,107,105,112]⟩:ab))) ( j1 2 2
) ( aX (zcy l1 0) fun (q4:fU)=> some q4.at_
)
)
)
) (fun (least1:Int) (most1:Int)=> aU (decide (((l1.length:Int):Int)<least1)) ( some end1
) ( aU (decide ((most1:Int)<(l1.length:Int))) ( aX (zcy l1 most1) fun (q5:fU)=> some q5.at_
) ( some (-1)
)
)
)
theorem O5 {k g:Value} {u:List fU} {c:Nat} {y:List fU} (a:Vw k u 2 c g y) {d:Int} {r:Int} (h:xk y d=some r):iv prog 68 [g,zI d] [ji sV 2 k c u] [] (fun _:Unit=>(zI r)) (fun _=>[]):=by
 unfold xk at h
 refine iv.intro func68 rfl ntmps68 (by simp) ?_
 intro w0 K f
 obtain⟨D,x,h⟩:=cP h
 refine c8 (β:=Int×Int) 2 rfl (fun b=>D b.1 b.2=some r) (fun b=>[]) (fun b=>[(0,g),(1,zI d),(5,zI b.1),(6,zI b.2)]) (fun b=>[]) (fun cut=>?_) ?_
 ·
  refine aC (ac 1 rfl (cv (ac 2 rfl (az (cut (aC ?_))))))
  refine ac 1 rfl ?_
  obtain⟨q1,t,h⟩:=bj h
  refine gq a t cD zip rfl dc rfl rfl rfl (cf ui rfl dc rfl (show _=(c+(0:Int).toNat)*2+1 from rfl) (kH (n:=c+(0:Int).toNat) (j:=1) (i:=0) (q:=q1) f rfl (by omega) ea rfl dc rfl (cI a t) rfl rfl (az (cy (aC (aO rfl lf (ac 1 rfl (az ?_))))))))
  refine bG rfl h (fun h=>?_) (fun h=>?_)
  ·
   obtain⟨C,w,h⟩:=cP h
   refine c8 (β:=Unit) 0 rfl (fun b=>C=some r) (fun b=>[]) (fun b=>[(0,g),(1,zI d)]) (fun b=>[]) (fun cut=>?_) ?_
   ·
    refine cut (aC (ac 1 rfl (iO a rfl dc rfl cD (aO rfl lK (ac 1 rfl ?_)))))
    refine dG (s:=20) rfl h (fun h=>?_) (fun h=>?_)
    ·
     refine ac 1 rfl ?_
     obtain⟨q2,p,h⟩:=bj h
     refine gq a p cD zip rfl dc rfl rfl rfl (cf ui rfl dc rfl (show _=(c+(2:Int).toNat)*2+1 from rfl) (kH (n:=c+(2:Int).toNat) (j:=1) (i:=0) (q:=q2) f rfl (by omega) ea rfl dc rfl (cI a p) rfl rfl (aO rfl qK (ac 1 rfl (az ?_)))))
     refine bG rfl h (fun h=>?_) (fun h=>?_)
     ·
      refine aC (ac 1 rfl ?_)
      obtain⟨B,o,h⟩:=bj h
      refine gq a o cD zip rfl dc rfl rfl rfl (cf rS rfl dc rfl (show _=(c+(2:Int).toNat)*2 from rfl) (kH (n:=c+(2:Int).toNat) (j:=0) (i:=0) (q:=B) f rfl (by omega) dQ rfl dc rfl (cI a o) rfl rfl (ac 1 rfl (az (bI (bT (cE (bT ?_))))))))
      cases h
      exact dk 4 nt
     refine bH ?_
     exact bx () h rfl (aT rfl) ad
    refine ac 6 rfl (az (eQ rfl (bH ?_)))
    exact bx () h rfl (aT rfl) ad
   rintro _ h
   rw[w] at h
   refine ct (ac 2 rfl (bU (cw ?_)))
   exact bx (4,4) h rfl (aT rfl) ad
  refine aC (aO rfl lf (ac 1 rfl (az ?_)))
  refine bG rfl h (fun h=>?_) (fun h=>?_)
  ·
   refine ct (ac 2 rfl (bU (cw ?_)))
   exact bx (3,6) h rfl (aT rfl) ad
  refine aC (aO rfl lf (ac 1 rfl (az ?_)))
  refine bG rfl h (fun h=>?_) (fun h=>?_)
  ·
   refine bH (cw ?_)
   exact bx (2,2) h rfl (aT rfl) ad
  refine aC (ac 1 rfl ?_)
  obtain⟨A,m,h⟩:=bj h
  refine gq a m cD zip rfl dc rfl rfl rfl (cf rS rfl dc rfl (show _=(c+(0:Int).toNat)*2 from rfl) (kH (n:=c+(0:Int).toNat) (j:=0) (i:=0) (q:=A) f rfl (by omega) dQ rfl dc rfl (cI a m) rfl rfl (ac 1 rfl (az (bI (cE (bT ?_)))))))
  cases h
  exact dk 4 nt
 rintro⟨v,e⟩ h
 rw[x] at h
 refine cm (cy (aC (ac 1 rfl (iO a rfl dc rfl cD (ac 1 rfl (aO rfl ei (ac 1 rfl (az ?_))))))))
 refine bG rfl h (fun h=>?_) (fun h=>?_)
 ·
  refine aC (ac 2 rfl (az (bI (cE (bT ?_)))))
  cases h
  exact dk 4 nt
 refine aC (ac 1 rfl (iO a rfl dc rfl cD (ac 1 rfl (aO rfl lK (ac 1 rfl (az ?_))))))
 refine bG rfl h (fun h=>?_) (fun h=>?_)
 ·
  refine aC (ac 2 rfl ?_)
  obtain⟨z,l,h⟩:=bj h
  refine gq a l cD zip rfl dc rfl rfl rfl (cf rS rfl dc rfl (show _=(c+(e:Int).toNat)*2 from rfl) (kH (n:=c+(e:Int).toNat) (j:=0) (i:=0) (q:=z) f rfl (by omega) dQ rfl dc rfl (cI a l) rfl rfl (ac 1 rfl (az (bI (cE (bT ?_)))))))
  cases h
  exact dk 4 nt
 refine bH (cw (cz (aC (ac 1 rfl (az (bI ?_))))))
 cases h
 exact dk 4 nt
def zde (r1:ab) (x1:cX) (ag1:ab→Option ab) (b8:ab):Option ab := aX (ve x1) fun (r3:Bool)=> aU (r3) ( aY (fN x1.Rune) <| aY (b8.size+(af (ee x1.Rune)).size≤140737488355328) <| ag1 (b8++(af (ee x1.Rune)))
) ( aY (cR (x1.At+x1.Width)) <| aY (0≤(x1.At:Int)∧(x1.At:Int)≤(x1.At+x1.Width)∧(x1.At+x1.Width:Int)≤(r1.size:Int)) <| aY (b8.size+(c7 r1 x1.At (x1.At+x1.Width)).size≤140737488355328) <| ag1 (b8++(c7 r1 x1.At (x1.At+x1.Width)))
)
def xl (s1:ab):Option ab := cJ (fun (j1:ab→Option ab)=> aX (uX s1) fun (r1:ab)=> aX (tq r1) fun (r2:ab)=> aX (ri r2) fun (its1:(List cX))=> cJ (fun (dn1:ab→Option ab)=> zcM dn1 (zde r1) its1 aA
) (fun (b8:ab)=> j1 b8
)
) (fun (b2:ab)=> some b2
)
theorem O6 {I:ab} {r:ab} (h:xl I=some r):dO prog 121 [.string I] (.string r):=by
 unfold xl at h
 refine dO.intro func121 rfl ntmps121 (by simp) ?_
 intro w0 K
 refine qH ?_
 obtain⟨j1,P,h⟩:=cP h
 refine c8 (β:=ab×Nat×Value×(List Nat)) 3 rfl (fun b=>j1 b.1=some r) (fun b=>mQ b.2.2.2) (fun b=>[(3,zP b.2.1)]) (fun b=>[cells b.2.1 [b.2.2.1] 46,byt 5 b.2.2.1 b.1,zgL ((b.2.2.2:List Nat).map eZ)]) (fun cut=>?_) ?_
 ·
  refine aC ?_
  refine jy rfl dc rfl (fun H=>?_)
  refine ac 1 rfl (cv (bF (k:=1) ea rfl dc rfl rfl rfl ?_))
  obtain⟨m,O,h⟩:=bj h
  refine dq (v:=.string m) (vs:=[.string I]) rfl dc rfl rfl rfl Fc (G1 O) ?_
  refine ef (k:=1) (l':=[.string m]) gm rfl rfl rfl rfl rfl (fun _ _=>rfl) rfl ?_
  refine cv ?_
  refine eN J4 rfl dc (fun G=>?_)
  refine az (cut (aC (bF (k:=1) ea rfl dc rfl rfl rfl ?_)))
  obtain⟨r2,N,h⟩:=bj h
  refine fY (vs:=[.string m]) rfl dc rfl rfl rfl wg (xb N) ad ?_
  rintro Z
  refine az (cy ?_)
  obtain⟨B,M,h⟩:=bj h
  refine x0 (e:=5) ?_
  obtain⟨z,F,h⟩:=cP h
  refine sJ (α:=cX) (β:=ab×Value) (γ:=Unit) (δ:=Nat) (ps:=[9]) Ro.nil rfl wi (xa M) (fun pre b=>∀post,B=pre++post→zcM z (zde m) post b.1=some r) (fun pre b=>[cells H [.string m] 9,cells G [b.2] 46,byt 5 b.2 b.1]) (fun c pre g=>False) (fun c pre g=>[]) (fun pre x b j=>[(1,zP H),(2,.string (⟨#[]⟩:ab)),(3,zP G),(8,.func (.func 154) #[] #[zP Z]),(4,zP j)]) (fun pre x b j=>[cells H [.string m] 9,cells G [b.2] 46,byt 5 b.2 b.1,cells j [zI x.At,zI x.Width,.int .i32 x.Rune,.bool x.Broken] 132]) (aA,(.slice none 0 0)) (fun post e=>by rw[bt] at e;subst e;exact h) (aH [1,2,4] kr rfl) ⟨.inl ⟨3,rfl⟩,trivial⟩ (fun _=>rfl) dc ?_ ?_ ?_ ?_
  ·
   rintro lp rc pre x1 post ⟨s,t⟩ w1 K1 f E J l
   refine ct ?_
   refine eN og rfl dc (fun b9=>?_)
   refine eH (k:=3) (vs:=[zI x1.At,zI x1.Width,.int .i32 x1.Rune,.bool x1.Broken]) (l':=[zI x1.At,zI x1.Width,.int .i32 x1.Rune,.bool x1.Broken]) jP rfl rfl rfl rfl rfl (show _≤_ by simp) rfl rfl ?_
   refine bU ?_
   exact fun a w ha hw=>⟨b9,(aT rfl) _ _ _ ha,hw.weaken (aH [0,1,2,3] kr rfl)⟩
  ·
   rintro lp rc pre x1 o ⟨s,t⟩ q w1 K1 f E J l
   have h:=l (x1::o) f
   obtain⟨W,p⟩:∃ag,ag=zcM z (zde m) o:=⟨_,rfl⟩
   have h:zde m x1 W s=some r:=by have h2:=h;rw[nz,← p] at h2;exact h2
   unfold zde at h
   refine cy (aC (gM (k:=3) (cs:=[zI x1.At,zI x1.Width,.int .i32 x1.Rune,.bool x1.Broken]) kW rfl dc rfl rfl rfl rfl ?_))
   obtain⟨r3,L,h⟩:=bj h
   refine dq (v:=.bool r3) (vs:=[.agg #[zI x1.At,zI x1.Width,.int .i32 x1.Rune,.bool x1.Broken]]) rfl dc rfl rfl rfl Fh (HB (p1:=x1) L) (az ?_)
   refine bG rfl h (fun h=>?_) (fun h=>?_)
   ·
    obtain⟨C,h⟩:=bC h
    obtain⟨T,h⟩:=bC h
    refine jc 5 [(0,12,t),(1,13,.pointer (some ⟨q,2,none⟩)),(2,14,.int .i32 x1.Rune),(3,15,.int .i32 (ee x1.Rune)),(4,16,.string (af (ee x1.Rune)))] mixed kr kr dc (by rfl) kr kr (bR ?_ (bR ?_ (bR ?_ (bR ?_ (bR ?_ bK))))) ?_
    · exact fun D n d c u i=>bF (k:=1) Ai rfl dc (dE (by rfl) rfl) rfl rfl (bm 0 u i)
    · exact fun D n d c u i=>cf o7 rfl dc (dE (by rfl) rfl) (show _=2 from rfl) (bm 1 u i)
    · exact fun D n d c u i=>bF (k:=3) fT rfl dc (bq 1 u d) rfl rfl (bm 2 u i)
    · exact fun D n d c u i=>dq (v:=.int .i32 (ee x1.Rune)) (vs:=[.int .i32 x1.Rune]) rfl dc rfl (evL.cons (bq 2 u d) evL.nil) rfl yq (nP fun w=>wo x1.Rune w C.1 C.2) (bm 3 u i)
    · exact fun D n d c u i=>jr rfl dc (bq 3 u d) (mf bg an) (bm 4 u i)
    refine vG (k:=2) de an rO rfl dc rfl rfl rfl T (fun Y=>?_)
    refine ef (k:=1) (l':=[Y]) EG rfl rfl rfl rfl rfl (fun _ h=>DM h (k:=2) rfl) rfl ?_
    refine bU (cw ?_)
    exact kP (s++(af (ee x1.Rune)),Y) (fun y e2=>by have U:=kU f e2;subst U;subst p;exact h) (aH [0,1,2] kr rfl)
   obtain⟨S,h⟩:=bC h
   obtain⟨R,h⟩:=bC h
   obtain⟨Q,h⟩:=bC h
   refine jc 10 [(0,18,t),(1,19,.string m),(2,20,zP q),(3,21,zI x1.At),(4,22,zP q),(5,23,zI x1.At),(6,24,.pointer (some ⟨q,1,none⟩)),(7,25,zI x1.Width),(8,26,zI (x1.At+x1.Width)),(9,27,.string (c7 m x1.At (x1.At+x1.Width)))] mixed kr kr dc (by rfl) kr kr (bR ?_ (bR ?_ (bR ?_ (bR ?_ (bR ?_ (bR ?_ (bR ?_ (bR ?_ (bR ?_ (bR ?_ bK)))))))))) ?_
   · exact fun D n d c u i=>bF (k:=1) Ai rfl dc (dE (by rfl) rfl) rfl rfl (bm 0 u i)
   · exact fun D n d c u i=>bF (k:=0) ea rfl dc (dE (by rfl) rfl) rfl rfl (bm 1 u i)
   · exact fun D n d c u i=>cf lh rfl dc (dE (by rfl) rfl) (show _=0 from rfl) (bm 2 u i)
   · exact fun D n d c u i=>bF (k:=3) dQ rfl dc (bq 2 u d) rfl rfl (bm 3 u i)
   · exact fun D n d c u i=>cf lh rfl dc (dE (by rfl) rfl) (show _=0 from rfl) (bm 4 u i)
   · exact fun D n d c u i=>bF (k:=3) dQ rfl dc (bq 4 u d) rfl rfl (bm 5 u i)
   · exact fun D n d c u i=>cf pw rfl dc (dE (by rfl) rfl) (show _=1 from rfl) (bm 6 u i)
   · exact fun D n d c u i=>bF (k:=3) dQ rfl dc (bq 6 u d) rfl rfl (bm 7 u i)
   · exact fun D n d c u i=>kl rfl dc (bq 5 u d) (bq 7 u d) (dN (r:=x1.At+x1.Width) (ai _ S)) (bm 8 u i)
   · exact fun D n d c u i=>iz rfl dc (bq 1 u d) (evO.some (bq 3 u d)) (evO.some (bq 8 u d)) (jZ (i:=x1.At) (j:=x1.At+x1.Width) an (.inr rfl) (.inr rfl) R) (bm 9 u i)
   refine vG (k:=2) de an rO rfl dc rfl rfl rfl Q (fun X=>?_)
   refine ef (k:=1) (l':=[X]) EG rfl rfl rfl rfl rfl (fun _ h=>DM h (k:=2) rfl) rfl ?_
   refine bU (cw ?_)
   exact kP (s++(c7 m x1.At (x1.At+x1.Width)),X) (fun y e2=>by have U:=kU f e2;subst U;subst p;exact h) (aH [0,1,2] kr rfl)
  ·
   rintro A ⟨s,t⟩ l
   have h:z s=some r:=l [] (aQ _).symm
   rw[F] at h
   show TX _ _ _ _ _ _ _ [zgL ((([]:List Nat):List Nat).map eZ),cn,cn,cells Z [.string r2] 9,cn,cells H [.string m] 9,cells G [t] 46,byt 5 t s,eZ A]
   refine pY (k:=8) (j:=0) rfl rfl dc ?_
   refine cw ?_
   exact bx (s,G,t,A::([]:List Nat)) h rfl (aT rfl) (aH [6,7,0] kr rfl)
  rintro A c pre x1 post g ao hX
  exact (show False from hX).elim
 rintro⟨b2,b1,v1,V⟩ h
 rw[P] at h
 refine aC (bF (k:=0) Ai rfl dc rfl rfl rfl (p5 (k:=1) rfl dc rfl rfl de underlying5 an (ac 1 rfl (az (bI ?_)))))
 cases h
 exact lS (rs:=[.tmp 2]) V () (.inl rfl) (lR (k:=2) rfl) results121 (.cons (.tmp rfl) .nil) rfl ad
def zdF (ek1:Int→Option ab) (x1:cX) (ag1:Int→Option ab) (n3:Int):Option ab := aY (cR (n3+1)) <| aU (decide ((8:Int)<(n3+1))) ( ek1 (n3+1)
) ( aX (ve x1) fun (r3:Bool)=> aU (!r3) ( aU (((n3+1):Int)==1) ( ek1 (n3+1)
) ( aX (vf x1) fun (r4:Bool)=> aU (!r4) ( ek1 (n3+1)
) ( ag1 (n3+1)
)
)
) ( ag1 (n3+1)
)
)
def vg (s1:ab):Option ab := cJ (fun (j1:ab→Option ab)=> aX (xl s1) fun (r1:ab)=> aX (tq r1) fun (r2:ab)=> aX (ri r2) fun (its1:(List cX))=> cJ (fun (ek1:Int→Option ab)=> cJ (fun (dn1:Int→Option ab)=> zcM dn1 (zdF ek1) its1 0
) (fun (n3:Int)=> j1 r1
)
) (fun (n4:Int)=> some (⟨#[]⟩:ab)
)
) (fun (s2:ab)=> some s2
)
theorem O7 {D:ab} {r:ab} (h:vg D=some r):dO prog 69 [.string D] (.string r):=by
 unfold vg at h
 refine dO.intro func69 rfl ntmps69 (by simp) ?_
 intro w0 K
 refine qH ?_
 obtain⟨Z,L,h⟩:=cP h
 refine c8 (β:=ab×Nat×(List Nat)) 3 rfl (fun b=>Z b.1=some r) (fun b=>mQ b.2.2) (fun b=>[(0,.string b.1),(2,zP b.2.1)]) (fun b=>[cells b.2.1 [.string aA] 9,zgL ((b.2.2:List Nat).map eZ)]) (fun cut=>?_) ?_
 ·
  refine aC ?_
  refine eN ED rfl dc (fun t=>?_)
  refine cv (ac 1 rfl ?_)
  obtain⟨C,J,h⟩:=bj h
  refine dq (v:=.string C) (vs:=[.string D]) rfl dc rfl rfl rfl Lz (O6 J) (ac 1 rfl (cv ?_))
  refine eN ub rfl dc (fun u=>?_)
  refine ef (k:=2) (l':=[zI 0]) jj rfl rfl rfl rfl rfl (fun _ _=>rfl) rfl ?_
  refine az (cut (aC (ac 1 rfl ?_)))
  obtain⟨R,I,h⟩:=bj h
  refine fY (vs:=[.string C]) rfl dc rfl rfl rfl wg (xb I) ad ?_
  rintro P
  refine az (cy ?_)
  obtain⟨y,H,h⟩:=bj h
  obtain⟨o,A,h⟩:=cP h
  obtain⟨q,B,h⟩:=cP h
  refine sJ (α:=cX) (β:=Int) (γ:=Int) (δ:=Nat) (ps:=[9]) Ro.nil rfl wi (xa H) (fun pre b=>∀post,y=pre++post→zcM q (zdF o) post b=some r) (fun pre b=>[cells t [.string aA] 9,cells u [zI b] 3]) (fun c pre g=>(fun g=>c=.ret∧o g=some r) g) (fun c pre g=>(fun g=>[cells t [.string (⟨#[]⟩:ab)] 9,cells u [zI g] 3]) g) (fun pre x b j=>[(0,.string C),(2,zP t),(3,zP u),(8,.func (.func 154) #[] #[zP P]),(4,zP j)]) (fun pre x b j=>[cells t [.string aA] 9,cells u [zI b] 3,cells j [zI x.At,zI x.Width,.int .i32 x.Rune,.bool x.Broken] 132]) 0 (fun post e=>by rw[bt] at e;subst e;exact h) (aH [1,2] kr rfl) ⟨.inl ⟨3,rfl⟩,trivial⟩ (fun _=>rfl) dc ?_ ?_ ?_ ?_
  ·
   rintro X U pre x1 post i S K1 d z E f
   refine ct ?_
   refine eN og rfl dc (fun b5=>?_)
   refine eH (k:=2) (vs:=[zI x1.At,zI x1.Width,.int .i32 x1.Rune,.bool x1.Broken]) (l':=[zI x1.At,zI x1.Width,.int .i32 x1.Rune,.bool x1.Broken]) jP rfl rfl rfl rfl rfl (show _≤_ by simp) rfl rfl ?_
   refine bU ?_
   exact fun a w ha hw=>⟨b5,(aT rfl) _ _ _ ha,hw.weaken (aH [0,1,2] kr rfl)⟩
  ·
   rintro X U pre x1 l i Y S K1 d z E f
   have h:=f (x1::l) d
   obtain⟨Q,m⟩:∃ag,ag=zcM q (zdF o) l:=⟨_,rfl⟩
   have h:zdF o x1 Q i=some r:=by have h2:=h;rw[nz,← m] at h2;exact h2
   unfold zdF at h
   refine cy (aC (bF (k:=1) dQ rfl dc rfl rfl rfl ?_))
   obtain⟨M,h⟩:=bC h
   refine aO rfl (dN (r:=i+1) (ai _ M)) ?_
   refine ef (k:=1) (l':=[zI (i+1)]) jj rfl rfl rfl rfl rfl (fun _ _=>rfl) rfl ?_
   refine cv (bF (k:=1) dQ rfl dc rfl rfl rfl (aO rfl lK (ac 1 rfl ?_)))
   refine dG (s:=14) rfl h (fun h=>?_) (fun h=>?_)
   ·
    refine ac 13 rfl (bU ?_)
    refine cz (iH rfl (aC ?_))
    refine ef (k:=0) (l':=[.string (⟨#[]⟩:ab)]) gm rfl rfl rfl rfl rfl (fun _ _=>rfl) rfl ?_
    refine az (bI (cE ?_))
    exact lJ (i+1) (show _∧_ from ⟨rfl,h⟩) (aH [0,1] kr rfl)
   refine gM (k:=2) (cs:=[zI x1.At,zI x1.Width,.int .i32 x1.Rune,.bool x1.Broken]) kW rfl dc rfl rfl rfl rfl ?_
   obtain⟨W,G,h⟩:=bj h
   refine dq (v:=.bool W) (vs:=[.agg #[zI x1.At,zI x1.Width,.int .i32 x1.Rune,.bool x1.Broken]]) rfl dc rfl rfl rfl Fh (HB (p1:=x1) G) (jq rfl dc rfl js (ac 1 rfl ?_))
   refine dG (s:=18) rfl h (fun h=>?_) (fun h=>?_)
   ·
    refine bF (k:=1) dQ rfl dc rfl rfl rfl (aO rfl eE (ac 1 rfl ?_))
    refine dG (s:=21) rfl h (fun h=>?_) (fun h=>?_)
    ·
     refine ac 6 rfl (az (iH rfl (aC ?_)))
     refine ef (k:=0) (l':=[.string (⟨#[]⟩:ab)]) gm rfl rfl rfl rfl rfl (fun _ _=>rfl) rfl ?_
     refine az (bI (cE ?_))
     exact lJ (i+1) (show _∧_ from ⟨rfl,h⟩) (aH [0,1] kr rfl)
    refine gM (k:=2) (cs:=[zI x1.At,zI x1.Width,.int .i32 x1.Rune,.bool x1.Broken]) kW rfl dc rfl rfl rfl rfl ?_
    obtain⟨V,F,h⟩:=bj h
    refine dq (v:=.bool V) (vs:=[.agg #[zI x1.At,zI x1.Width,.int .i32 x1.Rune,.bool x1.Broken]]) rfl dc rfl rfl rfl Fe (HC (p1:=x1) F) (jq rfl dc rfl js (ac 3 rfl (az ?_)))
    refine bG rfl h (fun h=>?_) (fun h=>?_)
    ·
     refine aC ?_
     refine ef (k:=0) (l':=[.string (⟨#[]⟩:ab)]) gm rfl rfl rfl rfl rfl (fun _ _=>rfl) rfl ?_
     refine az (bI (cE ?_))
     exact lJ (i+1) (show _∧_ from ⟨rfl,h⟩) (aH [0,1] kr rfl)
    refine bH (cw ?_)
    exact kP (i+1) (fun p e2=>by have N:=kU d e2;subst N;subst m;exact h) (aH [0,1] kr rfl)
   refine ac 9 rfl (az (eQ rfl (bH (cw ?_))))
   exact kP (i+1) (fun p e2=>by have N:=kU d e2;subst N;subst m;exact h) (aH [0,1] kr rfl)
  ·
   rintro n i f
   have h:q i=some r:=f [] (aQ _).symm
   rw[B] at h
   show TX _ _ _ _ _ _ _ [zgL ((([]:List Nat):List Nat).map eZ),cn,cn,cells P [.string R] 9,cells t [.string aA] 9,cells u [zI i] 3,eZ n]
   refine pY (k:=6) (j:=0) rfl rfl dc ?_
   refine cw ?_
   exact bx (C,t,n::([]:List Nat)) h rfl (aT rfl) (aH [4,0] kr rfl)
  rintro n c pre x1 post g ao hX
  obtain⟨rfl,h⟩:=(show _∧_ from hX)
  generalize g=n4 at *
  rw[A] at h
  show TC _ _ _ _ _ _ _ _ _ [zgL ((([]:List Nat):List Nat).map eZ),cn,cn,cells P [.string R] 9,cells t [.string (⟨#[]⟩:ab)] 9,cells u [zI n4] 3,eZ n]
  refine vJ (k:=6) (j:=0) rfl rfl dc ?_
  refine bI (cE (bT ?_))
  cases h
  exact lS (rs:=[.cell 2 9]) (n::([]:List Nat)) () (.inl rfl) (lR (k:=0) rfl) results69 (.cons (.cell ea (k:=4) rfl rfl) .nil) rfl ad
 rintro⟨T,b1,O⟩ h
 rw[L] at h
 refine aC (ac 1 rfl ?_)
 refine ef (k:=0) (l':=[.string T]) gm rfl rfl rfl rfl rfl (fun _ _=>rfl) rfl ?_
 refine az (bI ?_)
 cases h
 exact lS (rs:=[.cell 2 9]) O () (.inl rfl) (lR (k:=1) rfl) results69 (.cons (.cell ea (k:=0) rfl rfl) .nil) rfl ad
def zcc (o1:cK) (ag1:(List (ab×Int))→Int→Option cK) (m3:List (ab×Int)) (x3:Int):Option cK := aU (decide ((x3:Int)<(o1.units.length:Int))) ( aX (zcy o1.units x3) fun (q1:ab)=> aY (cR (x3+1)) <| ag1 (gH q1 x3 m3) (x3+1)
) ( some (⟨o1.units,m3,o1.fors,o1.skips,o1.lines⟩:cK)
)
def vh (o1:cK):Option cK := zaI (fun _ _=>none) (zcc o1) zbH o1.place 0
theorem HD {bo1:Nat} {o1:cK} {o1_h0 o1_h1 o1_h2 o1_h3 o1_h4:Hd} {r:cK} (h:vh o1=some r):Fn prog 66 [zP bo1] [cells bo1 [o1_h0.v,.map (some (aV o1_h1)),.map (some (aV o1_h2)),.map (some (aV o1_h3)),o1_h4.v] 72,bo o1_h0.v o1.units,cq (fun n:ab=>aa n) (fun n:Int=>ax .i64 n) (aV o1_h1) o1.place,dh (aV o1_h2) o1.fors,cq (fun n:ab=>aa n) (fun n:Bool=>am n) (aV o1_h3) o1.skips,bo o1_h4.v o1.lines] (fun b:Hd×Hd×Hd×Hd×Hd=>.tuple #[]) (fun b=>[cells bo1 [b.1.v,.map (some (aV b.2.1)),.map (some (aV b.2.2.1)),.map (some (aV b.2.2.2.1)),b.2.2.2.2.v] 72,bo b.1.v r.units,cq (fun n:ab=>aa n) (fun n:Int=>ax .i64 n) (aV b.2.1) r.place,dh (aV b.2.2.1) r.fors,cq (fun n:ab=>aa n) (fun n:Bool=>am n) (aV b.2.2.2.1) r.skips,bo b.2.2.2.2.v r.lines]):=by
 unfold vh at h
 refine _root_.Go.Proofs.YtifpjbgnikjglaaGreatDoor.Fn.intro func66 rfl ntmps66 (by simp) ?_
 intro w0 K
 refine aC (ac 1 rfl (fX rfl dc rfl (cf sR rfl dc rfl (show _=0 from rfl) (bF (k:=0) lA rfl dc rfl rfl rfl (iA (k:=1) rfl dc rfl rfl aD (ac 1 rfl (az (cy ?_))))))))
 refine fh (β:=Nat×(List (ab×Int))×Int) (fun b=>zaI (fun _ _=>none) (zcc o1) b.1 b.2.1 b.2.2=some r) (fun b=>[]) (fun b=>[(0,zP bo1),(7,o1_h0.v),(8,zI (o1.units.length:Int)),(9,zI b.2.2)]) (fun b=>[cells bo1 [o1_h0.v,.map (some (aV o1_h1)),.map (some (aV o1_h2)),.map (some (aV o1_h3)),o1_h4.v] 72,bo o1_h0.v o1.units,cq (fun n:ab=>aa n) (fun n:Int=>ax .i64 n) (aV o1_h1) b.2.1,dh (aV o1_h2) o1.fors,cq (fun n:ab=>aa n) (fun n:Bool=>am n) (aV o1_h3) o1.skips,bo o1_h4.v o1.lines]) (fun b=>b.1) (zbH,o1.place,0) h rfl (aT rfl) (aH [0,1,2,3,4,5] kr rfl) ?_
 rintro⟨e,l,c⟩ h
 cases e with
 | zero=>exact fa h
 | succ e=>
  obtain⟨g,a⟩:∃ag,ag=zaI (fun _ _=>none) (zcc o1) e:=⟨_,rfl⟩
  have h:zcc o1 g l c=some r:=by rw[a];exact h
  unfold zcc at h
  refine aC (aO rfl ei (az (cm ?_)))
  refine bG rfl h (fun h=>?_) (fun h=>?_)
  ·
   refine bH (cz (cm (cy (aC (ac 1 rfl ?_)))))
   obtain⟨q1,d,h⟩:=bj h
   refine fO (k:=1) d aD gm rfl dc rfl rfl rfl rfl (ib (i:=(c:Int).toNat) (j:=0) (k:=1) (q:=q1) ea ga rfl dc rfl rfl (fb d) rfl dc rfl (ac 2 rfl (az (ct (ac 1 rfl (fX rfl dc rfl (cf ue rfl dc rfl (show _=1 from rfl) (bF (k:=0) ud rfl dc rfl rfl rfl (ac 2 rfl ?_)))))))))
   refine tZ (k:=2) (ek:=(fun n:ab=>aa n)) (ev':=(fun n:Int=>ax .i64 n)) (kk:=q1) (vv:=c) (mn an) underlying69 rfl rfl rfl rfl rfl ?_
   refine bU (cw (cz (ct ?_)))
   obtain⟨f,h⟩:=bC h
   refine aO rfl (dN (r:=c+1) (ai _ f)) (ac 1 rfl (bU ?_))
   subst a
   exact ff (e,gH q1 c l,c+1) h (av _) rfl (aT rfl) (aH [0,1,2,3,4,5] kr rfl)
  refine dZ (cA (cA (ed ?_)))
  cases h
  exact eO (rs:=[]) (o1_h0,o1_h1,o1_h2,o1_h3,o1_h4) (.inr rfl) results66 .nil rfl (aH [0,1,2,3,4,5] kr rfl)
def xm (o1:cK) (u1:ab):Option Bool := aU ((zbL u1 o1.place).isSome) ( some true
) ( some ((zbL u1 o1.fors).isSome)
)
theorem O8 {bo1:Nat} {o1:cK} {o1_h0 o1_h1 o1_h2 o1_h3 o1_h4:Hd} {u1:ab} {r:Bool} (h:xm o1 u1=some r):iv prog 71 [zP bo1,.string u1] [cells bo1 [o1_h0.v,.map (some (aV o1_h1)),.map (some (aV o1_h2)),.map (some (aV o1_h3)),o1_h4.v] 72,bo o1_h0.v o1.units,cq (fun n:ab=>aa n) (fun n:Int=>ax .i64 n) (aV o1_h1) o1.place,dh (aV o1_h2) o1.fors,cq (fun n:ab=>aa n) (fun n:Bool=>am n) (aV o1_h3) o1.skips,bo o1_h4.v o1.lines] [] (fun _:Unit=>(.bool r)) (fun _=>[]):=by
 unfold xm at h
 refine iv.intro func71 rfl ntmps71 (by simp) ?_
 intro w0 K a
 refine aC (ac 1 rfl (cv (ac 1 rfl (fX rfl dc rfl (cf ue rfl dc rfl (show _=1 from rfl) (lT (i:=0) a rfl ud rfl dc rfl rfl (ac 1 rfl ?_)))))))
 refine yc (k:=2) (ek:=(fun n:ab=>aa n)) (ev':=(fun n:Int=>ax .i64 n)) (kk:=u1) (z0:=0) (mn an) underlying69 kr rfl dc rfl rfl a rfl ?_
 refine ac 1 rfl (fS rfl dc rfl rfl (fS rfl dc rfl rfl (ac 2 rfl (cv (ac 1 rfl (fX rfl dc rfl (cf Aj rfl dc rfl (show _=2 from rfl) (lT (i:=0) a rfl vZ rfl dc rfl rfl (ac 1 rfl ?_)))))))))
 refine EC (i:=3) (kk:=u1) an underlying37 kr rfl dc rfl rfl a rfl (fun c b=>?_)
 refine ac 1 rfl (fS rfl dc rfl rfl (fS rfl dc rfl rfl (ac 2 rfl (cv (ac 2 rfl ?_)))))
 refine dG (s:=28) rfl h (fun h=>?_) (fun h=>?_)
 ·
  refine ac 3 rfl (az (bI ?_))
  cases h
  exact dk 4 results71
 refine ac 3 rfl (az (bI ?_))
 cases h
 exact dk 4 results71
def zfE (j1:(List ab)→Option cK) (ag1:(List ab)→Int→Option cK) (o4:List ab) (r3:Int):Option cK := aU (decide ((r3:Int)<1120)) ( cJ (fun (j2:(List ab)→Option cK)=> aY (fN r3) <| aU (ol r3) ( aX (Bt r3) fun (r4:(List Int))=> aU (((r4.length:Int):Int)==1) ( aX (yR r3) fun (r5:ab)=> aU (decide (r5=af r3)) ( aY (o4.length+1≤2147483648) <| j2 (o4++[af r3])
) ( j2 o4
)
) ( j2 o4
)
) ( j2 o4
)
) (fun (o5:List ab)=> aY (fN (r3+1)) <| ag1 o5 (r3+1)
)
) ( j1 o4
)
def vi  : Option cK := cJ (fun (j1:(List ab)→Option cK)=> zaI (fun _ _=>none) (zfE j1) zbH ([]:List ab) 97
) (fun (o1:List ab)=> aX (vh (⟨o1,([]:List (ab×Int)),([]:List (ab×List ab)),([]:List (ab×Bool)),([]:List ab)⟩:cK)) fun (r6:cK)=> some r6
)
theorem O9  {r:cK} (h:vi=some r):Fn prog 28 [] [] (fun b:Nat×Hd×Hd×Hd×Hd×Hd=>zP b.1) (fun b=>[cells b.1 [b.2.1.v,.map (some (aV b.2.2.1)),.map (some (aV b.2.2.2.1)),.map (some (aV b.2.2.2.2.1)),b.2.2.2.2.2.v] 72,bo b.2.1.v r.units,cq (fun n:ab=>aa n) (fun n:Int=>ax .i64 n) (aV b.2.2.1) r.place,dh (aV b.2.2.2.1) r.fors,cq (fun n:ab=>aa n) (fun n:Bool=>am n) (aV b.2.2.2.2.1) r.skips,bo b.2.2.2.2.2.v r.lines]):=by
 unfold vi at h
 refine _root_.Go.Proofs.YtifpjbgnikjglaaGreatDoor.Fn.intro func28 rfl ntmps28 (by simp) ?_
 intro w0 K
 obtain⟨A,F,h⟩:=cP h
 refine c8 (β:=(List ab)×Nat×Hd×Nat×Nat×Nat) 2 rfl (fun b=>A b.1=some r) (fun b=>[]) (fun b=>[(1,zP b.2.1)]) (fun b=>[cells b.2.1 [b.2.2.1.v,.map (some b.2.2.2.1),.map (some b.2.2.2.2.1),.map (some b.2.2.2.2.2),.slice none 0 0] 72,bo b.2.2.1.v b.1,cq (fun n:ab=>aa n) (fun n:Int=>ax .i64 n) b.2.2.2.1 ([]:List (ab×Int)),dh b.2.2.2.2.1 ([]:List (ab×List ab)),cq (fun n:ab=>aa n) (fun n:Bool=>am n) b.2.2.2.2.2 ([]:List (ab×Bool))]) (fun cut=>?_) ?_
 ·
  refine aC (ac 1 rfl (cv ?_))
  refine tY (fun n:ab=>aa n) (fun n:Int=>ax .i64 n) rfl dc (fun p=>?_)
  refine tY (fun s:ab=>aa s) pu rfl dc (fun i=>?_)
  refine sM (As:=[cq (fun s:ab=>aa s) pu i []]) (aH [1] kr rfl) (EA (b:=i)) (fun _ _=>?_)
  refine tY (fun n:ab=>aa n) (fun n:Bool=>am n) rfl dc (fun o=>?_)
  refine eU (v:=.agg #[.slice none 0 0,.map (some p),.map (some i),.map (some o),.slice none 0 0]) (ps:=[(1,.tmp 3),(2,.tmp 4),(3,.tmp 5)]) rfl dc rfl (fun _=>by kernel_rfl) ?_
  refine jy rfl dc rfl (fun y=>?_)
  refine ac 1 rfl (az (cut (aC (ac 1 rfl (az (cy (nf (enc:=gR) (e:=9) (size:=1) ?_)))))))
  refine fh (β:=Nat×(List ab)×Int×Hd) (fun b=>zaI (fun _ _=>none) (zfE A) b.1 b.2.1 b.2.2.1=some r) (fun b=>[]) (fun b=>[(1,zP y),(2,.int .i32 b.2.2.1)]) (fun b=>[cells y [b.2.2.2.v,.map (some p),.map (some i),.map (some o),.slice none 0 0] 72,bo b.2.2.2.v b.2.1,cq (fun n:ab=>aa n) (fun n:Int=>ax .i64 n) p ([]:List (ab×Int)),dh i ([]:List (ab×List ab)),cq (fun n:ab=>aa n) (fun n:Bool=>am n) o ([]:List (ab×Bool))]) (fun b=>b.1) (zbH,([]:List ab),97,Hd.nil) h rfl (aT rfl) (aH [4,5,0,2,3] kr rfl) ?_
  rintro⟨z,q,a,g⟩ h
  cases z with
  | zero=>exact fa h
  | succ z=>
   obtain⟨N,j⟩:∃ag,ag=zaI (fun _ _=>none) (zfE A) z:=⟨_,rfl⟩
   have h:zfE A N q a=some r:=by rw[j];exact h
   unfold zfE at h
   refine cm (aC (ac 1 rfl (aO rfl ei (az ?_))))
   refine bG rfl h (fun h=>?_) (fun h=>?_)
   ·
    refine bH (cz ?_)
    obtain⟨Q,E,h⟩:=cP h
    refine c8 (β:=(List ab)×Hd) 0 rfl (fun b=>Q b.1=some r) (fun b=>[]) (fun b=>[(1,zP y),(2,.int .i32 a)]) (fun b=>[cells y [b.2.v,.map (some p),.map (some i),.map (some o),.slice none 0 0] 72,bo b.2.v b.1,cq (fun n:ab=>aa n) (fun n:Int=>ax .i64 n) p ([]:List (ab×Int)),dh i ([]:List (ab×List ab)),cq (fun n:ab=>aa n) (fun n:Bool=>am n) o ([]:List (ab×Bool))]) (fun cut=>?_) ?_
    ·
     refine cut (cy (aC (ac 1 rfl ?_)))
     obtain⟨u,h⟩:=bC h
     refine dq (v:=.bool (ol a)) (vs:=[.int .i32 a]) rfl dc rfl rfl rfl K2 (nP fun w=>yx a w u.1 u.2) ?_
     refine ac 1 rfl ?_
     refine dG (s:=14) rfl h (fun h=>?_) (fun h=>?_)
     ·
      refine ac 1 rfl ?_
      obtain⟨X,D,h⟩:=bj h
      refine fY (vs:=[.int .i32 a]) rfl dc rfl rfl rfl K3 (Nj D) ad ?_
      rintro W
      refine jd (k:=5) rfl (fun R J=>?_)
      subst J
      refine iA (k:=5) rfl dc rfl rfl underlying103 (aO rfl eE (ac 2 rfl ?_))
      refine dG (s:=20) rfl h (fun h=>?_) (fun h=>?_)
      ·
       refine ac 1 rfl ?_
       obtain⟨O,C,h⟩:=bj h
       refine dq (v:=.string O) (vs:=[.int .i32 a]) rfl dc rfl rfl rfl E8 (GM C) (ac 1 rfl (jr rfl dc rfl (mf bg an) (aO rfl lf (ac 1 rfl (az ?_)))))
       refine bG rfl h (fun h=>?_) (fun h=>?_)
       ·
        refine ct (ac 2 rfl (fX rfl dc rfl (cf sR rfl dc rfl (show _=0 from rfl) (bF (k:=0) lA rfl dc rfl rfl rfl (ac 1 rfl (jr rfl dc rfl (mf bg an) ?_))))))
        refine gl (cs:=[.string (af a)]) (te:=9) (ps:=[(0,.tmp 33)]) rfl dc rfl (fun _=>by kernel_rfl) (fun Y=>?_)
        obtain⟨H,h⟩:=bC h
        refine iT (k:=1) (k2:=6) (ys:=[af a]) aD nV ga oc rfl dc rfl rfl rfl rfl rfl rfl H (fun V=>?_)
        refine jd (k:=1) rfl (fun x I=>?_)
        subst I
        refine fX rfl dc rfl (cf sR rfl dc rfl (show _=0 from rfl) ?_)
        refine ef (k:=0) (l':=[x.v,.map (some p),.map (some i),.map (some o),.slice none 0 0]) qS rfl rfl rfl rfl rfl (fun _ _=>rfl) rfl ?_
        refine bU (cw ?_)
        exact bx (q++[af a],x) h rfl (aT rfl) (aH [0,1,2,3,4] kr rfl)
       refine bH (cw ?_)
       exact bx (q,g) h rfl (aT rfl) (aH [0,1,2,3,4] kr rfl)
      refine ac 6 rfl (az (eQ rfl (bH (cw ?_))))
      exact bx (q,g) h rfl (aT rfl) (aH [0,1,2,3,4] kr rfl)
     refine ac 12 rfl (az ?_)
     refine eQ rfl (bH (cw ?_))
     exact bx (q,g) h rfl (aT rfl) (aH [0,1,2,3,4] kr rfl)
    rintro⟨P,L⟩ h
    rw[E] at h
    refine ct (ac 1 rfl ?_)
    obtain⟨G,h⟩:=bC h
    refine aO rfl (dN (r:=a+1) (IntWalk.i32_in _ G)) (ac 1 rfl (bU ?_))
    subst j
    exact ff (z,P,a+1,L) h (av _) rfl (aT rfl) (aH [0,1,2,3,4] kr rfl)
   refine dZ (cA (cA (ed ?_)))
   exact bx (q,y,g,p,i,o) h rfl (aT rfl) (aH [0,1,2,3,4] kr rfl)
 rintro⟨o1,b1,M,U,T,S⟩ h
 rw[F] at h
 refine aC (ac 1 rfl (tN (enc:=gR) (e:=9) (size:=1) ?_))
 obtain⟨t,B,h⟩:=bj h
 refine fY (vs:=[zP b1]) rfl dc rfl rfl rfl E9 (HD (bo1:=b1) (o1:=(⟨o1,([]:List (ab×Int)),([]:List (ab×List ab)),([]:List (ab×Bool)),([]:List ab)⟩:cK)) (o1_h0:=M) (o1_h1:=(⟨some ⟨U,0,none⟩,0,0⟩:Hd)) (o1_h2:=(⟨some ⟨T,0,none⟩,0,0⟩:Hd)) (o1_h3:=(⟨some ⟨S,0,none⟩,0,0⟩:Hd)) (o1_h4:=Hd.nil) B) (aH [0,1,2,3,4,5] kr rfl) ?_
 rintro⟨m,l,f,d,c⟩
 refine mj (L':=[cells b1 [m.v,.map (some (aV l)),.map (some (aV f)),.map (some (aV d)),c.v] 72,bo m.v t.units,cq (fun n:ab=>aa n) (fun n:Int=>ax .i64 n) (aV l) t.place,dh (aV f) t.fors,cq (fun n:ab=>aa n) (fun n:Bool=>am n) (aV d) t.skips,bo c.v t.lines]) (aH [6,7,8,9,10,11] kr rfl) ?_
 refine cv (ac 2 rfl (az (bI ?_)))
 cases h
 exact eO (rs:=[.tmp 0]) (b1,m,l,f,d,c) (.inl rfl) results28 (.cons (.tmp rfl) .nil) rfl (aH [0,1,2,3,4,5] kr rfl)
def zdS (j2:Option (List ab)) (ag1:ab→Option (List ab)) (x3:ab):Option (List ab) := aU (decide ((0:Int)<(x3.size:Int))) ( aY (False) <| aY (0≤(0:Int)∧(0:Int)≤0∧(0:Int)≤(x3.size:Int)) <| rM (c7 x3 0 0) <| aY (0≤(0:Int)∧(0:Int)≤(x3.size:Int)∧((x3.size:Int):Int)≤(x3.size:Int)) <| ag1 (c7 x3 0 (x3.size:Int))
) ( j2
)
def zcl (c0:ab) (c2:Int) (j3:ab→Option (List ab)) (ag2:ab→Option (List ab)) (x7:ab):Option (List ab) := aY (c0=⟨#[10]⟩) <| aU (decide (((bi x7.data.toList 10):Int)<0)) ( j3 x7
) ( aY (cR ((bi x7.data.toList 10)+c2)) <| aY (0≤(0:Int)∧(0:Int)≤((bi x7.data.toList 10)+c2)∧((bi x7.data.toList 10)+c2:Int)≤(x7.size:Int)) <| rM (c7 x7 0 ((bi x7.data.toList 10)+c2)) <| aY (cR ((bi x7.data.toList 10)+(c0.size:Int))) <| aY (0≤((bi x7.data.toList 10)+(c0.size:Int):Int)∧((bi x7.data.toList 10)+(c0.size:Int):Int)≤(x7.size:Int)∧((x7.size:Int):Int)≤(x7.size:Int)) <| ag2 (c7 x7 ((bi x7.data.toList 10)+(c0.size:Int)) (x7.size:Int))
)
def za (c0:ab) (c1:ab) (c2:Int):Option (List ab) := cJ (fun (j1:Option (List ab))=> aU (((c0.size:Int):Int)==0) ( cJ (fun (j2:Option (List ab))=> zaI (fun _=>none) (zdS j2) zbH c1
) ( some []
)
) ( j1
)
) ( cJ (fun (j3:ab→Option (List ab))=> zaI (fun _=>none) (zcl c0 c2 j3) zbH c1
) (fun (x4:ab)=> rM x4 <| some []
)
)
theorem Pa {e:Nat} {c0:ab} {a:Nat} {c1:ab} {d:Nat} {n:Int} {xs:(List ab)} (h:za c0 c1 n=some xs):pD prog 118 [zP e,zP a,zP d] (fun q:ab=>[.string q]) xs [cells e [.string c0] 9,cells a [.string c1] 9,cells d [zI n] 3]:=by
 unfold za at h
 refine pD.intro func118 rfl ntmps118 (by simp) ?_
 intro l w0 K I X  hy
 obtain⟨r0,B⟩:∃r,xs=[]++r:=⟨xs,rfl⟩
 have U:xs=r0:=B
 rw[U] at h
 obtain⟨j1,Y,h⟩:=cP h
 refine c8 (β:=Unit) 0 rfl (fun b=>j1=some r0) (fun b=>[]) (fun b=>[(0,.func (.yield l) #[] #[]),(1,zP e),(2,zP a),(3,zP d)]) (fun b=>[I ([]:List ab),cells e [.string c0] 9,cells a [.string c1] 9,cells d [zI n] 3]) (fun cut=>?_) ?_
 ·
  refine cut (aC (bF (k:=1) ea rfl dc rfl rfl rfl (ly rfl dc rfl an (aO rfl eE (az ?_)))))
  refine bG rfl h (fun h=>?_) (fun h=>?_)
  ·
   obtain⟨M,W,h⟩:=cP h
   refine c8 (β:=(List ab)×(List ab)) 0 rfl (fun b=>M=some b.2∧xs=b.1++b.2) (fun b=>[]) (fun b=>[]) (fun b=>[I b.1]) (fun cut=>?_) ?_
   ·
    refine cut (cy ?_)
    refine fh (β:=Nat×ab×(List ab)×(List ab)) (fun b=>zaI (fun _=>none) (zdS M) b.1 b.2.1=some b.2.2.2∧xs=b.2.2.1++b.2.2.2) (fun b=>[]) (fun b=>[(0,.func (.yield l) #[] #[]),(2,zP a)]) (fun b=>[I b.2.2.1,cells a [.string b.2.1] 9]) (fun b=>b.1) (zbH,c1,([]:List ab),r0) ⟨h,B⟩ rfl (aT rfl) (aH [0,2] kr rfl) ?_
    rintro⟨J,o,g,D⟩ ⟨h,E⟩
    cases J with
    | zero=>exact fa h
    | succ J=>
     obtain⟨a6,z⟩:∃ag,ag=zaI (fun _=>none) (zdS M) J:=⟨_,rfl⟩
     have h:zdS M a6 o=some D:=by rw[z];exact h
     unfold zdS at h
     refine cm (aC (bF (k:=1) ea rfl dc rfl rfl rfl (ly rfl dc rfl an (aO rfl lK (az ?_)))))
     refine bG rfl h (fun h=>?_) (fun h=>?_)
     ·
      refine bH (cz (cy (aC (bF (k:=1) ea rfl dc rfl rfl rfl ?_))))
      obtain⟨a4,h⟩:=bC h
      refine dq (v:=.tuple #[.int .i32 0,zI 0]) (vs:=[.string o]) rfl dc rfl rfl rfl Lx (a4).elim (ac 1 rfl (fS rfl dc rfl rfl (fS rfl dc rfl rfl (ac 2 rfl (az (cm (aC (ac 1 rfl (bF (k:=1) ea rfl dc rfl rfl rfl (ac 1 rfl ?_))))))))))
      obtain⟨a3,h⟩:=bC h
      refine iz rfl dc rfl rfl rfl (jZ (i:=0) (j:=0) an (.inl ⟨rfl,rfl⟩) (.inr rfl) a3) ?_
      obtain⟨w,T,h⟩:=sO h
      have A:xs=g++(c7 o 0 0)::w:=by rw[E,T]
      refine sG hy rfl dc rfl A rfl (k:=0) rfl ?_ ?_
      ·
       have P:xs=(g++[c7 o 0 0])++w:=by rw[A];simp
       refine jq rfl dc rfl js (az (eQ rfl (bH (cz (ct (bF (k:=1) ea rfl dc rfl rfl rfl (ac 1 rfl ?_)))))))
       obtain⟨a2,h⟩:=bC h
       refine iz rfl dc rfl rfl rfl (jZ (i:=0) (j:=(o.size:Int)) an (.inr rfl) (.inl ⟨rfl,rfl⟩) a2) ?_
       refine ef (k:=1) (l':=[.string (c7 o 0 (o.size:Int))]) gm rfl rfl rfl rfl rfl (fun _ _=>rfl) rfl ?_
       refine bU (cw ?_)
       subst z
       exact ff (J,c7 o 0 (o.size:Int),g++[c7 o 0 0],w) ⟨h,P⟩ (av _) rfl (aT rfl) (aH [0,1] kr rfl)
      refine jq rfl dc rfl js (az (iH rfl (bI (bT (cE (bT (cE (bT (bT ?_)))))))))
      exact sI (ds:=[]) g (c7 o 0 0) w A (.inl rfl) ad mb (aH [0] kr rfl)
     refine dZ (cA (cA (ed ?_)))
     exact bx (g,D) ⟨h,E⟩ rfl (qG) (aH [0] kr rfl)
   rintro⟨a7,a9⟩ ⟨h,Q⟩
   rw[W] at h
   refine bI (bT ?_)
   cases h
   exact tI (ds:=[]) (.inl rfl) ad mb (aL I (Q.trans (aQ _))) (aH [0] kr rfl)
  refine bH ?_
  exact bx () h rfl (aT rfl) (aH [0,1,2,3] kr rfl)
 rintro _ h
 rw[Y] at h
 obtain⟨L,V,h⟩:=cP h
 refine c8 (β:=ab×(List ab)×(List ab)) 0 rfl (fun b=>L b.1=some b.2.2∧xs=b.2.1++b.2.2) (fun b=>[]) (fun b=>[(0,.func (.yield l) #[] #[]),(2,zP a)]) (fun b=>[I b.2.1,cells a [.string b.1] 9]) (fun cut=>?_) ?_
 ·
  refine cut (cy ?_)
  refine fh (β:=Nat×ab×(List ab)×(List ab)) (fun b=>zaI (fun _=>none) (zcl c0 n L) b.1 b.2.1=some b.2.2.2∧xs=b.2.2.1++b.2.2.2) (fun b=>[]) (fun b=>[(0,.func (.yield l) #[] #[]),(1,zP e),(2,zP a),(3,zP d)]) (fun b=>[I b.2.2.1,cells e [.string c0] 9,cells a [.string b.2.1] 9,cells d [zI n] 3]) (fun b=>b.1) (zbH,c1,([]:List ab),r0) ⟨h,B⟩ rfl (aT rfl) (aH [0,1,2,3] kr rfl) ?_
  rintro⟨H,c,f,C⟩ ⟨h,x⟩
  cases H with
  | zero=>exact fa h
  | succ H=>
   obtain⟨a5,y⟩:∃ag,ag=zaI (fun _=>none) (zcl c0 n L) H:=⟨_,rfl⟩
   have h:zcl c0 n L a5 c=some C:=by rw[y];exact h
   unfold zcl at h
   refine cy (aC (bF (k:=2) ea rfl dc rfl rfl rfl (bF (k:=1) ea rfl dc rfl rfl rfl ?_)))
   obtain⟨a1,h⟩:=bC h
   refine dq (v:=zI (bi c.data.toList 10)) (vs:=[.string c,.string c0]) rfl dc rfl rfl rfl Ly (MI c a1) (ac 1 rfl (az (cm (aC (ac 1 rfl (aO rfl ei (az ?_)))))))
   refine bG rfl h (fun h=>?_) (fun h=>?_)
   ·
    refine dZ (cA (vz dc (cA (ed ?_))))
    exact bx (c,f,C) ⟨h,x⟩ rfl (aT rfl) (aH [0,2] kr rfl)
   refine bH (cz (aC (bF (k:=2) ea rfl dc rfl rfl rfl (ac 1 rfl (bF (k:=3) dQ rfl dc rfl rfl rfl ?_)))))
   obtain⟨a0,h⟩:=bC h
   refine aO rfl (dN (r:=(bi c.data.toList 10)+n) (ai _ a0)) ?_
   obtain⟨aw,h⟩:=bC h
   refine iz rfl dc rfl rfl rfl (jZ (i:=0) (j:=(bi c.data.toList 10)+n) an (.inl ⟨rfl,rfl⟩) (.inr rfl) aw) (ac 1 rfl (az (cm (aC (ac 2 rfl ?_)))))
   obtain⟨m,S,h⟩:=sO h
   have t:xs=f++(c7 c 0 ((bi c.data.toList 10)+n))::m:=by rw[x,S]
   refine sG hy rfl dc rfl t rfl (k:=0) rfl ?_ ?_
   ·
    have G:xs=(f++[c7 c 0 ((bi c.data.toList 10)+n)])++m:=by rw[t];simp
    refine jq rfl dc rfl js (az (eQ rfl (bH (cz (ct (bF (k:=2) ea rfl dc rfl rfl rfl (ac 1 rfl (bF (k:=1) ea rfl dc rfl rfl rfl (ly rfl dc rfl an ?_)))))))))
    obtain⟨ao,h⟩:=bC h
    refine aO rfl (dN (r:=(bi c.data.toList 10)+(c0.size:Int)) (ai _ ao)) ?_
    obtain⟨Z,h⟩:=bC h
    refine iz rfl dc rfl rfl rfl (jZ (i:=(bi c.data.toList 10)+(c0.size:Int)) (j:=(c.size:Int)) an (.inr rfl) (.inl ⟨rfl,rfl⟩) Z) ?_
    refine ef (k:=2) (l':=[.string (c7 c ((bi c.data.toList 10)+(c0.size:Int)) (c.size:Int))]) gm rfl rfl rfl rfl rfl (fun _ _=>rfl) rfl ?_
    refine bU (cw ?_)
    subst y
    exact ff (H,c7 c ((bi c.data.toList 10)+(c0.size:Int)) (c.size:Int),f++[c7 c 0 ((bi c.data.toList 10)+n)],m) ⟨h,G⟩ (av _) rfl (aT rfl) (aH [0,1,2,3] kr rfl)
   refine jq rfl dc rfl js (az (iH rfl (bI (bT (cE (bT (cE (bT ?_))))))))
   exact sI (ds:=[]) f (c7 c 0 ((bi c.data.toList 10)+n)) m t (.inl rfl) ad mb (aH [0] kr rfl)
 rintro⟨N,u,a8⟩ ⟨h,O⟩
 rw[V] at h
 refine ct (ac 1 rfl (bF (k:=1) ea rfl dc rfl rfl rfl ?_))
 obtain⟨p,R,h⟩:=sO h
 have s:xs=u++N::p:=by rw[O,R]
 refine sG hy rfl dc rfl s rfl (k:=0) rfl ?_ ?_
 ·
  have F:xs=(u++[N])++p:=by rw[s];simp
  refine bU ?_
  cases h
  exact tI (ds:=[]) (.inr rfl) ad mb (aL I (F.trans (aQ _))) (aH [0] kr rfl)
 refine bU ?_
 exact sI (ds:=[]) u N p s (.inr rfl) ad mb (aH [0] kr rfl)
def Ci (s1:ab) (sep1:ab) (sepSave1:Int):Option (ab×ab×Int) := some (sep1,s1,sepSave1)
theorem Pb {d:ab} {c:ab} {a:Int} {r:(ab×ab×Int)} (h:Ci d c a=some r):Fn prog 67 [.string d,.string c,zI a] [] (fun b:Nat×Nat×Nat=>.func (.func 118) #[] #[zP b.1,zP b.2.1,zP b.2.2]) (fun b=>[cells b.1 [.string r.1] 9,cells b.2.1 [.string r.2.1] 9,cells b.2.2 [zI r.2.2] 3]):=by
 unfold Ci at h
 refine _root_.Go.Proofs.YtifpjbgnikjglaaGreatDoor.Fn.intro func67 rfl ntmps67 (by simp) ?_
 intro w0 K
 refine aC ?_
 refine jy rfl dc rfl (fun b1=>?_)
 refine jy rfl dc rfl (fun f=>?_)
 refine jy rfl dc rfl (fun e=>?_)
 refine ac 1 rfl (cv (tF (x1:=[]) (x2:=[.tmp 4,.tmp 3,.tmp 5]) rfl dc rfl rfl (ac 1 rfl (az (bI ?_)))))
 cases h
 exact eO (rs:=[.tmp 6]) (f,b1,e) (.inl rfl) results67 (.cons (.tmp rfl) .nil) rfl (aH [1,0,2] kr rfl)
def Cj (s1:ab) (sep1:ab):Option (ab×ab×Int) := aX (Ci s1 sep1 0) fun (r1:(ab×ab×Int))=> some (r1.1,r1.2.1,r1.2.2)
theorem Pd {c:ab} {a:ab} {r:(ab×ab×Int)} (h:Cj c a=some r):Fn prog 29 [.string c,.string a] [] (fun b:Nat×Nat×Nat=>.func (.func 118) #[] #[zP b.1,zP b.2.1,zP b.2.2]) (fun b=>[cells b.1 [.string r.1] 9,cells b.2.1 [.string r.2.1] 9,cells b.2.2 [zI r.2.2] 3]):=by
 unfold Cj at h
 refine _root_.Go.Proofs.YtifpjbgnikjglaaGreatDoor.Fn.intro func29 rfl ntmps29 (by simp) ?_
 intro w0 K
 refine aC (ac 1 rfl (cv (ac 2 rfl ?_)))
 obtain⟨g,d,h⟩:=bj h
 refine fY (vs:=[.string c,.string a,zI 0]) rfl dc rfl rfl rfl K4 (Pb d) ad ?_
 rintro⟨b1,f,e⟩
 refine ac 1 rfl (az (bI ?_))
 cases h
 exact eO (rs:=[.tmp 4]) (b1,f,e) (.inl rfl) results29 (.cons (.tmp rfl) .nil) rfl (aH [0,1,2] kr rfl)
def zbw (x1:cX) (ag1:(List cX)→Option (List cX)) (s5:List cX):Option (List cX) := aY (s5.length+1≤2147483648) <| ag1 (s5++[x1])
def Cl (xseq10:ab):Option (List cX) := cJ (fun (j1:(List cX)→Option (List cX))=> aX (ri xseq10) fun (its1:(List cX))=> cJ (fun (dn1:(List cX)→Option (List cX))=> zcM dn1 (zbw) its1 ([]:List cX)
) (fun (s5:List cX)=> j1 s5
)
) (fun (s2:List cX)=> some s2
)
theorem Pe {bseq10:Nat} {d:ab} {r:(List cX)} (h:Cl d=some r):Fn prog 161 [.slice none 0 0,.func (.func 154) #[] #[zP bseq10]] [cells bseq10 [.string d] 9] (fun v0:Value=>v0) (fun v0=>[cells bseq10 [.string d] 9,om v0 r]):=by
 unfold Cl at h
 refine _root_.Go.Proofs.YtifpjbgnikjglaaGreatDoor.Fn.intro func161 rfl ntmps161 (by simp) ?_
 intro w0 K
 refine qH ?_
 obtain⟨M,B,h⟩:=cP h
 refine c8 (β:=(List cX)×Nat×Value×(List Nat)) 1 rfl (fun b=>M b.1=some r) (fun b=>mQ b.2.2.2) (fun b=>[(2,zP b.2.1)]) (fun b=>[cells bseq10 [.string d] 9,cells b.2.1 [b.2.2.1] 129,om b.2.2.1 b.1,zgL ((b.2.2.2:List Nat).map eZ)]) (fun cut=>?_) ?_
 ·
  refine aC ?_
  refine IY (fun _ _=>rfl) rfl dc rfl (fun v=>?_)
  refine ac 1 rfl (az (cut (aC (ac 1 rfl (az (cy ?_))))))
  obtain⟨s,A,h⟩:=bj h
  refine nf (enc:=nC) (e:=132) (size:=4) ?_
  obtain⟨o,u,h⟩:=cP h
  refine sJ (α:=cX) (β:=(List cX)×Value) (γ:=Unit) (δ:=Nat) (ps:=[7]) Ro.nil rfl wi (xa A) (fun pre b=>∀post,s=pre++post→zcM o (zbw) post b.1=some r) (fun pre b=>[cells v [b.2] 129,om b.2 b.1]) (fun c pre g=>False) (fun c pre g=>[]) (fun pre x b j=>[(2,zP v),(4,.slice none 0 0),(6,.func (.func 154) #[] #[zP bseq10]),(5,zP j)]) (fun pre x b j=>[cells v [b.2] 129,om b.2 b.1,cells j [zI x.At,zI x.Width,.int .i32 x.Rune,.bool x.Broken] 132]) (([]:List cX),(.slice none 0 0)) (fun post e=>by rw[bt] at e;subst e;exact h) (aH [2,3] kr rfl) ⟨.inl ⟨0,rfl⟩,trivial⟩ (fun _=>rfl) dc ?_ ?_ ?_ ?_
  ·
   rintro J I pre x1 post ⟨n,q⟩ G T l t z f
   refine ct ?_
   refine eN og rfl dc (fun S=>?_)
   refine eH (k:=2) (vs:=[zI x1.At,zI x1.Width,.int .i32 x1.Rune,.bool x1.Broken]) (l':=[zI x1.At,zI x1.Width,.int .i32 x1.Rune,.bool x1.Broken]) jP rfl rfl rfl rfl rfl (show _≤_ by simp) rfl rfl ?_
   refine bU ?_
   exact fun a w P O=>⟨S,(aT rfl) _ _ _ P,O.weaken (aH [0,1,2] kr rfl)⟩
  ·
   rintro J I pre x1 i ⟨n,q⟩ L G T l t z f
   have h:=f (x1::i) l
   obtain⟨E,m⟩:∃ag,ag=zcM o (zbw) i:=⟨_,rfl⟩
   have h:zbw x1 E n=some r:=by have h2:=h;rw[nz,← m] at h2;exact h2
   unfold zbw at h
   refine cy (ct (bF (k:=0) EV rfl dc rfl rfl rfl (gM (k:=2) (cs:=[zI x1.At,zI x1.Width,.int .i32 x1.Rune,.bool x1.Broken]) kW rfl dc rfl rfl rfl rfl ?_)))
   refine gl (cs:=[zI x1.At,zI x1.Width,.int .i32 x1.Rune,.bool x1.Broken]) (te:=132) (ps:=[(0,.tmp 9)]) rfl dc rfl (fun _=>by kernel_rfl) (fun V=>?_)
   obtain⟨C,h⟩:=bC h
   refine iT (k:=1) (k2:=3) (ys:=[x1]) underlying129 EW yu Fz rfl dc rfl rfl rfl rfl rfl rfl C (fun F=>?_)
   refine ef (k:=0) (l':=[F]) KF rfl rfl rfl rfl rfl (fun _ h=>Jd h (k:=1) rfl) rfl ?_
   refine bU (cw ?_)
   exact kP (n++[x1],F) (fun y e2=>by have R:=kU l e2;subst R;subst m;exact h) (aH [0,1] kr rfl)
  ·
   rintro p ⟨n,q⟩ f
   have h:o n=some r:=f [] (aQ _).symm
   rw[u] at h
   show TX _ _ _ _ _ _ _ [cells bseq10 [.string d] 9,zgL ((([]:List Nat):List Nat).map eZ),cn,cn,cells v [q] 129,om q n,eZ p]
   refine pY (k:=6) (j:=1) rfl rfl dc ?_
   refine cw ?_
   exact bx (n,v,q,p::([]:List Nat)) h rfl (aT rfl) (aH [0,4,5,1] kr rfl)
  rintro p c pre x1 post g N Q
  exact (show False from Q).elim
 rintro⟨U,b1,H,D⟩ h
 rw[B] at h
 refine aC (bF (k:=1) EV rfl dc rfl rfl rfl (ac 1 rfl (az (bI ?_))))
 cases h
 exact lS (rs:=[.tmp 4]) D H (.inl rfl) (lR (k:=3) rfl) results161 (.cons (.tmp rfl) .nil) rfl (aH [0,2] kr rfl)
def Cm (xseq10:ab):Option (List cX) := aX (Cl xseq10) fun (r1:(List cX))=> some r1
theorem Pf {bseq10:Nat} {a:ab} {r:(List cX)} (h:Cm a=some r):Fn prog 135 [.func (.func 154) #[] #[zP bseq10]] [cells bseq10 [.string a] 9] (fun v0:Value=>v0) (fun v0=>[cells bseq10 [.string a] 9,om v0 r]):=by
 unfold Cm at h
 refine _root_.Go.Proofs.YtifpjbgnikjglaaGreatDoor.Fn.intro func135 rfl ntmps135 (by simp) ?_
 intro w0 K
 refine aC (ac 1 rfl (cv (ac 1 rfl ?_)))
 obtain⟨d,b,h⟩:=bj h
 refine fY (vs:=[.slice none 0 0,.func (.func 154) #[] #[zP bseq10]]) rfl dc rfl rfl rfl LQ (Pe (bseq10:=bseq10) b) (aH [0] kr rfl) ?_
 rintro c
 refine ac 1 rfl (az (bI ?_))
 cases h
 exact eO (rs:=[.tmp 2]) c (.inl rfl) results135 (.cons (.tmp rfl) .nil) rfl (aH [1,2] kr rfl)
def zgr (vals1:List Int) (j1:Option Int) (ag1:Int→Option Int) (x3:Int):Option Int := aU (decide ((x3:Int)<(vals1.length:Int))) ( aX (zcy vals1 x3) fun (q1:Int)=> aU ((q1:Int) != 0) ( some q1
) ( aY (cR (x3+1)) <| ag1 (x3+1)
)
) ( j1
)
def Cn (vals1:List Int):Option Int := cJ (fun (j1:Option Int)=> zaI (fun _=>none) (zgr vals1 j1) zbH 0
) ( some 0
)
theorem Pg {f d:Value} {g:List Int} {e:Nat} {a:List Int} (c:Vw f g 1 e d a) {r:Int} (h:Cn a=some r):iv prog 93 [d] [ji (kn (.i64)) 1 f e g] [] (fun _:Unit=>(zI r)) (fun _=>[]):=by
 unfold Cn at h
 refine iv.intro func93 rfl ntmps93 (by simp) ?_
 intro w0 K s
 obtain⟨p,t,h⟩:=cP h
 refine c8 (β:=Unit) 2 rfl (fun b=>p=some r) (fun b=>[]) (fun b=>[(3,zI 0)]) (fun b=>[]) (fun cut=>?_) ?_
 ·
  refine aC (ac 1 rfl (cv (ac 1 rfl (az (cut (aC (ac 1 rfl ?_)))))))
  refine iO c rfl dc rfl underlying51 (ac 1 rfl (az (cy ?_)))
  refine fh (β:=Nat×Int) (fun b=>zaI (fun _=>none) (zgr a p) b.1 b.2=some r) (fun b=>[]) (fun b=>[(3,zI 0),(6,d),(7,zI (a.length:Int)),(8,zI b.2)]) (fun b=>[]) (fun b=>b.1) (zbH,0) h rfl (aT rfl) ad ?_
  rintro⟨o,m⟩ h
  cases o with
  | zero=>exact fa h
  | succ o=>
   obtain⟨v,k⟩:∃ag,ag=zaI (fun _=>none) (zgr a p) o:=⟨_,rfl⟩
   have h:zgr a p v m=some r:=by rw[k];exact h
   unfold zgr at h
   refine aC (aO rfl ei (az (cm ?_)))
   refine bG rfl h (fun h=>?_) (fun h=>?_)
   ·
    refine bH (cz (cm (cy (aC ?_))))
    obtain⟨q1,l,h⟩:=bj h
    refine gq c l underlying51 jj rfl dc rfl rfl rfl (kH (n:=e+(m:Int).toNat) (j:=0) (i:=0) (q:=q1) s rfl (by omega) dQ rfl dc rfl (cI c l) rfl rfl (ac 1 rfl (cv (ac 2 rfl (aO rfl nc (az ?_))))))
    refine bG rfl h (fun h=>?_) (fun h=>?_)
    ·
     refine aC (ac 2 rfl (az (bI (cE (bT (bT (cE (bT ?_))))))))
     cases h
     exact dk 2 results93
    refine bH (cw (cz (ct ?_)))
    obtain⟨u,h⟩:=bC h
    refine aO rfl (dN (r:=m+1) (ai _ u)) (ac 1 rfl (bU ?_))
    subst k
    exact ff (o,m+1) h (av _) rfl (aT rfl) ad
   refine dZ (cA (cA (ed ?_)))
   exact bx () h rfl (aT rfl) ad
 rintro _ h
 rw[t] at h
 refine aC (ac 2 rfl (az (bI ?_)))
 cases h
 exact dk 2 results93
def zb (x1:Int):Option Bool := some ((x1:Int) != x1)
theorem HE {x1:Int} {r:Bool} (h:zb x1=some r):dO prog 138 [zI x1] (.bool r):=by
 unfold zb at h
 refine dO.intro func138 rfl ntmps138 (by simp) ?_
 intro w0 K
 refine aC (ac 1 rfl (cv (ac 2 rfl (aO rfl nc (ac 1 rfl (az (bI ?_)))))))
 cases h
 exact dk 2 results138
def Co (x1:Int) (y1:Int):Option Int := aX (zb x1) fun (r1:Bool)=> aX (zb y1) fun (r2:Bool)=> aU (r1) ( aU (r2) ( some 0
) ( some (-1)
)
) ( aU (r2) ( some 1
) ( aU (decide ((x1:Int)<y1)) ( some (-1)
) ( aU (decide ((y1:Int)<x1)) ( some 1
) ( some 0
)
)
)
)
theorem Ph {x1:Int} {a:Int} {r:Int} (h:Co x1 a=some r):dO prog 95 [zI x1,zI a] (zI r):=by
 unfold Co at h
 refine dO.intro func95 rfl ntmps95 (by simp) ?_
 intro w0 K
 refine aC (ac 1 rfl (cv (ac 1 rfl ?_)))
 obtain⟨e,c,h⟩:=bj h
 refine dq (v:=.bool e) (vs:=[zI x1]) rfl dc rfl rfl rfl Fj (HE c) (ac 1 rfl (cv (ac 1 rfl ?_)))
 obtain⟨d,b,h⟩:=bj h
 refine dq (v:=.bool d) (vs:=[zI a]) rfl dc rfl rfl rfl Fj (HE b) (ac 1 rfl (az (cm (aC (ac 1 rfl (az ?_))))))
 refine bG rfl h (fun h=>?_) (fun h=>?_)
 ·
  refine cm (aC (ac 1 rfl (az ?_)))
  refine bG rfl h (fun h=>?_) (fun h=>?_)
  ·
   refine aC (ac 1 rfl (az (bI (bT (bT ?_)))))
   cases h
   exact dk 4 lx
  refine bH (cz (aC (ac 1 rfl (az (bI (bT ?_))))))
  cases h
  exact dk 4 lx
 refine bH (cz (cm (aC (ac 1 rfl (az ?_)))))
 refine bG rfl h (fun h=>?_) (fun h=>?_)
 ·
  refine aC (ac 1 rfl (az (bI (bT ?_))))
  cases h
  exact dk 4 lx
 refine bH (cz (cm (aC (ac 2 rfl (aO rfl ei (az ?_))))))
 refine bG rfl h (fun h=>?_) (fun h=>?_)
 ·
  refine aC (ac 1 rfl (az (bI (bT ?_))))
  cases h
  exact dk 4 lx
 refine bH (cz (cm (aC (ac 2 rfl (aO rfl lK (az ?_))))))
 refine bG rfl h (fun h=>?_) (fun h=>?_)
 ·
  refine aC (ac 1 rfl (az (bI (bT ?_))))
  cases h
  exact dk 4 lx
 refine bH (cz (aC (ac 1 rfl (az (bI ?_)))))
 cases h
 exact dk 4 lx
end Go.Proofs.YtifpjbgnikjglaaGreatDoor
