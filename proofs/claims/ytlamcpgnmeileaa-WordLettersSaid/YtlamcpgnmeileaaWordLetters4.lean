/-
  Texts laid together: LfG, LfP, LfT, Qt, Qa, Qb, Qc, Qd, LfR, Qr, LfU, Qe, LfW2, LfS, Qf, Qg, Qh, Qk, LfW0, LfW1, LfSa, LfFa, Qi, LfG2, LfW3, LfSg, LfF2, Qj, LfL, Qw, LfLk, Qs, Qp, Qu, Qz, LfSt, LfFt, Qn. Nothing is assumed.
-/
import Derived.Test.YtlamcpgnmeileaaWordLetters3
import Derived.Test.YtlamcpgnmeileaaWordLetters2
namespace Go.Proofs.Ytlamcpgnmeileaa
open Go.RowKit Go.Lib
set_option linter.unusedVariables false
set_option linter.unusedSimpArgs false
def str_f9f7e721 : ByteArray := ⟨(List.toArray (List.append [195, 159, 115, 115, 32, 195, 166, 97, 101, 32, 195, 184, 111, 32, 195, 176, 100, 32, 195, 190, 116, 104, 32, 196, 145, 100, 32, 196, 167, 104, 32, 196, 177, 105, 32, 196, 179, 105, 106] [32, 196, 184, 113, 32, 197, 128, 108, 32, 197, 130, 108, 32, 197, 137, 110, 32, 197, 139, 110, 103, 32, 197, 147, 111, 101, 32, 197, 167, 116, 32, 197, 191, 115, 32, 207, 130, 207, 131, 32]))⟩
def fold_Low_v (r1 : Int) : Option Bool := joinK (fun (j1 : Bool → Option Bool) => bcond (decide ((790 : Int) ≤ r1)) ( bcond (decide ((r1 : Int) ≤ 793)) ( j1 (decide ((r1 : Int) ≤ 793))
) ( bcond (decide ((796 : Int) ≤ r1)) ( bcond (decide ((r1 : Int) ≤ 800)) ( j1 (decide ((r1 : Int) ≤ 800))
) ( bcond (decide ((803 : Int) ≤ r1)) ( bcond (decide ((r1 : Int) ≤ 819)) ( j1 (decide ((r1 : Int) ≤ 819))
) ( bcond (decide ((825 : Int) ≤ r1)) ( bcond (decide ((r1 : Int) ≤ 828)) ( j1 (decide ((r1 : Int) ≤ 828))
) ( bcond (decide ((837 : Int) ≤ r1)) ( j1 (decide ((r1 : Int) ≤ 841))
) ( j1 false
)
)
) ( bcond (decide ((837 : Int) ≤ r1)) ( j1 (decide ((r1 : Int) ≤ 841))
) ( j1 false
)
)
)
) ( bcond (decide ((825 : Int) ≤ r1)) ( bcond (decide ((r1 : Int) ≤ 828)) ( j1 (decide ((r1 : Int) ≤ 828))
) ( bcond (decide ((837 : Int) ≤ r1)) ( j1 (decide ((r1 : Int) ≤ 841))
) ( j1 false
)
)
) ( bcond (decide ((837 : Int) ≤ r1)) ( j1 (decide ((r1 : Int) ≤ 841))
) ( j1 false
)
)
)
)
) ( bcond (decide ((803 : Int) ≤ r1)) ( bcond (decide ((r1 : Int) ≤ 819)) ( j1 (decide ((r1 : Int) ≤ 819))
) ( bcond (decide ((825 : Int) ≤ r1)) ( bcond (decide ((r1 : Int) ≤ 828)) ( j1 (decide ((r1 : Int) ≤ 828))
) ( bcond (decide ((837 : Int) ≤ r1)) ( j1 (decide ((r1 : Int) ≤ 841))
) ( j1 false
)
)
) ( bcond (decide ((837 : Int) ≤ r1)) ( j1 (decide ((r1 : Int) ≤ 841))
) ( j1 false
)
)
)
) ( bcond (decide ((825 : Int) ≤ r1)) ( bcond (decide ((r1 : Int) ≤ 828)) ( j1 (decide ((r1 : Int) ≤ 828))
) ( bcond (decide ((837 : Int) ≤ r1)) ( j1 (decide ((r1 : Int) ≤ 841))
) ( j1 false
)
)
) ( bcond (decide ((837 : Int) ≤ r1)) ( j1 (decide ((r1 : Int) ≤ 841))
) ( j1 false
)
)
)
)
)
) ( bcond (decide ((796 : Int) ≤ r1)) ( bcond (decide ((r1 : Int) ≤ 800)) ( j1 (decide ((r1 : Int) ≤ 800))
) ( bcond (decide ((803 : Int) ≤ r1)) ( bcond (decide ((r1 : Int) ≤ 819)) ( j1 (decide ((r1 : Int) ≤ 819))
) ( bcond (decide ((825 : Int) ≤ r1)) ( bcond (decide ((r1 : Int) ≤ 828)) ( j1 (decide ((r1 : Int) ≤ 828))
) ( bcond (decide ((837 : Int) ≤ r1)) ( j1 (decide ((r1 : Int) ≤ 841))
) ( j1 false
)
)
) ( bcond (decide ((837 : Int) ≤ r1)) ( j1 (decide ((r1 : Int) ≤ 841))
) ( j1 false
)
)
)
) ( bcond (decide ((825 : Int) ≤ r1)) ( bcond (decide ((r1 : Int) ≤ 828)) ( j1 (decide ((r1 : Int) ≤ 828))
) ( bcond (decide ((837 : Int) ≤ r1)) ( j1 (decide ((r1 : Int) ≤ 841))
) ( j1 false
)
)
) ( bcond (decide ((837 : Int) ≤ r1)) ( j1 (decide ((r1 : Int) ≤ 841))
) ( j1 false
)
)
)
)
) ( bcond (decide ((803 : Int) ≤ r1)) ( bcond (decide ((r1 : Int) ≤ 819)) ( j1 (decide ((r1 : Int) ≤ 819))
) ( bcond (decide ((825 : Int) ≤ r1)) ( bcond (decide ((r1 : Int) ≤ 828)) ( j1 (decide ((r1 : Int) ≤ 828))
) ( bcond (decide ((837 : Int) ≤ r1)) ( j1 (decide ((r1 : Int) ≤ 841))
) ( j1 false
)
)
) ( bcond (decide ((837 : Int) ≤ r1)) ( j1 (decide ((r1 : Int) ≤ 841))
) ( j1 false
)
)
)
) ( bcond (decide ((825 : Int) ≤ r1)) ( bcond (decide ((r1 : Int) ≤ 828)) ( j1 (decide ((r1 : Int) ≤ 828))
) ( bcond (decide ((837 : Int) ≤ r1)) ( j1 (decide ((r1 : Int) ≤ 841))
) ( j1 false
)
)
) ( bcond (decide ((837 : Int) ≤ r1)) ( j1 (decide ((r1 : Int) ≤ 841))
) ( j1 false
)
)
)
)
)
) (fun (x1 : Bool) => bcond (x1) ( some true
) ( joinK (fun (j2 : Bool → Option Bool) => bcond (decide ((845 : Int) ≤ r1)) ( bcond (decide ((r1 : Int) ≤ 846)) ( j2 (decide ((r1 : Int) ≤ 846))
) ( bcond (decide ((851 : Int) ≤ r1)) ( bcond (decide ((r1 : Int) ≤ 854)) ( j2 (decide ((r1 : Int) ≤ 854))
) ( bcond (decide ((857 : Int) ≤ r1)) ( j2 (decide ((r1 : Int) ≤ 858))
) ( j2 false
)
)
) ( bcond (decide ((857 : Int) ≤ r1)) ( j2 (decide ((r1 : Int) ≤ 858))
) ( j2 false
)
)
)
) ( bcond (decide ((851 : Int) ≤ r1)) ( bcond (decide ((r1 : Int) ≤ 854)) ( j2 (decide ((r1 : Int) ≤ 854))
) ( bcond (decide ((857 : Int) ≤ r1)) ( j2 (decide ((r1 : Int) ≤ 858))
) ( j2 false
)
)
) ( bcond (decide ((857 : Int) ≤ r1)) ( j2 (decide ((r1 : Int) ≤ 858))
) ( j2 false
)
)
)
) (fun (x2 : Bool) => bcond (x2) ( some true
) ( some false
)
)
)
)
set_option maxRecDepth 100000 in
set_option maxHeartbeats 4000000 in
theorem fold_Low_fn {r1 : Int} {r : Bool} (h : fold_Low_v r1 = some r) : FnP Try.prog 74 [.int .i32 r1] (.bool r) := by
 unfold fold_Low_v at h
 refine FnP.intro Try.func74 rfl Try.ntmps74 (by simp) ?_
 intro w0 K
 refine TC.seq (TC.region (TO.assign rfl dc rfl (TO.nil (TX.next (TC.seq (TC.block ?_))))))
 obtain ⟨j1, hj1, h⟩ := joinE h
 refine TC.cutN (β := Bool) 0 rfl (fun b => j1 b = some r) (fun b => []) (fun b => [(0, .int .i32 r1), (3, .bool b)]) (fun b => []) (fun cut => ?_) ?_
 ·
  refine cut (TC.seq (TC.region (TO.move rfl dc rfl (TO.bin rfl dc rfl rfl bin_geq (TO.move rfl dc rfl ?_)))))
  refine TO.split (s := 6) rfl (fun hb1 => ?_) (fun hb1 => ?_)
  ·
   have h := condT hb1 h
   refine TO.move rfl dc rfl (TO.bin rfl dc rfl rfl bin_leq (TO.pick (b := true) rfl dc rfl rfl (TO.assign rfl dc rfl (TO.nil (TX.next ?_)))))
   refine TC.condB rfl (fun hb2 => ?_) (fun hb2 => ?_)
   ·
    have h := condT hb2 h
    refine TC.skip ?_
    exact TX.meetD (decide ((r1 : Int) ≤ 793)) h rfl (Sbs.cons rfl (Sbs.cons rfl (Sbs.nil))) Splits.nil
   ·
    have h := condF hb2 h
    refine TC.seq (TC.region (TO.move rfl dc rfl (TO.bin rfl dc rfl rfl bin_geq (TO.move rfl dc rfl ?_))))
    refine TO.split (s := 12) rfl (fun hb3 => ?_) (fun hb3 => ?_)
    ·
     have h := condT hb3 h
     refine TO.move rfl dc rfl (TO.bin rfl dc rfl rfl bin_leq (TO.pick (b := true) rfl dc rfl rfl (TO.assign rfl dc rfl (TO.nil (TX.next ?_)))))
     refine TC.condB rfl (fun hb4 => ?_) (fun hb4 => ?_)
     ·
      have h := condT hb4 h
      refine TC.skip ?_
      exact TX.meetD (decide ((r1 : Int) ≤ 800)) h rfl (Sbs.cons rfl (Sbs.cons rfl (Sbs.nil))) Splits.nil
     ·
      have h := condF hb4 h
      refine TC.seq (TC.region (TO.move rfl dc rfl (TO.bin rfl dc rfl rfl bin_geq (TO.move rfl dc rfl ?_))))
      refine TO.split (s := 18) rfl (fun hb5 => ?_) (fun hb5 => ?_)
      ·
       have h := condT hb5 h
       refine TO.move rfl dc rfl (TO.bin rfl dc rfl rfl bin_leq (TO.pick (b := true) rfl dc rfl rfl (TO.assign rfl dc rfl (TO.nil (TX.next ?_)))))
       refine TC.condB rfl (fun hb6 => ?_) (fun hb6 => ?_)
       ·
        have h := condT hb6 h
        refine TC.skip ?_
        exact TX.meetD (decide ((r1 : Int) ≤ 819)) h rfl (Sbs.cons rfl (Sbs.cons rfl (Sbs.nil))) Splits.nil
       ·
        have h := condF hb6 h
        refine TC.seq (TC.region (TO.move rfl dc rfl (TO.bin rfl dc rfl rfl bin_geq (TO.move rfl dc rfl ?_))))
        refine TO.split (s := 24) rfl (fun hb7 => ?_) (fun hb7 => ?_)
        ·
         have h := condT hb7 h
         refine TO.move rfl dc rfl (TO.bin rfl dc rfl rfl bin_leq (TO.pick (b := true) rfl dc rfl rfl (TO.assign rfl dc rfl (TO.nil (TX.next ?_)))))
         refine TC.condB rfl (fun hb8 => ?_) (fun hb8 => ?_)
         ·
          have h := condT hb8 h
          refine TC.skip ?_
          exact TX.meetD (decide ((r1 : Int) ≤ 828)) h rfl (Sbs.cons rfl (Sbs.cons rfl (Sbs.nil))) Splits.nil
         ·
          have h := condF hb8 h
          refine TC.region (TO.move rfl dc rfl (TO.bin rfl dc rfl rfl bin_geq (TO.move rfl dc rfl ?_)))
          refine TO.split (s := 30) rfl (fun hb9 => ?_) (fun hb9 => ?_)
          ·
           have h := condT hb9 h
           refine TO.move rfl dc rfl (TO.bin rfl dc rfl rfl bin_leq (TO.pick (b := true) rfl dc rfl rfl (TO.assign rfl dc rfl (TO.nil ?_))))
           exact TX.meetD (decide ((r1 : Int) ≤ 841)) h rfl (Sbs.cons rfl (Sbs.cons rfl (Sbs.nil))) Splits.nil
          ·
           have h := condF hb9 h
           refine TO.skip rfl dc (TO.skip rfl dc (TO.pick (b := false) rfl dc rfl rfl (TO.assign rfl dc rfl (TO.nil ?_))))
           exact TX.meetD false h rfl (Sbs.cons rfl (Sbs.cons rfl (Sbs.nil))) Splits.nil
        ·
         have h := condF hb7 h
         refine TO.skip rfl dc (TO.skip rfl dc (TO.pick (b := false) rfl dc rfl rfl (TO.assign rfl dc rfl (TO.nil (TX.next (TC.condF rfl (TC.region (TO.move rfl dc rfl (TO.bin rfl dc rfl rfl bin_geq (TO.move rfl dc rfl ?_))))))))))
         refine TO.split (s := 30) rfl (fun hb10 => ?_) (fun hb10 => ?_)
         ·
          have h := condT hb10 h
          refine TO.move rfl dc rfl (TO.bin rfl dc rfl rfl bin_leq (TO.pick (b := true) rfl dc rfl rfl (TO.assign rfl dc rfl (TO.nil ?_))))
          exact TX.meetD (decide ((r1 : Int) ≤ 841)) h rfl (Sbs.cons rfl (Sbs.cons rfl (Sbs.nil))) Splits.nil
         ·
          have h := condF hb10 h
          refine TO.skip rfl dc (TO.skip rfl dc (TO.pick (b := false) rfl dc rfl rfl (TO.assign rfl dc rfl (TO.nil ?_))))
          exact TX.meetD false h rfl (Sbs.cons rfl (Sbs.cons rfl (Sbs.nil))) Splits.nil
      ·
       have h := condF hb5 h
       refine TO.skip rfl dc (TO.skip rfl dc (TO.pick (b := false) rfl dc rfl rfl (TO.assign rfl dc rfl (TO.nil (TX.next (TC.condF rfl (TC.seq (TC.region (TO.move rfl dc rfl (TO.bin rfl dc rfl rfl bin_geq (TO.move rfl dc rfl ?_)))))))))))
       refine TO.split (s := 24) rfl (fun hb11 => ?_) (fun hb11 => ?_)
       ·
        have h := condT hb11 h
        refine TO.move rfl dc rfl (TO.bin rfl dc rfl rfl bin_leq (TO.pick (b := true) rfl dc rfl rfl (TO.assign rfl dc rfl (TO.nil (TX.next ?_)))))
        refine TC.condB rfl (fun hb12 => ?_) (fun hb12 => ?_)
        ·
         have h := condT hb12 h
         refine TC.skip ?_
         exact TX.meetD (decide ((r1 : Int) ≤ 828)) h rfl (Sbs.cons rfl (Sbs.cons rfl (Sbs.nil))) Splits.nil
        ·
         have h := condF hb12 h
         refine TC.region (TO.move rfl dc rfl (TO.bin rfl dc rfl rfl bin_geq (TO.move rfl dc rfl ?_)))
         refine TO.split (s := 30) rfl (fun hb13 => ?_) (fun hb13 => ?_)
         ·
          have h := condT hb13 h
          refine TO.move rfl dc rfl (TO.bin rfl dc rfl rfl bin_leq (TO.pick (b := true) rfl dc rfl rfl (TO.assign rfl dc rfl (TO.nil ?_))))
          exact TX.meetD (decide ((r1 : Int) ≤ 841)) h rfl (Sbs.cons rfl (Sbs.cons rfl (Sbs.nil))) Splits.nil
         ·
          have h := condF hb13 h
          refine TO.skip rfl dc (TO.skip rfl dc (TO.pick (b := false) rfl dc rfl rfl (TO.assign rfl dc rfl (TO.nil ?_))))
          exact TX.meetD false h rfl (Sbs.cons rfl (Sbs.cons rfl (Sbs.nil))) Splits.nil
       ·
        have h := condF hb11 h
        refine TO.skip rfl dc (TO.skip rfl dc (TO.pick (b := false) rfl dc rfl rfl (TO.assign rfl dc rfl (TO.nil (TX.next (TC.condF rfl (TC.region (TO.move rfl dc rfl (TO.bin rfl dc rfl rfl bin_geq (TO.move rfl dc rfl ?_))))))))))
        refine TO.split (s := 30) rfl (fun hb14 => ?_) (fun hb14 => ?_)
        ·
         have h := condT hb14 h
         refine TO.move rfl dc rfl (TO.bin rfl dc rfl rfl bin_leq (TO.pick (b := true) rfl dc rfl rfl (TO.assign rfl dc rfl (TO.nil ?_))))
         exact TX.meetD (decide ((r1 : Int) ≤ 841)) h rfl (Sbs.cons rfl (Sbs.cons rfl (Sbs.nil))) Splits.nil
        ·
         have h := condF hb14 h
         refine TO.skip rfl dc (TO.skip rfl dc (TO.pick (b := false) rfl dc rfl rfl (TO.assign rfl dc rfl (TO.nil ?_))))
         exact TX.meetD false h rfl (Sbs.cons rfl (Sbs.cons rfl (Sbs.nil))) Splits.nil
    ·
     have h := condF hb3 h
     refine TO.skip rfl dc (TO.skip rfl dc (TO.pick (b := false) rfl dc rfl rfl (TO.assign rfl dc rfl (TO.nil (TX.next (TC.condF rfl (TC.seq (TC.region (TO.move rfl dc rfl (TO.bin rfl dc rfl rfl bin_geq (TO.move rfl dc rfl ?_)))))))))))
     refine TO.split (s := 18) rfl (fun hb15 => ?_) (fun hb15 => ?_)
     ·
      have h := condT hb15 h
      refine TO.move rfl dc rfl (TO.bin rfl dc rfl rfl bin_leq (TO.pick (b := true) rfl dc rfl rfl (TO.assign rfl dc rfl (TO.nil (TX.next ?_)))))
      refine TC.condB rfl (fun hb16 => ?_) (fun hb16 => ?_)
      ·
       have h := condT hb16 h
       refine TC.skip ?_
       exact TX.meetD (decide ((r1 : Int) ≤ 819)) h rfl (Sbs.cons rfl (Sbs.cons rfl (Sbs.nil))) Splits.nil
      ·
       have h := condF hb16 h
       refine TC.seq (TC.region (TO.move rfl dc rfl (TO.bin rfl dc rfl rfl bin_geq (TO.move rfl dc rfl ?_))))
       refine TO.split (s := 24) rfl (fun hb17 => ?_) (fun hb17 => ?_)
       ·
        have h := condT hb17 h
        refine TO.move rfl dc rfl (TO.bin rfl dc rfl rfl bin_leq (TO.pick (b := true) rfl dc rfl rfl (TO.assign rfl dc rfl (TO.nil (TX.next ?_)))))
        refine TC.condB rfl (fun hb18 => ?_) (fun hb18 => ?_)
        ·
         have h := condT hb18 h
         refine TC.skip ?_
         exact TX.meetD (decide ((r1 : Int) ≤ 828)) h rfl (Sbs.cons rfl (Sbs.cons rfl (Sbs.nil))) Splits.nil
        ·
         have h := condF hb18 h
         refine TC.region (TO.move rfl dc rfl (TO.bin rfl dc rfl rfl bin_geq (TO.move rfl dc rfl ?_)))
         refine TO.split (s := 30) rfl (fun hb19 => ?_) (fun hb19 => ?_)
         ·
          have h := condT hb19 h
          refine TO.move rfl dc rfl (TO.bin rfl dc rfl rfl bin_leq (TO.pick (b := true) rfl dc rfl rfl (TO.assign rfl dc rfl (TO.nil ?_))))
          exact TX.meetD (decide ((r1 : Int) ≤ 841)) h rfl (Sbs.cons rfl (Sbs.cons rfl (Sbs.nil))) Splits.nil
         ·
          have h := condF hb19 h
          refine TO.skip rfl dc (TO.skip rfl dc (TO.pick (b := false) rfl dc rfl rfl (TO.assign rfl dc rfl (TO.nil ?_))))
          exact TX.meetD false h rfl (Sbs.cons rfl (Sbs.cons rfl (Sbs.nil))) Splits.nil
       ·
        have h := condF hb17 h
        refine TO.skip rfl dc (TO.skip rfl dc (TO.pick (b := false) rfl dc rfl rfl (TO.assign rfl dc rfl (TO.nil (TX.next (TC.condF rfl (TC.region (TO.move rfl dc rfl (TO.bin rfl dc rfl rfl bin_geq (TO.move rfl dc rfl ?_))))))))))
        refine TO.split (s := 30) rfl (fun hb20 => ?_) (fun hb20 => ?_)
        ·
         have h := condT hb20 h
         refine TO.move rfl dc rfl (TO.bin rfl dc rfl rfl bin_leq (TO.pick (b := true) rfl dc rfl rfl (TO.assign rfl dc rfl (TO.nil ?_))))
         exact TX.meetD (decide ((r1 : Int) ≤ 841)) h rfl (Sbs.cons rfl (Sbs.cons rfl (Sbs.nil))) Splits.nil
        ·
         have h := condF hb20 h
         refine TO.skip rfl dc (TO.skip rfl dc (TO.pick (b := false) rfl dc rfl rfl (TO.assign rfl dc rfl (TO.nil ?_))))
         exact TX.meetD false h rfl (Sbs.cons rfl (Sbs.cons rfl (Sbs.nil))) Splits.nil
     ·
      have h := condF hb15 h
      refine TO.skip rfl dc (TO.skip rfl dc (TO.pick (b := false) rfl dc rfl rfl (TO.assign rfl dc rfl (TO.nil (TX.next (TC.condF rfl (TC.seq (TC.region (TO.move rfl dc rfl (TO.bin rfl dc rfl rfl bin_geq (TO.move rfl dc rfl ?_)))))))))))
      refine TO.split (s := 24) rfl (fun hb21 => ?_) (fun hb21 => ?_)
      ·
       have h := condT hb21 h
       refine TO.move rfl dc rfl (TO.bin rfl dc rfl rfl bin_leq (TO.pick (b := true) rfl dc rfl rfl (TO.assign rfl dc rfl (TO.nil (TX.next ?_)))))
       refine TC.condB rfl (fun hb22 => ?_) (fun hb22 => ?_)
       ·
        have h := condT hb22 h
        refine TC.skip ?_
        exact TX.meetD (decide ((r1 : Int) ≤ 828)) h rfl (Sbs.cons rfl (Sbs.cons rfl (Sbs.nil))) Splits.nil
       ·
        have h := condF hb22 h
        refine TC.region (TO.move rfl dc rfl (TO.bin rfl dc rfl rfl bin_geq (TO.move rfl dc rfl ?_)))
        refine TO.split (s := 30) rfl (fun hb23 => ?_) (fun hb23 => ?_)
        ·
         have h := condT hb23 h
         refine TO.move rfl dc rfl (TO.bin rfl dc rfl rfl bin_leq (TO.pick (b := true) rfl dc rfl rfl (TO.assign rfl dc rfl (TO.nil ?_))))
         exact TX.meetD (decide ((r1 : Int) ≤ 841)) h rfl (Sbs.cons rfl (Sbs.cons rfl (Sbs.nil))) Splits.nil
        ·
         have h := condF hb23 h
         refine TO.skip rfl dc (TO.skip rfl dc (TO.pick (b := false) rfl dc rfl rfl (TO.assign rfl dc rfl (TO.nil ?_))))
         exact TX.meetD false h rfl (Sbs.cons rfl (Sbs.cons rfl (Sbs.nil))) Splits.nil
      ·
       have h := condF hb21 h
       refine TO.skip rfl dc (TO.skip rfl dc (TO.pick (b := false) rfl dc rfl rfl (TO.assign rfl dc rfl (TO.nil (TX.next (TC.condF rfl (TC.region (TO.move rfl dc rfl (TO.bin rfl dc rfl rfl bin_geq (TO.move rfl dc rfl ?_))))))))))
       refine TO.split (s := 30) rfl (fun hb24 => ?_) (fun hb24 => ?_)
       ·
        have h := condT hb24 h
        refine TO.move rfl dc rfl (TO.bin rfl dc rfl rfl bin_leq (TO.pick (b := true) rfl dc rfl rfl (TO.assign rfl dc rfl (TO.nil ?_))))
        exact TX.meetD (decide ((r1 : Int) ≤ 841)) h rfl (Sbs.cons rfl (Sbs.cons rfl (Sbs.nil))) Splits.nil
       ·
        have h := condF hb24 h
        refine TO.skip rfl dc (TO.skip rfl dc (TO.pick (b := false) rfl dc rfl rfl (TO.assign rfl dc rfl (TO.nil ?_))))
        exact TX.meetD false h rfl (Sbs.cons rfl (Sbs.cons rfl (Sbs.nil))) Splits.nil
  ·
   have h := condF hb1 h
   refine TO.skip rfl dc (TO.skip rfl dc (TO.pick (b := false) rfl dc rfl rfl (TO.assign rfl dc rfl (TO.nil (TX.next (TC.condF rfl (TC.seq (TC.region (TO.move rfl dc rfl (TO.bin rfl dc rfl rfl bin_geq (TO.move rfl dc rfl ?_)))))))))))
   refine TO.split (s := 12) rfl (fun hb25 => ?_) (fun hb25 => ?_)
   ·
    have h := condT hb25 h
    refine TO.move rfl dc rfl (TO.bin rfl dc rfl rfl bin_leq (TO.pick (b := true) rfl dc rfl rfl (TO.assign rfl dc rfl (TO.nil (TX.next ?_)))))
    refine TC.condB rfl (fun hb26 => ?_) (fun hb26 => ?_)
    ·
     have h := condT hb26 h
     refine TC.skip ?_
     exact TX.meetD (decide ((r1 : Int) ≤ 800)) h rfl (Sbs.cons rfl (Sbs.cons rfl (Sbs.nil))) Splits.nil
    ·
     have h := condF hb26 h
     refine TC.seq (TC.region (TO.move rfl dc rfl (TO.bin rfl dc rfl rfl bin_geq (TO.move rfl dc rfl ?_))))
     refine TO.split (s := 18) rfl (fun hb27 => ?_) (fun hb27 => ?_)
     ·
      have h := condT hb27 h
      refine TO.move rfl dc rfl (TO.bin rfl dc rfl rfl bin_leq (TO.pick (b := true) rfl dc rfl rfl (TO.assign rfl dc rfl (TO.nil (TX.next ?_)))))
      refine TC.condB rfl (fun hb28 => ?_) (fun hb28 => ?_)
      ·
       have h := condT hb28 h
       refine TC.skip ?_
       exact TX.meetD (decide ((r1 : Int) ≤ 819)) h rfl (Sbs.cons rfl (Sbs.cons rfl (Sbs.nil))) Splits.nil
      ·
       have h := condF hb28 h
       refine TC.seq (TC.region (TO.move rfl dc rfl (TO.bin rfl dc rfl rfl bin_geq (TO.move rfl dc rfl ?_))))
       refine TO.split (s := 24) rfl (fun hb29 => ?_) (fun hb29 => ?_)
       ·
        have h := condT hb29 h
        refine TO.move rfl dc rfl (TO.bin rfl dc rfl rfl bin_leq (TO.pick (b := true) rfl dc rfl rfl (TO.assign rfl dc rfl (TO.nil (TX.next ?_)))))
        refine TC.condB rfl (fun hb30 => ?_) (fun hb30 => ?_)
        ·
         have h := condT hb30 h
         refine TC.skip ?_
         exact TX.meetD (decide ((r1 : Int) ≤ 828)) h rfl (Sbs.cons rfl (Sbs.cons rfl (Sbs.nil))) Splits.nil
        ·
         have h := condF hb30 h
         refine TC.region (TO.move rfl dc rfl (TO.bin rfl dc rfl rfl bin_geq (TO.move rfl dc rfl ?_)))
         refine TO.split (s := 30) rfl (fun hb31 => ?_) (fun hb31 => ?_)
         ·
          have h := condT hb31 h
          refine TO.move rfl dc rfl (TO.bin rfl dc rfl rfl bin_leq (TO.pick (b := true) rfl dc rfl rfl (TO.assign rfl dc rfl (TO.nil ?_))))
          exact TX.meetD (decide ((r1 : Int) ≤ 841)) h rfl (Sbs.cons rfl (Sbs.cons rfl (Sbs.nil))) Splits.nil
         ·
          have h := condF hb31 h
          refine TO.skip rfl dc (TO.skip rfl dc (TO.pick (b := false) rfl dc rfl rfl (TO.assign rfl dc rfl (TO.nil ?_))))
          exact TX.meetD false h rfl (Sbs.cons rfl (Sbs.cons rfl (Sbs.nil))) Splits.nil
       ·
        have h := condF hb29 h
        refine TO.skip rfl dc (TO.skip rfl dc (TO.pick (b := false) rfl dc rfl rfl (TO.assign rfl dc rfl (TO.nil (TX.next (TC.condF rfl (TC.region (TO.move rfl dc rfl (TO.bin rfl dc rfl rfl bin_geq (TO.move rfl dc rfl ?_))))))))))
        refine TO.split (s := 30) rfl (fun hb32 => ?_) (fun hb32 => ?_)
        ·
         have h := condT hb32 h
         refine TO.move rfl dc rfl (TO.bin rfl dc rfl rfl bin_leq (TO.pick (b := true) rfl dc rfl rfl (TO.assign rfl dc rfl (TO.nil ?_))))
         exact TX.meetD (decide ((r1 : Int) ≤ 841)) h rfl (Sbs.cons rfl (Sbs.cons rfl (Sbs.nil))) Splits.nil
        ·
         have h := condF hb32 h
         refine TO.skip rfl dc (TO.skip rfl dc (TO.pick (b := false) rfl dc rfl rfl (TO.assign rfl dc rfl (TO.nil ?_))))
         exact TX.meetD false h rfl (Sbs.cons rfl (Sbs.cons rfl (Sbs.nil))) Splits.nil
     ·
      have h := condF hb27 h
      refine TO.skip rfl dc (TO.skip rfl dc (TO.pick (b := false) rfl dc rfl rfl (TO.assign rfl dc rfl (TO.nil (TX.next (TC.condF rfl (TC.seq (TC.region (TO.move rfl dc rfl (TO.bin rfl dc rfl rfl bin_geq (TO.move rfl dc rfl ?_)))))))))))
      refine TO.split (s := 24) rfl (fun hb33 => ?_) (fun hb33 => ?_)
      ·
       have h := condT hb33 h
       refine TO.move rfl dc rfl (TO.bin rfl dc rfl rfl bin_leq (TO.pick (b := true) rfl dc rfl rfl (TO.assign rfl dc rfl (TO.nil (TX.next ?_)))))
       refine TC.condB rfl (fun hb34 => ?_) (fun hb34 => ?_)
       ·
        have h := condT hb34 h
        refine TC.skip ?_
        exact TX.meetD (decide ((r1 : Int) ≤ 828)) h rfl (Sbs.cons rfl (Sbs.cons rfl (Sbs.nil))) Splits.nil
       ·
        have h := condF hb34 h
        refine TC.region (TO.move rfl dc rfl (TO.bin rfl dc rfl rfl bin_geq (TO.move rfl dc rfl ?_)))
        refine TO.split (s := 30) rfl (fun hb35 => ?_) (fun hb35 => ?_)
        ·
         have h := condT hb35 h
         refine TO.move rfl dc rfl (TO.bin rfl dc rfl rfl bin_leq (TO.pick (b := true) rfl dc rfl rfl (TO.assign rfl dc rfl (TO.nil ?_))))
         exact TX.meetD (decide ((r1 : Int) ≤ 841)) h rfl (Sbs.cons rfl (Sbs.cons rfl (Sbs.nil))) Splits.nil
        ·
         have h := condF hb35 h
         refine TO.skip rfl dc (TO.skip rfl dc (TO.pick (b := false) rfl dc rfl rfl (TO.assign rfl dc rfl (TO.nil ?_))))
         exact TX.meetD false h rfl (Sbs.cons rfl (Sbs.cons rfl (Sbs.nil))) Splits.nil
      ·
       have h := condF hb33 h
       refine TO.skip rfl dc (TO.skip rfl dc (TO.pick (b := false) rfl dc rfl rfl (TO.assign rfl dc rfl (TO.nil (TX.next (TC.condF rfl (TC.region (TO.move rfl dc rfl (TO.bin rfl dc rfl rfl bin_geq (TO.move rfl dc rfl ?_))))))))))
       refine TO.split (s := 30) rfl (fun hb36 => ?_) (fun hb36 => ?_)
       ·
        have h := condT hb36 h
        refine TO.move rfl dc rfl (TO.bin rfl dc rfl rfl bin_leq (TO.pick (b := true) rfl dc rfl rfl (TO.assign rfl dc rfl (TO.nil ?_))))
        exact TX.meetD (decide ((r1 : Int) ≤ 841)) h rfl (Sbs.cons rfl (Sbs.cons rfl (Sbs.nil))) Splits.nil
       ·
        have h := condF hb36 h
        refine TO.skip rfl dc (TO.skip rfl dc (TO.pick (b := false) rfl dc rfl rfl (TO.assign rfl dc rfl (TO.nil ?_))))
        exact TX.meetD false h rfl (Sbs.cons rfl (Sbs.cons rfl (Sbs.nil))) Splits.nil
   ·
    have h := condF hb25 h
    refine TO.skip rfl dc (TO.skip rfl dc (TO.pick (b := false) rfl dc rfl rfl (TO.assign rfl dc rfl (TO.nil (TX.next (TC.condF rfl (TC.seq (TC.region (TO.move rfl dc rfl (TO.bin rfl dc rfl rfl bin_geq (TO.move rfl dc rfl ?_)))))))))))
    refine TO.split (s := 18) rfl (fun hb37 => ?_) (fun hb37 => ?_)
    ·
     have h := condT hb37 h
     refine TO.move rfl dc rfl (TO.bin rfl dc rfl rfl bin_leq (TO.pick (b := true) rfl dc rfl rfl (TO.assign rfl dc rfl (TO.nil (TX.next ?_)))))
     refine TC.condB rfl (fun hb38 => ?_) (fun hb38 => ?_)
     ·
      have h := condT hb38 h
      refine TC.skip ?_
      exact TX.meetD (decide ((r1 : Int) ≤ 819)) h rfl (Sbs.cons rfl (Sbs.cons rfl (Sbs.nil))) Splits.nil
     ·
      have h := condF hb38 h
      refine TC.seq (TC.region (TO.move rfl dc rfl (TO.bin rfl dc rfl rfl bin_geq (TO.move rfl dc rfl ?_))))
      refine TO.split (s := 24) rfl (fun hb39 => ?_) (fun hb39 => ?_)
      ·
       have h := condT hb39 h
       refine TO.move rfl dc rfl (TO.bin rfl dc rfl rfl bin_leq (TO.pick (b := true) rfl dc rfl rfl (TO.assign rfl dc rfl (TO.nil (TX.next ?_)))))
       refine TC.condB rfl (fun hb40 => ?_) (fun hb40 => ?_)
       ·
        have h := condT hb40 h
        refine TC.skip ?_
        exact TX.meetD (decide ((r1 : Int) ≤ 828)) h rfl (Sbs.cons rfl (Sbs.cons rfl (Sbs.nil))) Splits.nil
       ·
        have h := condF hb40 h
        refine TC.region (TO.move rfl dc rfl (TO.bin rfl dc rfl rfl bin_geq (TO.move rfl dc rfl ?_)))
        refine TO.split (s := 30) rfl (fun hb41 => ?_) (fun hb41 => ?_)
        ·
         have h := condT hb41 h
         refine TO.move rfl dc rfl (TO.bin rfl dc rfl rfl bin_leq (TO.pick (b := true) rfl dc rfl rfl (TO.assign rfl dc rfl (TO.nil ?_))))
         exact TX.meetD (decide ((r1 : Int) ≤ 841)) h rfl (Sbs.cons rfl (Sbs.cons rfl (Sbs.nil))) Splits.nil
        ·
         have h := condF hb41 h
         refine TO.skip rfl dc (TO.skip rfl dc (TO.pick (b := false) rfl dc rfl rfl (TO.assign rfl dc rfl (TO.nil ?_))))
         exact TX.meetD false h rfl (Sbs.cons rfl (Sbs.cons rfl (Sbs.nil))) Splits.nil
      ·
       have h := condF hb39 h
       refine TO.skip rfl dc (TO.skip rfl dc (TO.pick (b := false) rfl dc rfl rfl (TO.assign rfl dc rfl (TO.nil (TX.next (TC.condF rfl (TC.region (TO.move rfl dc rfl (TO.bin rfl dc rfl rfl bin_geq (TO.move rfl dc rfl ?_))))))))))
       refine TO.split (s := 30) rfl (fun hb42 => ?_) (fun hb42 => ?_)
       ·
        have h := condT hb42 h
        refine TO.move rfl dc rfl (TO.bin rfl dc rfl rfl bin_leq (TO.pick (b := true) rfl dc rfl rfl (TO.assign rfl dc rfl (TO.nil ?_))))
        exact TX.meetD (decide ((r1 : Int) ≤ 841)) h rfl (Sbs.cons rfl (Sbs.cons rfl (Sbs.nil))) Splits.nil
       ·
        have h := condF hb42 h
        refine TO.skip rfl dc (TO.skip rfl dc (TO.pick (b := false) rfl dc rfl rfl (TO.assign rfl dc rfl (TO.nil ?_))))
        exact TX.meetD false h rfl (Sbs.cons rfl (Sbs.cons rfl (Sbs.nil))) Splits.nil
    ·
     have h := condF hb37 h
     refine TO.skip rfl dc (TO.skip rfl dc (TO.pick (b := false) rfl dc rfl rfl (TO.assign rfl dc rfl (TO.nil (TX.next (TC.condF rfl (TC.seq (TC.region (TO.move rfl dc rfl (TO.bin rfl dc rfl rfl bin_geq (TO.move rfl dc rfl ?_)))))))))))
     refine TO.split (s := 24) rfl (fun hb43 => ?_) (fun hb43 => ?_)
     ·
      have h := condT hb43 h
      refine TO.move rfl dc rfl (TO.bin rfl dc rfl rfl bin_leq (TO.pick (b := true) rfl dc rfl rfl (TO.assign rfl dc rfl (TO.nil (TX.next ?_)))))
      refine TC.condB rfl (fun hb44 => ?_) (fun hb44 => ?_)
      ·
       have h := condT hb44 h
       refine TC.skip ?_
       exact TX.meetD (decide ((r1 : Int) ≤ 828)) h rfl (Sbs.cons rfl (Sbs.cons rfl (Sbs.nil))) Splits.nil
      ·
       have h := condF hb44 h
       refine TC.region (TO.move rfl dc rfl (TO.bin rfl dc rfl rfl bin_geq (TO.move rfl dc rfl ?_)))
       refine TO.split (s := 30) rfl (fun hb45 => ?_) (fun hb45 => ?_)
       ·
        have h := condT hb45 h
        refine TO.move rfl dc rfl (TO.bin rfl dc rfl rfl bin_leq (TO.pick (b := true) rfl dc rfl rfl (TO.assign rfl dc rfl (TO.nil ?_))))
        exact TX.meetD (decide ((r1 : Int) ≤ 841)) h rfl (Sbs.cons rfl (Sbs.cons rfl (Sbs.nil))) Splits.nil
       ·
        have h := condF hb45 h
        refine TO.skip rfl dc (TO.skip rfl dc (TO.pick (b := false) rfl dc rfl rfl (TO.assign rfl dc rfl (TO.nil ?_))))
        exact TX.meetD false h rfl (Sbs.cons rfl (Sbs.cons rfl (Sbs.nil))) Splits.nil
     ·
      have h := condF hb43 h
      refine TO.skip rfl dc (TO.skip rfl dc (TO.pick (b := false) rfl dc rfl rfl (TO.assign rfl dc rfl (TO.nil (TX.next (TC.condF rfl (TC.region (TO.move rfl dc rfl (TO.bin rfl dc rfl rfl bin_geq (TO.move rfl dc rfl ?_))))))))))
      refine TO.split (s := 30) rfl (fun hb46 => ?_) (fun hb46 => ?_)
      ·
       have h := condT hb46 h
       refine TO.move rfl dc rfl (TO.bin rfl dc rfl rfl bin_leq (TO.pick (b := true) rfl dc rfl rfl (TO.assign rfl dc rfl (TO.nil ?_))))
       exact TX.meetD (decide ((r1 : Int) ≤ 841)) h rfl (Sbs.cons rfl (Sbs.cons rfl (Sbs.nil))) Splits.nil
      ·
       have h := condF hb46 h
       refine TO.skip rfl dc (TO.skip rfl dc (TO.pick (b := false) rfl dc rfl rfl (TO.assign rfl dc rfl (TO.nil ?_))))
       exact TX.meetD false h rfl (Sbs.cons rfl (Sbs.cons rfl (Sbs.nil))) Splits.nil
 ·
  rintro x1 h
  rw [hj1] at h
  show TC _ _ _ _ _ ([]) _ _ [(0, .int .i32 r1), (3, .bool x1)] []
  refine TC.condB rfl (fun hb47 => ?_) (fun hb47 => ?_)
  ·
   have h := condT hb47 h
   refine TC.seq (TC.region (TO.assign rfl dc rfl (TO.nil (TX.next (TC.ret (TX.blockRet (TX.thenRet ?_)))))))
   cases h
   exact TX.fin (rs := [.tmp 2]) () (.inl rfl) Try.results74 (.cons (.tmp rfl) .nil) rfl Splits.nil
  ·
   have h := condF hb47 h
   obtain ⟨j2, hj2, h⟩ := joinE h
   refine TC.cutN (β := Bool) 0 rfl (fun b => j2 b = some r) (fun b => []) (fun b => [(34, .bool b)]) (fun b => []) (fun cut => ?_) ?_
   ·
    refine cut (TC.seq (TC.region (TO.move rfl dc rfl (TO.bin rfl dc rfl rfl bin_geq (TO.move rfl dc rfl ?_)))))
    refine TO.split (s := 37) rfl (fun hb48 => ?_) (fun hb48 => ?_)
    ·
     have h := condT hb48 h
     refine TO.move rfl dc rfl (TO.bin rfl dc rfl rfl bin_leq (TO.pick (b := true) rfl dc rfl rfl (TO.assign rfl dc rfl (TO.nil (TX.next ?_)))))
     refine TC.condB rfl (fun hb49 => ?_) (fun hb49 => ?_)
     ·
      have h := condT hb49 h
      refine TC.skip ?_
      exact TX.meetD (decide ((r1 : Int) ≤ 846)) h rfl (Sbs.cons rfl (Sbs.nil)) Splits.nil
     ·
      have h := condF hb49 h
      refine TC.seq (TC.region (TO.move rfl dc rfl (TO.bin rfl dc rfl rfl bin_geq (TO.move rfl dc rfl ?_))))
      refine TO.split (s := 43) rfl (fun hb50 => ?_) (fun hb50 => ?_)
      ·
       have h := condT hb50 h
       refine TO.move rfl dc rfl (TO.bin rfl dc rfl rfl bin_leq (TO.pick (b := true) rfl dc rfl rfl (TO.assign rfl dc rfl (TO.nil (TX.next ?_)))))
       refine TC.condB rfl (fun hb51 => ?_) (fun hb51 => ?_)
       ·
        have h := condT hb51 h
        refine TC.skip ?_
        exact TX.meetD (decide ((r1 : Int) ≤ 854)) h rfl (Sbs.cons rfl (Sbs.nil)) Splits.nil
       ·
        have h := condF hb51 h
        refine TC.region (TO.move rfl dc rfl (TO.bin rfl dc rfl rfl bin_geq (TO.move rfl dc rfl ?_)))
        refine TO.split (s := 49) rfl (fun hb52 => ?_) (fun hb52 => ?_)
        ·
         have h := condT hb52 h
         refine TO.move rfl dc rfl (TO.bin rfl dc rfl rfl bin_leq (TO.pick (b := true) rfl dc rfl rfl (TO.assign rfl dc rfl (TO.nil ?_))))
         exact TX.meetD (decide ((r1 : Int) ≤ 858)) h rfl (Sbs.cons rfl (Sbs.nil)) Splits.nil
        ·
         have h := condF hb52 h
         refine TO.skip rfl dc (TO.skip rfl dc (TO.pick (b := false) rfl dc rfl rfl (TO.assign rfl dc rfl (TO.nil ?_))))
         exact TX.meetD false h rfl (Sbs.cons rfl (Sbs.nil)) Splits.nil
      ·
       have h := condF hb50 h
       refine TO.skip rfl dc (TO.skip rfl dc (TO.pick (b := false) rfl dc rfl rfl (TO.assign rfl dc rfl (TO.nil (TX.next (TC.condF rfl (TC.region (TO.move rfl dc rfl (TO.bin rfl dc rfl rfl bin_geq (TO.move rfl dc rfl ?_))))))))))
       refine TO.split (s := 49) rfl (fun hb53 => ?_) (fun hb53 => ?_)
       ·
        have h := condT hb53 h
        refine TO.move rfl dc rfl (TO.bin rfl dc rfl rfl bin_leq (TO.pick (b := true) rfl dc rfl rfl (TO.assign rfl dc rfl (TO.nil ?_))))
        exact TX.meetD (decide ((r1 : Int) ≤ 858)) h rfl (Sbs.cons rfl (Sbs.nil)) Splits.nil
       ·
        have h := condF hb53 h
        refine TO.skip rfl dc (TO.skip rfl dc (TO.pick (b := false) rfl dc rfl rfl (TO.assign rfl dc rfl (TO.nil ?_))))
        exact TX.meetD false h rfl (Sbs.cons rfl (Sbs.nil)) Splits.nil
    ·
     have h := condF hb48 h
     refine TO.skip rfl dc (TO.skip rfl dc (TO.pick (b := false) rfl dc rfl rfl (TO.assign rfl dc rfl (TO.nil (TX.next (TC.condF rfl (TC.seq (TC.region (TO.move rfl dc rfl (TO.bin rfl dc rfl rfl bin_geq (TO.move rfl dc rfl ?_)))))))))))
     refine TO.split (s := 43) rfl (fun hb54 => ?_) (fun hb54 => ?_)
     ·
      have h := condT hb54 h
      refine TO.move rfl dc rfl (TO.bin rfl dc rfl rfl bin_leq (TO.pick (b := true) rfl dc rfl rfl (TO.assign rfl dc rfl (TO.nil (TX.next ?_)))))
      refine TC.condB rfl (fun hb55 => ?_) (fun hb55 => ?_)
      ·
       have h := condT hb55 h
       refine TC.skip ?_
       exact TX.meetD (decide ((r1 : Int) ≤ 854)) h rfl (Sbs.cons rfl (Sbs.nil)) Splits.nil
      ·
       have h := condF hb55 h
       refine TC.region (TO.move rfl dc rfl (TO.bin rfl dc rfl rfl bin_geq (TO.move rfl dc rfl ?_)))
       refine TO.split (s := 49) rfl (fun hb56 => ?_) (fun hb56 => ?_)
       ·
        have h := condT hb56 h
        refine TO.move rfl dc rfl (TO.bin rfl dc rfl rfl bin_leq (TO.pick (b := true) rfl dc rfl rfl (TO.assign rfl dc rfl (TO.nil ?_))))
        exact TX.meetD (decide ((r1 : Int) ≤ 858)) h rfl (Sbs.cons rfl (Sbs.nil)) Splits.nil
       ·
        have h := condF hb56 h
        refine TO.skip rfl dc (TO.skip rfl dc (TO.pick (b := false) rfl dc rfl rfl (TO.assign rfl dc rfl (TO.nil ?_))))
        exact TX.meetD false h rfl (Sbs.cons rfl (Sbs.nil)) Splits.nil
     ·
      have h := condF hb54 h
      refine TO.skip rfl dc (TO.skip rfl dc (TO.pick (b := false) rfl dc rfl rfl (TO.assign rfl dc rfl (TO.nil (TX.next (TC.condF rfl (TC.region (TO.move rfl dc rfl (TO.bin rfl dc rfl rfl bin_geq (TO.move rfl dc rfl ?_))))))))))
      refine TO.split (s := 49) rfl (fun hb57 => ?_) (fun hb57 => ?_)
      ·
       have h := condT hb57 h
       refine TO.move rfl dc rfl (TO.bin rfl dc rfl rfl bin_leq (TO.pick (b := true) rfl dc rfl rfl (TO.assign rfl dc rfl (TO.nil ?_))))
       exact TX.meetD (decide ((r1 : Int) ≤ 858)) h rfl (Sbs.cons rfl (Sbs.nil)) Splits.nil
      ·
       have h := condF hb57 h
       refine TO.skip rfl dc (TO.skip rfl dc (TO.pick (b := false) rfl dc rfl rfl (TO.assign rfl dc rfl (TO.nil ?_))))
       exact TX.meetD false h rfl (Sbs.cons rfl (Sbs.nil)) Splits.nil
   ·
    rintro x2 h
    rw [hj2] at h
    show TC _ _ _ _ _ ([]) _ _ [(34, .bool x2)] []
    refine TC.condB rfl (fun hb58 => ?_) (fun hb58 => ?_)
    ·
     have h := condT hb58 h
     refine TC.seq (TC.region (TO.assign rfl dc rfl (TO.nil (TX.next (TC.ret (TX.blockRet (TX.thenRet ?_)))))))
     cases h
     exact TX.fin (rs := [.tmp 2]) () (.inl rfl) Try.results74 (.cons (.tmp rfl) .nil) rfl Splits.nil
    ·
     have h := condF hb58 h
     refine TC.skip (TX.blockNormal (TX.next (TC.seq (TC.region (TO.assign rfl dc rfl (TO.nil (TX.next (TC.ret ?_))))))))
     cases h
     exact TX.fin (rs := [.tmp 2]) () (.inl rfl) Try.results74 (.cons (.tmp rfl) .nil) rfl Splits.nil
def fold_unit_letter_v (u1 : Gfold_unit) : Option Bool := bcond (decide ((0 : Int) ≤ u1.base)) ( grd (I32 u1.base) <| some (((kind u1.base) : Int) == 1)
) ( some false
)
set_option maxRecDepth 100000 in
set_option maxHeartbeats 4000000 in
theorem fold_unit_letter_fn {u1 : Gfold_unit} {u1_h0 u1_h1 : Hd} {r : Bool} (h : fold_unit_letter_v u1 = some r) : Fn Try.prog 42 [.agg #[.int .i64 u1.at_, .int .u8 u1.broken, .int .i32 u1.base, u1_h0.v, u1_h1.v]] [vec (encI (.i32)) 21 1 u1_h0.v u1.low, vec (encI (.i32)) 21 1 u1_h1.v u1.high] (fun _b : Unit => .bool r) (fun _b => [vec (encI (.i32)) 21 1 u1_h0.v u1.low, vec (encI (.i32)) 21 1 u1_h1.v u1.high]) := by
 unfold fold_unit_letter_v at h
 refine Fn.intro Try.func42 rfl Try.ntmps42 (by simp) ?_
 intro w0 K
 refine TC.seq (TC.region ?_)
 refine TO.box rfl dc rfl (fun b1 => ?_)
 refine TO.assign rfl dc rfl (TO.nil (TX.next (TC.seq (TC.region (TO.fieldAddr fl_46_2 rfl dc rfl (show _ = 2 from rfl) (TO.load (k := 2) sc_21 rfl dc rfl rfl rfl (TO.bin rfl dc rfl rfl bin_geq (TO.move rfl dc rfl ?_))))))))
 refine TO.split (s := 6) rfl (fun hb1 => ?_) (fun hb1 => ?_)
 ·
  have h := condT hb1 h
  refine TO.fieldAddr fl_46_2 rfl dc rfl (show _ = 2 from rfl) (TO.load (k := 2) sc_21 rfl dc rfl rfl rfl ?_)
  obtain ⟨hg1, h⟩ := grdE h
  refine TO.callP (v := .int .i64 (kind u1.base)) (vs := [.int .i32 u1.base]) rfl dc rfl rfl rfl en_16 (FnP.of_same fun w => kind_any u1.base w hg1.1 hg1.2) ?_
  refine TO.bin rfl dc rfl rfl bin_eql (TO.pick (b := true) rfl dc rfl rfl (TO.assign rfl dc rfl (TO.nil (TX.next (TC.ret ?_)))))
  cases h
  exact TX.fin (rs := [.tmp 2]) () (.inl rfl) Try.results42 (.cons (.tmp rfl) .nil) rfl (Splits.of [0, 1] kr rfl)
 ·
  have h := condF hb1 h
  refine TO.skip rfl dc (TO.skip rfl dc (TO.skip rfl dc (TO.skip rfl dc (TO.pick (b := false) rfl dc rfl rfl (TO.assign rfl dc rfl (TO.nil (TX.next (TC.ret ?_))))))))
  cases h
  exact TX.fin (rs := [.tmp 2]) () (.inl rfl) Try.results42 (.cons (.tmp rfl) .nil) rfl (Splits.of [0, 1] kr rfl)
def fold_unit_mark_v (u1 : Gfold_unit) (r1 : Int) : Option Gfold_unit := andThen (fold_Low_v r1) fun (r2 : Bool) => bcond (r2) ( grd (u1.low.length + 1 ≤ 2147483648) <| some (⟨(⟨u1.at_, u1.broken, u1.base, u1.low ++ [r1], u1.high⟩ : Gfold_unit).at_, (⟨u1.at_, u1.broken, u1.base, u1.low ++ [r1], u1.high⟩ : Gfold_unit).broken, (⟨u1.at_, u1.broken, u1.base, u1.low ++ [r1], u1.high⟩ : Gfold_unit).base, u1.low ++ [r1], u1.high⟩ : Gfold_unit)
) ( grd (u1.high.length + 1 ≤ 2147483648) <| some (⟨(⟨u1.at_, u1.broken, u1.base, u1.low, u1.high ++ [r1]⟩ : Gfold_unit).at_, (⟨u1.at_, u1.broken, u1.base, u1.low, u1.high ++ [r1]⟩ : Gfold_unit).broken, (⟨u1.at_, u1.broken, u1.base, u1.low, u1.high ++ [r1]⟩ : Gfold_unit).base, u1.low, u1.high ++ [r1]⟩ : Gfold_unit)
)
set_option maxRecDepth 100000 in
set_option maxHeartbeats 4000000 in
theorem fold_unit_mark_fn {vu1 : Value} {zu1 : List (Gfold_unit × Hd × Hd)} {iu1 : Nat} {u1 : Gfold_unit} {u1_h0 u1_h1 : Hd} (hiu1 : zu1[iu1]? = some (u1, (u1_h0, u1_h1))) {r1 : Int} {r : Gfold_unit} (h : fold_unit_mark_v u1 r1 = some r) : Fn Try.prog 50 [.pointer (some ⟨vblk vu1, iu1 * 5, none⟩), .int .i32 r1] [vec encN_Gfold_unit 46 5 vu1 zu1, vec (encI (.i32)) 21 1 u1_h0.v u1.low, vec (encI (.i32)) 21 1 u1_h1.v u1.high] (fun b : Hd × Hd => .tuple #[]) (fun b => [vec encN_Gfold_unit 46 5 vu1 (zu1.set iu1 (r, (b.1, b.2))), vec (encI (.i32)) 21 1 b.1.v r.low, vec (encI (.i32)) 21 1 b.2.v r.high]) := by
 unfold fold_unit_mark_v at h
 refine Fn.intro Try.func50 rfl Try.ntmps50 (by simp) ?_
 intro w0 K
 refine TC.seq (TC.region (TO.move rfl dc rfl ?_))
 obtain ⟨r2, hq1, h⟩ := andE h
 refine TO.callP (v := .bool r2) (vs := [.int .i32 r1]) rfl dc rfl rfl rfl en_74 (fold_Low_fn hq1) (TO.nil (TX.next ?_))
 refine TC.condB rfl (fun hb1 => ?_) (fun hb1 => ?_)
 ·
  have h := condT hb1 h
  refine TC.region (TO.move rfl dc rfl (TO.move rfl dc rfl (TO.nilCheck rfl dc rfl (TO.fieldAddr fl_46_3 rfl dc rfl (show _ = iu1 * 5 + 3 from rfl) (TO.loadVec (i := iu1) (j := 3) (k := 0) (q := (u1, (u1_h0, u1_h1))) sc_44 encN_Gfold_unit_len rfl dc rfl rfl hiu1 rfl dc rfl (TO.move rfl dc rfl ?_))))))
  refine TO.buildSlice (cs := [.int .i32 r1]) (te := 21) (ps := [(0, .tmp 11)]) rfl dc rfl (fun _ => by kernel_rfl) (fun b1 => ?_)
  obtain ⟨hg1, h⟩ := grdE h
  refine TO.appendVec (k := 1) (k2 := 3) (ys := [r1]) Try.underlying44 el_21 encI_len encI_one rfl dc rfl rfl rfl rfl rfl rfl hg1 (fun v1 => ?_)
  refine TO.nameHd (k := 1) rfl (fun hd1 he1 => ?_)
  subst he1
  show TO _ _ _ _ _ _ _ _ _ _ [vec encN_Gfold_unit 46 5 vu1 zu1, vec (encI (.i32)) 21 1 hd1.v (u1.low ++ [r1]), vec (encI (.i32)) 21 1 u1_h1.v u1.high, cells b1 [.int .i32 r1] 21]
  refine TO.nilCheck rfl dc rfl (TO.fieldAddr fl_46_3 rfl dc rfl (show _ = iu1 * 5 + 3 from rfl) ?_)
  refine TO.storeVec (i := iu1) (j := 3) (k := 0) (q := (u1, (u1_h0, u1_h1))) (q' := ((⟨u1.at_, u1.broken, u1.base, u1.low ++ [r1], u1.high⟩ : Gfold_unit), (hd1, u1_h1))) sz_44 encN_Gfold_unit_len rfl rfl rfl rfl hiu1 rfl dc rfl (fun _ _ => rfl) ?_
  show TO _ _ _ _ _ _ _ _ _ _ [vec encN_Gfold_unit 46 5 vu1 (zu1.set iu1 ((⟨u1.at_, u1.broken, u1.base, u1.low ++ [r1], u1.high⟩ : Gfold_unit), (hd1, u1_h1))), vec (encI (.i32)) 21 1 hd1.v (u1.low ++ [r1]), vec (encI (.i32)) 21 1 u1_h1.v u1.high, cells b1 [.int .i32 r1] 21]
  refine TO.nil (TX.ent (k := 0) rfl (vec_setE rfl (q1 := ((⟨u1.at_, u1.broken, u1.base, u1.low ++ [r1], u1.high⟩ : Gfold_unit), (hd1, u1_h1))) (q2 := ((⟨(⟨u1.at_, u1.broken, u1.base, u1.low ++ [r1], u1.high⟩ : Gfold_unit).at_, (⟨u1.at_, u1.broken, u1.base, u1.low ++ [r1], u1.high⟩ : Gfold_unit).broken, (⟨u1.at_, u1.broken, u1.base, u1.low ++ [r1], u1.high⟩ : Gfold_unit).base, u1.low ++ [r1], u1.high⟩ : Gfold_unit), (hd1, u1_h1))) encN_Gfold_unit_len rfl) ?_)
  show TX _ _ _ _ _ _ _ [vec encN_Gfold_unit 46 5 vu1 (zu1.set iu1 ((⟨(⟨u1.at_, u1.broken, u1.base, u1.low ++ [r1], u1.high⟩ : Gfold_unit).at_, (⟨u1.at_, u1.broken, u1.base, u1.low ++ [r1], u1.high⟩ : Gfold_unit).broken, (⟨u1.at_, u1.broken, u1.base, u1.low ++ [r1], u1.high⟩ : Gfold_unit).base, u1.low ++ [r1], u1.high⟩ : Gfold_unit), (hd1, u1_h1))), vec (encI (.i32)) 21 1 hd1.v (u1.low ++ [r1]), vec (encI (.i32)) 21 1 u1_h1.v u1.high, cells b1 [.int .i32 r1] 21]
  cases h
  exact TX.fin (rs := []) (hd1, u1_h1) (.inr rfl) Try.results50 .nil rfl (Splits.of [0, 1, 2] kr rfl)
 ·
  have h := condF hb1 h
  refine TC.region (TO.move rfl dc rfl (TO.move rfl dc rfl (TO.nilCheck rfl dc rfl (TO.fieldAddr fl_46_4 rfl dc rfl (show _ = iu1 * 5 + 4 from rfl) (TO.loadVec (i := iu1) (j := 4) (k := 0) (q := (u1, (u1_h0, u1_h1))) sc_44 encN_Gfold_unit_len rfl dc rfl rfl hiu1 rfl dc rfl (TO.move rfl dc rfl ?_))))))
  refine TO.buildSlice (cs := [.int .i32 r1]) (te := 21) (ps := [(0, .tmp 21)]) rfl dc rfl (fun _ => by kernel_rfl) (fun b2 => ?_)
  obtain ⟨hg2, h⟩ := grdE h
  refine TO.appendVec (k := 2) (k2 := 3) (ys := [r1]) Try.underlying44 el_21 encI_len encI_one rfl dc rfl rfl rfl rfl rfl rfl hg2 (fun v2 => ?_)
  refine TO.nameHd (k := 2) rfl (fun hd2 he2 => ?_)
  subst he2
  show TO _ _ _ _ _ _ _ _ _ _ [vec encN_Gfold_unit 46 5 vu1 zu1, vec (encI (.i32)) 21 1 u1_h0.v u1.low, vec (encI (.i32)) 21 1 hd2.v (u1.high ++ [r1]), cells b2 [.int .i32 r1] 21]
  refine TO.nilCheck rfl dc rfl (TO.fieldAddr fl_46_4 rfl dc rfl (show _ = iu1 * 5 + 4 from rfl) ?_)
  refine TO.storeVec (i := iu1) (j := 4) (k := 0) (q := (u1, (u1_h0, u1_h1))) (q' := ((⟨u1.at_, u1.broken, u1.base, u1.low, u1.high ++ [r1]⟩ : Gfold_unit), (u1_h0, hd2))) sz_44 encN_Gfold_unit_len rfl rfl rfl rfl hiu1 rfl dc rfl (fun _ _ => rfl) ?_
  show TO _ _ _ _ _ _ _ _ _ _ [vec encN_Gfold_unit 46 5 vu1 (zu1.set iu1 ((⟨u1.at_, u1.broken, u1.base, u1.low, u1.high ++ [r1]⟩ : Gfold_unit), (u1_h0, hd2))), vec (encI (.i32)) 21 1 u1_h0.v u1.low, vec (encI (.i32)) 21 1 hd2.v (u1.high ++ [r1]), cells b2 [.int .i32 r1] 21]
  refine TO.nil (TX.ent (k := 0) rfl (vec_setE rfl (q1 := ((⟨u1.at_, u1.broken, u1.base, u1.low, u1.high ++ [r1]⟩ : Gfold_unit), (u1_h0, hd2))) (q2 := ((⟨(⟨u1.at_, u1.broken, u1.base, u1.low, u1.high ++ [r1]⟩ : Gfold_unit).at_, (⟨u1.at_, u1.broken, u1.base, u1.low, u1.high ++ [r1]⟩ : Gfold_unit).broken, (⟨u1.at_, u1.broken, u1.base, u1.low, u1.high ++ [r1]⟩ : Gfold_unit).base, u1.low, u1.high ++ [r1]⟩ : Gfold_unit), (u1_h0, hd2))) encN_Gfold_unit_len rfl) ?_)
  show TX _ _ _ _ _ _ _ [vec encN_Gfold_unit 46 5 vu1 (zu1.set iu1 ((⟨(⟨u1.at_, u1.broken, u1.base, u1.low, u1.high ++ [r1]⟩ : Gfold_unit).at_, (⟨u1.at_, u1.broken, u1.base, u1.low, u1.high ++ [r1]⟩ : Gfold_unit).broken, (⟨u1.at_, u1.broken, u1.base, u1.low, u1.high ++ [r1]⟩ : Gfold_unit).base, u1.low, u1.high ++ [r1]⟩ : Gfold_unit), (u1_h0, hd2))), vec (encI (.i32)) 21 1 u1_h0.v u1.low, vec (encI (.i32)) 21 1 hd2.v (u1.high ++ [r1]), cells b2 [.int .i32 r1] 21]
  cases h
  exact TX.fin (rs := []) (u1_h0, hd2) (.inr rfl) Try.results50 .nil rfl (Splits.of [0, 1, 2] kr rfl)
def fold_parted_b (rcall : (List (Int × Gfold_pair)) → Int → Option (List Int)) (Msplit1 : List (Int × Gfold_pair)) (r1 : Int) : Option (List Int) := bcond (!((getM r1 Msplit1).isSome)) ( some ([r1] : List Int)
) ( andThen (rcall Msplit1 (((getM r1 Msplit1).getD (⟨0, 0⟩ : Gfold_pair)).e0)) fun (r2 : (List Int)) => grd (r2.length + 1 ≤ 2147483648) <| some (r2 ++ [((getM r1 Msplit1).getD (⟨0, 0⟩ : Gfold_pair)).e1])
)
def fold_parted_v (Msplit1 : List (Int × Gfold_pair)) (r1 : Int) : Option (List Int) := loopG (fun _ _ => none) fold_parted_b fuel Msplit1 r1
set_option maxRecDepth 100000 in
set_option maxHeartbeats 4000000 in
theorem fold_parted_fb (n : Nat) : ∀ {bsplit1 : Nat} {Msplit1 : List (Int × Gfold_pair)} {r1 : Int} {r : (List Int)} (_ : loopG (fun _ _ => none) fold_parted_b n Msplit1 r1 = some r), Fn Try.prog 51 [.map (some bsplit1), .int .i32 r1] [mapA (fun n : Int => Value.int .i32 n) (fun p : Gfold_pair => Value.agg #[.int .i32 p.e0, .int .i32 p.e1]) bsplit1 Msplit1] (fun v0 : Value => v0) (fun v0 => [mapA (fun n : Int => Value.int .i32 n) (fun p : Gfold_pair => Value.agg #[.int .i32 p.e0, .int .i32 p.e1]) bsplit1 Msplit1, vec (encI (.i32)) 21 1 v0 r]) := by
 induction n with
 | zero => intro bsplit1 Msplit1 r1 r h; exact noneE h
 | succ n hrec =>
 intro bsplit1 Msplit1 r1 r h
 rw [loopG_succ] at h
 revert hrec h
 generalize loopG (fun _ _ => none) fold_parted_b n = rcall
 intro hrec h
 unfold fold_parted_b at h
 refine Fn.intro Try.func51 rfl Try.ntmps51 (by simp) ?_
 intro w0 K
 refine TC.seq (TC.region (TO.assign rfl dc rfl (TO.nil (TX.next (TC.seq (TC.region (TO.move rfl dc rfl (TO.move rfl dc rfl ?_))))))))
 refine TO.lookupOk (k := 0) (ek := (fun n : Int => Value.int .i32 n)) (ev' := (fun p : Gfold_pair => Value.agg #[.int .i32 p.e0, .int .i32 p.e1])) (kk := r1) (z0 := (⟨0, 0⟩ : Gfold_pair)) (KeyOk.int Try.underlying21) Try.underlying67 kr rfl dc rfl rfl rfl ?_
 refine TO.move rfl dc rfl (TO.extract rfl dc rfl rfl (TO.extract rfl dc rfl rfl ?_))
 refine TO.alloc zr_73 rfl dc (fun b1 => ?_)
 refine TO.stores (k := 1) (vs := [.int .i32 (((getM r1 Msplit1).getD (⟨0, 0⟩ : Gfold_pair)).e0), .int .i32 (((getM r1 Msplit1).getD (⟨0, 0⟩ : Gfold_pair)).e1)]) (l' := [.int .i32 (((getM r1 Msplit1).getD (⟨0, 0⟩ : Gfold_pair)).e0), .int .i32 (((getM r1 Msplit1).getD (⟨0, 0⟩ : Gfold_pair)).e1)]) sz_73 rfl rfl rfl rfl rfl (show _ ≤ _ by simp) rfl rfl ?_
 show TO _ _ _ _ _ _ _ _ _ _ [mapA (fun n : Int => Value.int .i32 n) (fun p : Gfold_pair => Value.agg #[.int .i32 p.e0, .int .i32 p.e1]) bsplit1 Msplit1, cells b1 [.int .i32 (((getM r1 Msplit1).getD (⟨0, 0⟩ : Gfold_pair)).e0), .int .i32 (((getM r1 Msplit1).getD (⟨0, 0⟩ : Gfold_pair)).e1)] 73]
 refine TO.assign rfl dc rfl (TO.nil (TX.next (TC.seq (TC.seq (TC.region (TO.move rfl dc rfl (TO.un rfl dc rfl un_not (TO.nil (TX.next ?_)))))))))
 refine TC.condB rfl (fun hb1 => ?_) (fun hb1 => ?_)
 ·
  have h := condT hb1 h
  refine TC.seq (TC.region (TO.move rfl dc rfl ?_))
  refine TO.buildSlice (cs := [.int .i32 r1]) (te := 21) (ps := [(0, .tmp 15)]) rfl dc rfl (fun _ => by kernel_rfl) (fun b2 => ?_)
  refine TO.assign rfl dc rfl (TO.nil (TX.next (TC.ret (TX.thenRet (TX.toVec ([r1] : List Int) (k := 2) rfl encI_len rfl (show 1 ≤ maxLen by decide) ?_)))))
  show TX _ _ _ _ _ _ _ [mapA (fun n : Int => Value.int .i32 n) (fun p : Gfold_pair => Value.agg #[.int .i32 p.e0, .int .i32 p.e1]) bsplit1 Msplit1, cells b1 [.int .i32 (((getM r1 Msplit1).getD (⟨0, 0⟩ : Gfold_pair)).e0), .int .i32 (((getM r1 Msplit1).getD (⟨0, 0⟩ : Gfold_pair)).e1)] 73, vec (encI (.i32)) 21 1 (.slice (some ⟨b2, 0, none⟩) 1 1) ([r1] : List Int)]
  cases h
  exact TX.fin (rs := [.tmp 4]) (.slice (some ⟨b2, 0, none⟩) 1 1) (.inl rfl) Try.results51 (.cons (.tmp rfl) .nil) rfl (Splits.of [0, 2] kr rfl)
 ·
  have h := condF hb1 h
  refine TC.skip (TX.next (TC.seq ?_))
  obtain ⟨r2, hq1, h⟩ := andE h
  obtain ⟨hg1, h⟩ := grdE h
  refine TC.pad 2 ?_
  show TC _ _ _ _ _ _ _ _ _ [mapA (fun n : Int => Value.int .i32 n) (fun p : Gfold_pair => Value.agg #[.int .i32 p.e0, .int .i32 p.e1]) bsplit1 Msplit1, cells b1 [.int .i32 (((getM r1 Msplit1).getD (⟨0, 0⟩ : Gfold_pair)).e0), .int .i32 (((getM r1 Msplit1).getD (⟨0, 0⟩ : Gfold_pair)).e1)] 73, emp, emp]
  refine let vals1 : (Value × Nat) → List (Nat × Nat × Value) := fun b => [(0, 17, .map (some bsplit1)), (1, 18, .pointer (some ⟨b1, 0, none⟩)), (2, 19, .int .i32 (((getM r1 Msplit1).getD (⟨0, 0⟩ : Gfold_pair)).e0)), (3, 20, b.1), (4, 21, .pointer (some ⟨b1, 1, none⟩)), (5, 22, .int .i32 (((getM r1 Msplit1).getD (⟨0, 0⟩ : Gfold_pair)).e1)), (6, 23, .slice (some ⟨b.2, 0, none⟩) 1 1)]; let LL1 : (Nat → Prop) → (Value × Nat) → List Asn := fun D b => [mapA (fun n : Int => Value.int .i32 n) (fun p : Gfold_pair => Value.agg #[.int .i32 p.e0, .int .i32 p.e1]) bsplit1 Msplit1, cells b1 [.int .i32 (((getM r1 Msplit1).getD (⟨0, 0⟩ : Gfold_pair)).e0), .int .i32 (((getM r1 Msplit1).getD (⟨0, 0⟩ : Gfold_pair)).e1)] 73, eD D emp [(3, vec (encI (.i32)) 21 1 b.1 r2)], eD D emp [(6, cells b.2 [.int .i32 (((getM r1 Msplit1).getD (⟨0, 0⟩ : Gfold_pair)).e1)] 21)]]; ?_
  refine TC.drawG (β := Value × Nat) 7 ((.slice none 0 0 : Value), (0 : Nat)) vals1 LL1 mixed kr kr dc (fun _ => rfl) (cons_eq rfl (cons_eq rfl (cons_eq eD_none (cons_eq eD_none rfl)))) (DrawG.cons ?_ (DrawG.cons ?_ (DrawG.cons ?_ (DrawG.cons ?_ (DrawG.cons ?_ (DrawG.cons ?_ (DrawG.cons ?_ DrawG.nil))))))) ?_
  ·
   intro D b hn hd hcl
   obtain ⟨v1, b3⟩ := b
   refine TO.rewL (L' := [mapA (fun n : Int => Value.int .i32 n) (fun p : Gfold_pair => Value.agg #[.int .i32 p.e0, .int .i32 p.e1]) bsplit1 Msplit1, cells b1 [.int .i32 (((getM r1 Msplit1).getD (⟨0, 0⟩ : Gfold_pair)).e0), .int .i32 (((getM r1 Msplit1).getD (⟨0, 0⟩ : Gfold_pair)).e1)] 73, emp, eD D emp [(6, cells b3 [.int .i32 (((getM r1 Msplit1).getD (⟨0, 0⟩ : Gfold_pair)).e1)] 21)]]) (cons_eq rfl (cons_eq rfl (cons_eq (eD_miss (fun hD => hn (hcl 3 _ rfl hD 0 dc)) eD_nil) (cons_eq rfl rfl)))) ?_
   refine TO.move rfl dc (dl_old (by rfl) rfl) ?_
   exact TX.valG (v1, b3) 0 (by rfl) (by rfl) rfl (dl_cons_eq (fun _ => rfl) (dl_cons_eq (fun _ => rfl) (dl_cons_eq (fun _ => rfl) (dl_cons_eq (fun _ => rfl) (dl_cons_eq (fun _ => rfl) (dl_cons_eq (fun _ => rfl) (dl_cons_eq (fun _ => rfl) rfl))))))) (cons_eq rfl (cons_eq rfl (cons_eq ((eD_skip (by rfl)).trans (eD_miss (fun hD => hn (hcl 3 _ rfl hD 0 dc)) eD_nil)) (cons_eq ((eD_skip (by rfl)).trans rfl) rfl))))
  ·
   intro D b hn hd hcl
   obtain ⟨v1, b3⟩ := b
   refine TO.rewL (L' := [mapA (fun n : Int => Value.int .i32 n) (fun p : Gfold_pair => Value.agg #[.int .i32 p.e0, .int .i32 p.e1]) bsplit1 Msplit1, cells b1 [.int .i32 (((getM r1 Msplit1).getD (⟨0, 0⟩ : Gfold_pair)).e0), .int .i32 (((getM r1 Msplit1).getD (⟨0, 0⟩ : Gfold_pair)).e1)] 73, emp, eD D emp [(6, cells b3 [.int .i32 (((getM r1 Msplit1).getD (⟨0, 0⟩ : Gfold_pair)).e1)] 21)]]) (cons_eq rfl (cons_eq rfl (cons_eq (eD_miss (fun hD => hn (hcl 2 _ rfl (hcl 3 _ rfl hD 2 dc) 1 dc)) eD_nil) (cons_eq rfl rfl)))) ?_
   refine TO.indexArr dc Try.underlying73 sz_21 rfl dc (dl_old (by rfl) rfl) rfl (show _ = 0 from rfl) ?_
   exact TX.valG (v1, b3) 1 (by rfl) (by rfl) rfl (dl_cons_eq (fun _ => rfl) (dl_cons_eq (fun _ => rfl) (dl_cons_eq (fun _ => rfl) (dl_cons_eq (fun _ => rfl) (dl_cons_eq (fun _ => rfl) (dl_cons_eq (fun _ => rfl) (dl_cons_eq (fun _ => rfl) rfl))))))) (cons_eq rfl (cons_eq rfl (cons_eq ((eD_skip (by rfl)).trans (eD_miss (fun hD => hn (hcl 2 _ rfl (hcl 3 _ rfl hD 2 dc) 1 dc)) eD_nil)) (cons_eq ((eD_skip (by rfl)).trans rfl) rfl))))
  ·
   intro D b hn hd hcl
   obtain ⟨v1, b3⟩ := b
   refine TO.rewL (L' := [mapA (fun n : Int => Value.int .i32 n) (fun p : Gfold_pair => Value.agg #[.int .i32 p.e0, .int .i32 p.e1]) bsplit1 Msplit1, cells b1 [.int .i32 (((getM r1 Msplit1).getD (⟨0, 0⟩ : Gfold_pair)).e0), .int .i32 (((getM r1 Msplit1).getD (⟨0, 0⟩ : Gfold_pair)).e1)] 73, emp, eD D emp [(6, cells b3 [.int .i32 (((getM r1 Msplit1).getD (⟨0, 0⟩ : Gfold_pair)).e1)] 21)]]) (cons_eq rfl (cons_eq rfl (cons_eq (eD_miss (fun hD => hn (hcl 3 _ rfl hD 2 dc)) eD_nil) (cons_eq rfl rfl)))) ?_
   refine TO.load (k := 1) sc_21 rfl dc (dl_lookup (m := 1) rfl rfl (hd 1 dc)) rfl rfl ?_
   exact TX.valG (v1, b3) 2 (by rfl) (by rfl) rfl (dl_cons_eq (fun _ => rfl) (dl_cons_eq (fun _ => rfl) (dl_cons_eq (fun _ => rfl) (dl_cons_eq (fun _ => rfl) (dl_cons_eq (fun _ => rfl) (dl_cons_eq (fun _ => rfl) (dl_cons_eq (fun _ => rfl) rfl))))))) (cons_eq rfl (cons_eq rfl (cons_eq ((eD_skip (by rfl)).trans (eD_miss (fun hD => hn (hcl 3 _ rfl hD 2 dc)) eD_nil)) (cons_eq ((eD_skip (by rfl)).trans rfl) rfl))))
  ·
   intro D b hn hd hcl
   obtain ⟨_, b3⟩ := b
   refine TO.rewL (L' := [mapA (fun n : Int => Value.int .i32 n) (fun p : Gfold_pair => Value.agg #[.int .i32 p.e0, .int .i32 p.e1]) bsplit1 Msplit1, cells b1 [.int .i32 (((getM r1 Msplit1).getD (⟨0, 0⟩ : Gfold_pair)).e0), .int .i32 (((getM r1 Msplit1).getD (⟨0, 0⟩ : Gfold_pair)).e1)] 73, emp, eD D emp [(6, cells b3 [.int .i32 (((getM r1 Msplit1).getD (⟨0, 0⟩ : Gfold_pair)).e1)] 21)]]) (cons_eq rfl (cons_eq rfl (cons_eq (eD_miss hn eD_nil) (cons_eq rfl rfl)))) ?_
   refine TO.call (vs := [.map (some bsplit1), .int .i32 (((getM r1 Msplit1).getD (⟨0, 0⟩ : Gfold_pair)).e0)]) rfl dc rfl (evL.cons (dl_lookup (m := 0) rfl rfl (hd 0 dc)) (evL.cons (dl_lookup (m := 2) rfl rfl (hd 2 dc)) evL.nil)) rfl en_51 (hrec hq1) (Splits.of [0] kr rfl) ?_
   rintro v1
   show TO _ _ _ _ _ _ _ _ _ _ [emp, cells b1 [.int .i32 (((getM r1 Msplit1).getD (⟨0, 0⟩ : Gfold_pair)).e0), .int .i32 (((getM r1 Msplit1).getD (⟨0, 0⟩ : Gfold_pair)).e1)] 73, emp, eD D emp [(6, cells b3 [.int .i32 (((getM r1 Msplit1).getD (⟨0, 0⟩ : Gfold_pair)).e1)] 21)], mapA (fun n : Int => Value.int .i32 n) (fun p : Gfold_pair => Value.agg #[.int .i32 p.e0, .int .i32 p.e1]) bsplit1 Msplit1, vec (encI (.i32)) 21 1 v1 r2]
   refine TO.weakenL (L' := [mapA (fun n : Int => Value.int .i32 n) (fun p : Gfold_pair => Value.agg #[.int .i32 p.e0, .int .i32 p.e1]) bsplit1 Msplit1, cells b1 [.int .i32 (((getM r1 Msplit1).getD (⟨0, 0⟩ : Gfold_pair)).e0), .int .i32 (((getM r1 Msplit1).getD (⟨0, 0⟩ : Gfold_pair)).e1)] 73, emp, eD D emp [(6, cells b3 [.int .i32 (((getM r1 Msplit1).getD (⟨0, 0⟩ : Gfold_pair)).e1)] 21)], vec (encI (.i32)) 21 1 v1 r2]) (Splits.of [4, 1, 2, 3, 5] kr rfl) ?_
   refine TO.place 2 rfl rfl ?_
   show TO _ _ _ _ _ _ _ _ _ _ [mapA (fun n : Int => Value.int .i32 n) (fun p : Gfold_pair => Value.agg #[.int .i32 p.e0, .int .i32 p.e1]) bsplit1 Msplit1, cells b1 [.int .i32 (((getM r1 Msplit1).getD (⟨0, 0⟩ : Gfold_pair)).e0), .int .i32 (((getM r1 Msplit1).getD (⟨0, 0⟩ : Gfold_pair)).e1)] 73, vec (encI (.i32)) 21 1 v1 r2, eD D emp [(6, cells b3 [.int .i32 (((getM r1 Msplit1).getD (⟨0, 0⟩ : Gfold_pair)).e1)] 21)]]
   exact TX.valG (v1, b3) 3 (by rfl) (by rfl) rfl (dl_cons_eq (fun _ => rfl) (dl_cons_eq (fun _ => rfl) (dl_cons_eq (fun _ => rfl) (dl_cons_eq (fun hD => absurd hD hn) (dl_cons_eq (fun _ => rfl) (dl_cons_eq (fun _ => rfl) (dl_cons_eq (fun _ => rfl) rfl))))))) (cons_eq rfl (cons_eq rfl (cons_eq (eD_hit (Or.inr rfl) rfl) (cons_eq ((eD_skip (by rfl)).trans rfl) rfl))))
  ·
   intro D b hn hd hcl
   obtain ⟨v1, b3⟩ := b
   refine TO.rewL (L' := [mapA (fun n : Int => Value.int .i32 n) (fun p : Gfold_pair => Value.agg #[.int .i32 p.e0, .int .i32 p.e1]) bsplit1 Msplit1, cells b1 [.int .i32 (((getM r1 Msplit1).getD (⟨0, 0⟩ : Gfold_pair)).e0), .int .i32 (((getM r1 Msplit1).getD (⟨0, 0⟩ : Gfold_pair)).e1)] 73, eD D emp [(3, vec (encI (.i32)) 21 1 v1 r2)], emp]) (cons_eq rfl (cons_eq rfl (cons_eq rfl (cons_eq (eD_miss (fun hD => hn (hcl 5 _ rfl (hcl 6 _ rfl hD 5 dc) 4 dc)) eD_nil) rfl)))) ?_
   refine TO.indexArr dc Try.underlying73 sz_21 rfl dc (dl_old (by rfl) rfl) rfl (show _ = 1 from rfl) ?_
   exact TX.valG (v1, b3) 4 (by rfl) (by rfl) rfl (dl_cons_eq (fun _ => rfl) (dl_cons_eq (fun _ => rfl) (dl_cons_eq (fun _ => rfl) (dl_cons_eq (fun _ => rfl) (dl_cons_eq (fun _ => rfl) (dl_cons_eq (fun _ => rfl) (dl_cons_eq (fun _ => rfl) rfl))))))) (cons_eq rfl (cons_eq rfl (cons_eq ((eD_skip (by rfl)).trans rfl) (cons_eq ((eD_skip (by rfl)).trans (eD_miss (fun hD => hn (hcl 5 _ rfl (hcl 6 _ rfl hD 5 dc) 4 dc)) eD_nil)) rfl))))
  ·
   intro D b hn hd hcl
   obtain ⟨v1, b3⟩ := b
   refine TO.rewL (L' := [mapA (fun n : Int => Value.int .i32 n) (fun p : Gfold_pair => Value.agg #[.int .i32 p.e0, .int .i32 p.e1]) bsplit1 Msplit1, cells b1 [.int .i32 (((getM r1 Msplit1).getD (⟨0, 0⟩ : Gfold_pair)).e0), .int .i32 (((getM r1 Msplit1).getD (⟨0, 0⟩ : Gfold_pair)).e1)] 73, eD D emp [(3, vec (encI (.i32)) 21 1 v1 r2)], emp]) (cons_eq rfl (cons_eq rfl (cons_eq rfl (cons_eq (eD_miss (fun hD => hn (hcl 6 _ rfl hD 5 dc)) eD_nil) rfl)))) ?_
   refine TO.load (k := 1) sc_21 rfl dc (dl_lookup (m := 4) rfl rfl (hd 4 dc)) rfl rfl ?_
   exact TX.valG (v1, b3) 5 (by rfl) (by rfl) rfl (dl_cons_eq (fun _ => rfl) (dl_cons_eq (fun _ => rfl) (dl_cons_eq (fun _ => rfl) (dl_cons_eq (fun _ => rfl) (dl_cons_eq (fun _ => rfl) (dl_cons_eq (fun _ => rfl) (dl_cons_eq (fun _ => rfl) rfl))))))) (cons_eq rfl (cons_eq rfl (cons_eq ((eD_skip (by rfl)).trans rfl) (cons_eq ((eD_skip (by rfl)).trans (eD_miss (fun hD => hn (hcl 6 _ rfl hD 5 dc)) eD_nil)) rfl))))
  ·
   intro D b hn hd hcl
   obtain ⟨v1, _⟩ := b
   refine TO.rewL (L' := [mapA (fun n : Int => Value.int .i32 n) (fun p : Gfold_pair => Value.agg #[.int .i32 p.e0, .int .i32 p.e1]) bsplit1 Msplit1, cells b1 [.int .i32 (((getM r1 Msplit1).getD (⟨0, 0⟩ : Gfold_pair)).e0), .int .i32 (((getM r1 Msplit1).getD (⟨0, 0⟩ : Gfold_pair)).e1)] 73, eD D emp [(3, vec (encI (.i32)) 21 1 v1 r2)], emp]) (cons_eq rfl (cons_eq rfl (cons_eq rfl (cons_eq (eD_miss hn eD_nil) rfl)))) ?_
   refine TO.buildSlice (cs := [.int .i32 (((getM r1 Msplit1).getD (⟨0, 0⟩ : Gfold_pair)).e1)]) (te := 21) (ps := [(0, .tmp 22)]) rfl dc (evP.cons (dl_lookup (m := 5) rfl rfl (hd 5 dc)) evP.nil) (fun _ => by kernel_rfl) (fun b3 => ?_)
   refine TO.place 3 rfl rfl ?_
   show TO _ _ _ _ _ _ _ _ _ _ [mapA (fun n : Int => Value.int .i32 n) (fun p : Gfold_pair => Value.agg #[.int .i32 p.e0, .int .i32 p.e1]) bsplit1 Msplit1, cells b1 [.int .i32 (((getM r1 Msplit1).getD (⟨0, 0⟩ : Gfold_pair)).e0), .int .i32 (((getM r1 Msplit1).getD (⟨0, 0⟩ : Gfold_pair)).e1)] 73, eD D emp [(3, vec (encI (.i32)) 21 1 v1 r2)], cells b3 [.int .i32 (((getM r1 Msplit1).getD (⟨0, 0⟩ : Gfold_pair)).e1)] 21]
   exact TX.valG (v1, b3) 6 (by rfl) (by rfl) rfl (dl_cons_eq (fun _ => rfl) (dl_cons_eq (fun _ => rfl) (dl_cons_eq (fun _ => rfl) (dl_cons_eq (fun _ => rfl) (dl_cons_eq (fun _ => rfl) (dl_cons_eq (fun _ => rfl) (dl_cons_eq (fun hD => absurd hD hn) rfl))))))) (cons_eq rfl (cons_eq rfl (cons_eq ((eD_skip (by rfl)).trans rfl) (cons_eq (eD_hit (Or.inr rfl) rfl) rfl))))
  intro D b hall
  obtain ⟨v1, b3⟩ := b
  refine TO.rewL (L' := [mapA (fun n : Int => Value.int .i32 n) (fun p : Gfold_pair => Value.agg #[.int .i32 p.e0, .int .i32 p.e1]) bsplit1 Msplit1, cells b1 [.int .i32 (((getM r1 Msplit1).getD (⟨0, 0⟩ : Gfold_pair)).e0), .int .i32 (((getM r1 Msplit1).getD (⟨0, 0⟩ : Gfold_pair)).e1)] 73, vec (encI (.i32)) 21 1 v1 r2, cells b3 [.int .i32 (((getM r1 Msplit1).getD (⟨0, 0⟩ : Gfold_pair)).e1)] 21]) (cons_eq rfl (cons_eq rfl (cons_eq (eD_hit (hall 3 dc) rfl) (cons_eq (eD_hit (hall 6 dc) rfl) rfl)))) ?_
  refine TO.appendVec (k := 2) (k2 := 3) (ys := [((getM r1 Msplit1).getD (⟨0, 0⟩ : Gfold_pair)).e1]) Try.underlying44 el_21 encI_len encI_one rfl dc rfl rfl rfl rfl rfl rfl hg1 (fun v2 => ?_)
  refine TO.assign rfl dc rfl (TO.nil (TX.next (TC.ret ?_)))
  cases h
  exact TX.fin (rs := [.tmp 4]) v2 (.inl rfl) Try.results51 (.cons (.tmp rfl) .nil) rfl (Splits.of [0, 2] kr rfl)
theorem fold_parted_fn {bsplit1 : Nat} {Msplit1 : List (Int × Gfold_pair)} {r1 : Int} {r : (List Int)} (h : fold_parted_v Msplit1 r1 = some r) : Fn Try.prog 51 [.map (some bsplit1), .int .i32 r1] [mapA (fun n : Int => Value.int .i32 n) (fun p : Gfold_pair => Value.agg #[.int .i32 p.e0, .int .i32 p.e1]) bsplit1 Msplit1] (fun v0 : Value => v0) (fun v0 => [mapA (fun n : Int => Value.int .i32 n) (fun p : Gfold_pair => Value.agg #[.int .i32 p.e0, .int .i32 p.e1]) bsplit1 Msplit1, vec (encI (.i32)) 21 1 v0 r]) := by
 unfold fold_parted_v at h
 exact fold_parted_fb fuel  h
def fold_plain_s1 (u1 : Gfold_unit) (j1 : Option ByteArray) (ag1 : Int → Bool → Nat → Option ByteArray) (from3 : Int) (head3 : Bool) (m3 : Nat) : Option ByteArray := bcond (decide (m3 < (pcs str_f9f7e721.data.toList).length)) ( andThen ((pcs str_f9f7e721.data.toList)[m3]?) fun (p1 : Pc) => joinK (fun (j2 : Int → Option ByteArray) => bcond (((p1.r : Int) : Int) == 32) ( bcond (decide ((0 : Int) ≤ from3)) ( grd (0 ≤ (from3 : Int) ∧ (from3 : Int) ≤ (p1.i : Int) ∧ ((p1.i : Int) : Int) ≤ (str_f9f7e721.size : Int)) <| some (cutB str_f9f7e721 from3 (p1.i : Int))
) ( bcond (((p1.r : Int) : Int) == 32) ( j2 from3
) ( bcond (head3) ( bcond (((p1.r : Int) : Int) == (lower u1.base)) ( grd (I64 ((p1.i : Int) + ((Utf8.encode (p1.r : Int)).size : Int))) <| j2 ((p1.i : Int) + ((Utf8.encode (p1.r : Int)).size : Int))
) ( j2 from3
)
) ( j2 from3
)
)
)
) ( bcond (((p1.r : Int) : Int) == 32) ( j2 from3
) ( bcond (head3) ( bcond (((p1.r : Int) : Int) == (lower u1.base)) ( grd (I64 ((p1.i : Int) + ((Utf8.encode (p1.r : Int)).size : Int))) <| j2 ((p1.i : Int) + ((Utf8.encode (p1.r : Int)).size : Int))
) ( j2 from3
)
) ( j2 from3
)
)
)
) (fun (from4 : Int) => ag1 from4 (((p1.r : Int) : Int) == 32) (m3 + 1)
)
) ( j1
)
def fold_plain_v (u1 : Gfold_unit) : Option ByteArray := andThen (fold_unit_letter_v u1) fun (r1 : Bool) => bcond (!r1) ( some (Utf8.encode u1.base)
) ( joinK (fun (j1 : Option ByteArray) => grd (I32 u1.base) <| loopG (fun _ _ _ => none) (fold_plain_s1 u1 j1) fuel (-1) true 0
) ( some (Utf8.encode (lower u1.base))
)
)
set_option maxRecDepth 100000 in
set_option maxHeartbeats 4000000 in
theorem fold_plain_fn {u1 : Gfold_unit} {u1_h0 u1_h1 : Hd} {r : ByteArray} (h : fold_plain_v u1 = some r) : Fn Try.prog 26 [.agg #[.int .i64 u1.at_, .int .u8 u1.broken, .int .i32 u1.base, u1_h0.v, u1_h1.v]] [vec (encI (.i32)) 21 1 u1_h0.v u1.low, vec (encI (.i32)) 21 1 u1_h1.v u1.high] (fun _b : Unit => .string r) (fun _b => [vec (encI (.i32)) 21 1 u1_h0.v u1.low, vec (encI (.i32)) 21 1 u1_h1.v u1.high]) := by
 unfold fold_plain_v at h
 refine Fn.intro Try.func26 rfl Try.ntmps26 (by simp) ?_
 intro w0 K
 refine TC.seq (TC.region ?_)
 refine TO.box rfl dc rfl (fun b1 => ?_)
 refine TO.assign rfl dc rfl (TO.nil (TX.next (TC.seq (TC.seq (TC.region (TO.loads (k := 2) (cs := [.int .i64 u1.at_, .int .u8 u1.broken, .int .i32 u1.base, u1_h0.v, u1_h1.v]) rw_46 rfl dc rfl rfl rfl rfl ?_))))))
 obtain ⟨r1, hq1, h⟩ := andE h
 refine TO.callK (v := .bool r1) (vs := [.agg #[.int .i64 u1.at_, .int .u8 u1.broken, .int .i32 u1.base, u1_h0.v, u1_h1.v]]) rfl dc rfl rfl rfl en_42 (fold_unit_letter_fn (u1 := u1) (u1_h0 := u1_h0) (u1_h1 := u1_h1) hq1) [0, 1] kr rfl (TO.un rfl dc rfl un_not (TO.nil (TX.next ?_)))
 refine TC.condB rfl (fun hb1 => ?_) (fun hb1 => ?_)
 ·
  have h := condT hb1 h
  refine TC.seq (TC.region (TO.fieldAddr fl_46_2 rfl dc rfl (show _ = 2 from rfl) (TO.load (k := 2) sc_21 rfl dc rfl rfl rfl (TO.conv rfl dc rfl (conv_rune Try.underlying21 Try.underlying9) (TO.assign rfl dc rfl (TO.nil (TX.next (TC.ret (TX.thenRet ?_)))))))))
  cases h
  exact TX.fin (rs := [.tmp 2]) () (.inl rfl) Try.results26 (.cons (.tmp rfl) .nil) rfl (Splits.of [0, 1] kr rfl)
 ·
  have h := condF hb1 h
  refine TC.skip (TX.next ?_)
  obtain ⟨j1, hj1, h⟩ := joinE h
  refine TC.cutN (β := Unit) 3 rfl (fun b => j1 = some r) (fun b => []) (fun b => [(3, .int .i32 (lower u1.base))]) (fun b => [vec (encI (.i32)) 21 1 u1_h0.v u1.low, vec (encI (.i32)) 21 1 u1_h1.v u1.high]) (fun cut => ?_) ?_
  ·
   refine TC.seq (TC.region (TO.fieldAddr fl_46_2 rfl dc rfl (show _ = 2 from rfl) (TO.load (k := 2) sc_21 rfl dc rfl rfl rfl ?_)))
   obtain ⟨hg1, h⟩ := grdE h
   refine TO.callP (v := .int .i32 (lower u1.base)) (vs := [.int .i32 u1.base]) rfl dc rfl rfl rfl en_52 (FnP.of_same fun w => lower_any u1.base w hg1.1 hg1.2) ?_
   refine TO.assign rfl dc rfl (TO.nil (TX.next (TC.seq (TC.region (TO.assign rfl dc rfl (TO.nil (TX.next (TC.seq (TC.region (TO.assign rfl dc rfl (TO.nil (TX.next (cut ?_)))))))))))))
   refine TC.seq (TC.region ?_)
   refine TO.rangeStr Try.underlying9 rfl dc rfl (fun b2 => ?_)
   show TO _ _ _ _ _ _ _ _ _ _ [vec (encI (.i32)) 21 1 u1_h0.v u1.low, vec (encI (.i32)) 21 1 u1_h1.v u1.high, cells b1 [.int .i64 u1.at_, .int .u8 u1.broken, .int .i32 u1.base, u1_h0.v, u1_h1.v] 46, obj b2 (.stringIter str_f9f7e721 (posAt str_f9f7e721 0))]
   refine TO.nil (TX.next (TC.block ?_))
   refine TC.loopD (β := Nat × Int × Bool × Nat) (fun b => loopG (fun _ _ _ => none) (fold_plain_s1 u1 j1) b.1 b.2.1 b.2.2.1 b.2.2.2 = some r) (fun b => []) (fun b => [(3, .int .i32 (lower u1.base)), (4, .int .i64 b.2.1), (5, .bool b.2.2.1), (17, .pointer (some ⟨b2, 0, none⟩))]) (fun b => [vec (encI (.i32)) 21 1 u1_h0.v u1.low, vec (encI (.i32)) 21 1 u1_h1.v u1.high, obj b2 (.stringIter str_f9f7e721 (posAt str_f9f7e721 b.2.2.2))]) (fun b => b.1) (fuel, (-1), true, 0) h rfl (Sbs.cons rfl (Sbs.cons rfl (Sbs.cons rfl (Sbs.cons rfl (Sbs.nil))))) (Splits.of [0, 1, 3] kr rfl) ?_
   rintro ⟨n1, from3, head3, m3⟩ h
   cases n1 with
   | zero => exact noneE h
   | succ n1 =>
    obtain ⟨ag1, hag1⟩ : ∃ ag, ag = loopG (fun _ _ _ => none) (fold_plain_s1 u1 j1) n1 := ⟨_, rfl⟩
    have h : fold_plain_s1 u1 j1 ag1 from3 head3 m3 = some r := by rw [hag1]; exact h
    unfold fold_plain_s1 at h
    show TC _ _ _ _ _ ([]) _ _ [(3, .int .i32 (lower u1.base)), (4, .int .i64 from3), (5, .bool head3), (17, .pointer (some ⟨b2, 0, none⟩))] [vec (encI (.i32)) 21 1 u1_h0.v u1.low, vec (encI (.i32)) 21 1 u1_h1.v u1.high, obj b2 (.stringIter str_f9f7e721 (posAt str_f9f7e721 m3))]
    refine TC.seq (TC.region ?_)
    refine TO.bySplit (b := decide (m3 < (pcs str_f9f7e721.data.toList).length)) (fun hb2 => ?_) (fun hb2 => ?_)
    ·
     have h := condT hb2 h
     obtain ⟨p1, hq2, h⟩ := andE h
     refine TO.nextStr (k := 2) (m := m3) (p := p1) rfl dc rfl rfl hq2 (TO.extract rfl dc rfl rfl (TO.nil (TX.next (TC.seq (TC.condT rfl (TC.skip (TX.next (TC.block ?_))))))))
     obtain ⟨j2, hj2, h⟩ := joinE h
     refine TC.cutN (β := Int) 1 rfl (fun b => j2 b = some r) (fun b => []) (fun b => [(3, .int .i32 (lower u1.base)), (4, .int .i64 b), (7, .int .i32 (p1.r : Int)), (17, .pointer (some ⟨b2, 0, none⟩))]) (fun b => [vec (encI (.i32)) 21 1 u1_h0.v u1.low, vec (encI (.i32)) 21 1 u1_h1.v u1.high, obj b2 (.stringIter str_f9f7e721 (posAt str_f9f7e721 (m3 + 1)))]) (fun cut => ?_) ?_
     ·
      refine TC.seq (TC.region (TO.extract rfl dc rfl rfl (TO.extract rfl dc rfl rfl (TO.assign rfl dc rfl (TO.assign rfl dc rfl (TO.nil (TX.next (cut (TC.block (TC.seq (TC.region (TO.move rfl dc rfl (TO.bin rfl dc rfl rfl bin_eql ?_)))))))))))))
      refine TO.move rfl dc rfl ?_
      refine TO.split (s := 25) rfl (fun hb3 => ?_) (fun hb3 => ?_)
      ·
       have h := condT hb3 h
       refine TO.move rfl dc rfl (TO.bin rfl dc rfl rfl bin_geq (TO.pick (b := true) rfl dc rfl rfl (TO.assign rfl dc rfl (TO.nil (TX.next ?_)))))
       refine TC.condB rfl (fun hb4 => ?_) (fun hb4 => ?_)
       ·
        have h := condT hb4 h
        refine TC.seq (TC.region (TO.move rfl dc rfl (TO.move rfl dc rfl ?_)))
        obtain ⟨hg2, h⟩ := grdE h
        refine TO.slice rfl dc rfl rfl rfl (slice_stringI (i := from3) (j := (p1.i : Int)) Try.underlying9 (.inr rfl) (.inr rfl) hg2) (TO.assign rfl dc rfl (TO.nil (TX.next (TC.ret (TX.blockRet (TX.thenRet (TX.blockRet (TX.thenRet (TX.blockRet (TX.thenRet ?_))))))))))
        cases h
        exact TX.fin (rs := [.tmp 2]) () (.inl rfl) Try.results26 (.cons (.tmp rfl) .nil) rfl (Splits.of [0, 1] kr rfl)
       ·
        have h := condF hb4 h
        refine TC.seq (TC.region (TO.move rfl dc rfl (TO.bin rfl dc rfl rfl bin_eql (TO.assign rfl dc rfl (TO.nil (TX.next ?_))))))
        refine TC.condB rfl (fun hb5 => ?_) (fun hb5 => ?_)
        ·
         have h := condT hb5 h
         refine TC.skip (TX.blockNormal ?_)
         exact TX.meetD from3 h rfl (Sbs.cons rfl (Sbs.cons rfl (Sbs.cons rfl (Sbs.cons rfl (Sbs.nil))))) (Splits.of [0, 1, 2] kr rfl)
        ·
         have h := condF hb5 h
         refine TC.seq (TC.region (TO.move rfl dc rfl (TO.move rfl dc rfl ?_)))
         refine TO.split (s := 37) rfl (fun hb6 => ?_) (fun hb6 => ?_)
         ·
          have h := condT hb6 h
          refine TO.move rfl dc rfl (TO.move rfl dc rfl (TO.bin rfl dc rfl rfl bin_eql (TO.pick (b := true) rfl dc rfl rfl (TO.assign rfl dc rfl (TO.nil (TX.next ?_))))))
          refine TC.condB rfl (fun hb7 => ?_) (fun hb7 => ?_)
          ·
           have h := condT hb7 h
           refine TC.region (TO.move rfl dc rfl (TO.move rfl dc rfl (TO.conv rfl dc rfl (conv_rune Try.underlying21 Try.underlying9) (TO.lenStr rfl dc rfl Try.underlying9 ?_))))
           obtain ⟨hg3, h⟩ := grdE h
           refine TO.bin rfl dc rfl rfl (bin_add (r := (p1.i : Int) + ((Utf8.encode (p1.r : Int)).size : Int)) (IntWalk.i64_in _ hg3)) (TO.assign rfl dc rfl (TO.nil (TX.blockNormal ?_)))
           exact TX.meetD ((p1.i : Int) + ((Utf8.encode (p1.r : Int)).size : Int)) h rfl (Sbs.cons rfl (Sbs.cons rfl (Sbs.cons rfl (Sbs.cons rfl (Sbs.nil))))) (Splits.of [0, 1, 2] kr rfl)
          ·
           have h := condF hb7 h
           refine TC.skip (TX.blockNormal ?_)
           exact TX.meetD from3 h rfl (Sbs.cons rfl (Sbs.cons rfl (Sbs.cons rfl (Sbs.cons rfl (Sbs.nil))))) (Splits.of [0, 1, 2] kr rfl)
         ·
          have h := condF hb6 h
          refine TO.skip rfl dc (TO.skip rfl dc (TO.skip rfl dc (TO.pick (b := false) rfl dc rfl rfl (TO.assign rfl dc rfl (TO.nil (TX.next (TC.condF rfl (TC.skip (TX.blockNormal ?_)))))))))
          exact TX.meetD from3 h rfl (Sbs.cons rfl (Sbs.cons rfl (Sbs.cons rfl (Sbs.cons rfl (Sbs.nil))))) (Splits.of [0, 1, 2] kr rfl)
      ·
       have h := condF hb3 h
       refine TO.skip rfl dc (TO.skip rfl dc (TO.pick (b := false) rfl dc rfl rfl (TO.assign rfl dc rfl (TO.nil (TX.next (TC.condF rfl (TC.seq (TC.region (TO.move rfl dc rfl (TO.bin rfl dc rfl rfl bin_eql (TO.assign rfl dc rfl (TO.nil (TX.next ?_)))))))))))))
       refine TC.condB rfl (fun hb8 => ?_) (fun hb8 => ?_)
       ·
        have h := condT hb8 h
        refine TC.skip (TX.blockNormal ?_)
        exact TX.meetD from3 h rfl (Sbs.cons rfl (Sbs.cons rfl (Sbs.cons rfl (Sbs.cons rfl (Sbs.nil))))) (Splits.of [0, 1, 2] kr rfl)
       ·
        have h := condF hb8 h
        refine TC.seq (TC.region (TO.move rfl dc rfl (TO.move rfl dc rfl ?_)))
        refine TO.split (s := 37) rfl (fun hb9 => ?_) (fun hb9 => ?_)
        ·
         have h := condT hb9 h
         refine TO.move rfl dc rfl (TO.move rfl dc rfl (TO.bin rfl dc rfl rfl bin_eql (TO.pick (b := true) rfl dc rfl rfl (TO.assign rfl dc rfl (TO.nil (TX.next ?_))))))
         refine TC.condB rfl (fun hb10 => ?_) (fun hb10 => ?_)
         ·
          have h := condT hb10 h
          refine TC.region (TO.move rfl dc rfl (TO.move rfl dc rfl (TO.conv rfl dc rfl (conv_rune Try.underlying21 Try.underlying9) (TO.lenStr rfl dc rfl Try.underlying9 ?_))))
          obtain ⟨hg4, h⟩ := grdE h
          refine TO.bin rfl dc rfl rfl (bin_add (r := (p1.i : Int) + ((Utf8.encode (p1.r : Int)).size : Int)) (IntWalk.i64_in _ hg4)) (TO.assign rfl dc rfl (TO.nil (TX.blockNormal ?_)))
          exact TX.meetD ((p1.i : Int) + ((Utf8.encode (p1.r : Int)).size : Int)) h rfl (Sbs.cons rfl (Sbs.cons rfl (Sbs.cons rfl (Sbs.cons rfl (Sbs.nil))))) (Splits.of [0, 1, 2] kr rfl)
         ·
          have h := condF hb10 h
          refine TC.skip (TX.blockNormal ?_)
          exact TX.meetD from3 h rfl (Sbs.cons rfl (Sbs.cons rfl (Sbs.cons rfl (Sbs.cons rfl (Sbs.nil))))) (Splits.of [0, 1, 2] kr rfl)
        ·
         have h := condF hb9 h
         refine TO.skip rfl dc (TO.skip rfl dc (TO.skip rfl dc (TO.pick (b := false) rfl dc rfl rfl (TO.assign rfl dc rfl (TO.nil (TX.next (TC.condF rfl (TC.skip (TX.blockNormal ?_)))))))))
         exact TX.meetD from3 h rfl (Sbs.cons rfl (Sbs.cons rfl (Sbs.cons rfl (Sbs.cons rfl (Sbs.nil))))) (Splits.of [0, 1, 2] kr rfl)
     ·
      rintro from4 h
      rw [hj2] at h
      show TC _ _ _ _ _ ([]) _ _ [(3, .int .i32 (lower u1.base)), (4, .int .i64 from4), (7, .int .i32 (p1.r : Int)), (17, .pointer (some ⟨b2, 0, none⟩))] [vec (encI (.i32)) 21 1 u1_h0.v u1.low, vec (encI (.i32)) 21 1 u1_h1.v u1.high, obj b2 (.stringIter str_f9f7e721 (posAt str_f9f7e721 (m3 + 1)))]
      refine TC.region (TO.move rfl dc rfl (TO.bin rfl dc rfl rfl bin_eql (TO.assign rfl dc rfl (TO.nil (TX.blockNormal ?_)))))
      subst hag1
      exact TX.againD (n1, from4, ((p1.r : Int) : Int) == 32, m3 + 1) h (Nat.lt_succ_self _) rfl (Sbs.cons rfl (Sbs.cons rfl (Sbs.cons rfl (Sbs.cons rfl (Sbs.nil))))) (Splits.of [0, 1, 2] kr rfl)
    ·
     have h := condF hb2 h
     refine TO.nextEnd (k := 2) (m := m3) rfl dc rfl rfl (Nat.le_of_not_lt (of_decide_eq_false hb2)) (TO.extract rfl dc rfl rfl (TO.nil (TX.next (TC.seq (TC.condF rfl (TC.exit (TX.thenExit (TX.thenExit (TX.blockHere ?_)))))))))
     exact TX.meetD () h rfl (Sbs.cons rfl (Sbs.nil)) (Splits.of [0, 1] kr rfl)
  ·
   rintro _ h
   rw [hj1] at h
   show TC _ _ _ _ _ ([]) _ _ [(3, .int .i32 (lower u1.base))] [vec (encI (.i32)) 21 1 u1_h0.v u1.low, vec (encI (.i32)) 21 1 u1_h1.v u1.high]
   refine TC.seq (TC.region (TO.move rfl dc rfl (TO.conv rfl dc rfl (conv_rune Try.underlying21 Try.underlying9) (TO.assign rfl dc rfl (TO.nil (TX.next (TC.ret ?_)))))))
   cases h
   exact TX.fin (rs := [.tmp 2]) () (.inl rfl) Try.results26 (.cons (.tmp rfl) .nil) rfl (Splits.of [0, 1] kr rfl)
end Go.Proofs.Ytlamcpgnmeileaa
namespace Go.Proofs.Ytlamcpgnmeileaa
open Go.RowKit Go.Lib
set_option linter.unusedVariables false
set_option linter.unusedSimpArgs false
def str_37a80f8f : ByteArray := ⟨(List.toArray (List.append (List.append (List.append (List.append [204, 128, 65, 195, 128, 69, 195, 136, 73, 195, 140, 79, 195, 146, 85, 195, 153, 97, 195, 160, 101, 195, 168, 105, 195, 172, 111, 195, 178, 117, 195, 185, 208, 149, 208, 128, 208, 152, 208, 141] [208, 181, 209, 144, 208, 184, 209, 157, 204, 129, 65, 195, 129, 69, 195, 137, 73, 195, 141, 79, 195, 147, 85, 195, 154, 89, 195, 157, 97, 195, 161, 101, 195, 169, 105, 195, 173, 111, 195, 179, 117]) (List.append [195, 186, 121, 195, 189, 67, 196, 134, 76, 196, 185, 78, 197, 131, 82, 197, 148, 83, 197, 154, 90, 197, 185, 99, 196, 135, 108, 196, 186, 110, 197, 132, 114, 197, 149, 115, 197, 155, 122, 197, 186] [206, 145, 206, 134, 206, 149, 206, 136, 206, 151, 206, 137, 206, 153, 206, 138, 206, 159, 206, 140, 206, 165, 206, 142, 206, 169, 206, 143, 206, 177, 206, 172, 206, 181, 206, 173, 206, 183, 206, 174, 206])) (List.append (List.append [185, 206, 175, 206, 191, 207, 140, 207, 133, 207, 141, 207, 137, 207, 142, 208, 147, 208, 131, 208, 154, 208, 140, 208, 179, 209, 147, 208, 186, 209, 156, 207, 138, 206, 144, 207, 139, 206, 176, 204] [130, 65, 195, 130, 69, 195, 138, 73, 195, 142, 79, 195, 148, 85, 195, 155, 97, 195, 162, 101, 195, 170, 105, 195, 174, 111, 195, 180, 117, 195, 187, 67, 196, 136, 71, 196, 156, 72, 196, 164, 74]) (List.append [196, 180, 83, 197, 156, 87, 197, 180, 89, 197, 182, 99, 196, 137, 103, 196, 157, 104, 196, 165, 106, 196, 181, 115, 197, 157, 119, 197, 181, 121, 197, 183, 204, 131, 65, 195, 131, 78, 195, 145, 79] [195, 149, 97, 195, 163, 110, 195, 177, 111, 195, 181, 73, 196, 168, 85, 197, 168, 105, 196, 169, 117, 197, 169, 204, 132, 65, 196, 128, 69, 196, 146, 73, 196, 170, 79, 197, 140, 85, 197, 170, 97]))) (List.append (List.append (List.append [196, 129, 101, 196, 147, 105, 196, 171, 111, 197, 141, 117, 197, 171, 204, 134, 65, 196, 130, 69, 196, 148, 71, 196, 158, 73, 196, 172, 79, 197, 142, 85, 197, 172, 97, 196, 131, 101, 196, 149] [103, 196, 159, 105, 196, 173, 111, 197, 143, 117, 197, 173, 208, 152, 208, 153, 208, 163, 208, 142, 208, 184, 208, 185, 209, 131, 209, 158, 204, 135, 67, 196, 138, 69, 196, 150, 71, 196, 160, 73, 196]) (List.append [176, 90, 197, 187, 99, 196, 139, 101, 196, 151, 103, 196, 161, 122, 197, 188, 204, 136, 65, 195, 132, 69, 195, 139, 73, 195, 143, 79, 195, 150, 85, 195, 156, 97, 195, 164, 101, 195, 171, 105, 195] [175, 111, 195, 182, 117, 195, 188, 121, 195, 191, 89, 197, 184, 208, 149, 208, 129, 208, 134, 208, 135, 208, 181, 209, 145, 209, 150, 209, 151, 206, 153, 206, 170, 206, 165, 206, 171, 206, 185, 207, 138])) (List.append (List.append [207, 133, 207, 139, 204, 138, 65, 195, 133, 85, 197, 174, 97, 195, 165, 117, 197, 175, 204, 139, 79, 197, 144, 85, 197, 176, 111, 197, 145, 117, 197, 177, 204, 140, 67, 196, 140, 68, 196, 142, 69] [196, 154, 76, 196, 189, 78, 197, 135, 82, 197, 152, 83, 197, 160, 84, 197, 164, 90, 197, 189, 99, 196, 141, 100, 196, 143, 101, 196, 155, 108, 196, 190, 110, 197, 136, 114, 197, 153, 115, 197, 161]) (List.append [116, 197, 165, 122, 197, 190, 204, 167, 67, 195, 135, 71, 196, 162, 75, 196, 182, 76, 196, 187, 78, 197, 133, 82, 197, 150, 83, 197, 158, 84, 197, 162, 99, 195, 167, 103, 196, 163, 107, 196, 183] [108, 196, 188, 110, 197, 134, 114, 197, 151, 115, 197, 159, 116, 197, 163, 204, 168, 65, 196, 132, 69, 196, 152, 73, 196, 174, 85, 197, 178, 97, 196, 133, 101, 196, 153, 105, 196, 175, 117, 197, 179])))))⟩
def fold_pairs_s1 (ag1 : Int → Int → Bool → Nat → Option (List (Gfold_pair × Int))) (p7 : Int) (p8 : Int) (base4 : Bool) (m4 : Nat) : Option (List (Gfold_pair × Int)) := bcond (decide (m4 < (pcs str_37a80f8f.data.toList).length)) ( andThen ((pcs str_37a80f8f.data.toList)[m4]?) fun (p9 : Pc) => joinK (fun (j1 : Int → Option (List (Gfold_pair × Int))) => grd (I32 (p9.r : Int)) <| bcond (((kind (p9.r : Int)) : Int) == 2) ( ag1 p7 (p9.r : Int) true (m4 + 1)
) ( bcond (base4) ( j1 (p9.r : Int)
) ( consO ((⟨p7, p8⟩ : Gfold_pair), (p9.r : Int)) <| j1 p7
)
)
) (fun (p10 : Int) => ag1 p10 p8 (!base4) (m4 + 1)
)
) ( some []
)
def fold_pairs_v  : Option (List (Gfold_pair × Int)) := loopG (fun _ _ _ _ => none) (fold_pairs_s1) fuel 0 0 true 0
set_option maxRecDepth 100000 in
set_option maxHeartbeats 4000000 in
theorem fold_pairs_itr  {xs : (List (Gfold_pair × Int))} (h : fold_pairs_v = some xs) : Itr Try.prog 66 [] (fun q : Gfold_pair × Int => [.agg #[.int .i32 q.1.e0, .int .i32 q.1.e1], .int .i32 q.2]) xs [] := by
 unfold fold_pairs_v at h
 refine Itr.intro Try.func66 rfl Try.ntmps66 (by simp) ?_
 intro l w0 K I X hRo hy
 obtain ⟨r0, hx0⟩ : ∃ r, xs = [] ++ r := ⟨xs, rfl⟩
 have hr0 : xs = r0 := hx0
 rw [hr0] at h
 refine TC.seq (TC.region ?_)
 refine TO.alloc zr_73 rfl dc (fun b1 => ?_)
 refine TO.nil (TX.next (TC.seq (TC.region (TO.assign rfl dc rfl (TO.nil (TX.next (TC.seq (TC.region ?_))))))))
 refine TO.rangeStr Try.underlying9 rfl dc rfl (fun b2 => ?_)
 show TO _ _ _ _ _ _ _ _ _ _ [I [], cells b1 [.int .i32 0, .int .i32 0] 73, obj b2 (.stringIter str_37a80f8f (posAt str_37a80f8f 0))]
 refine TO.nil (TX.next (TC.block ?_))
 refine TC.loopD (β := Nat × Int × Int × Bool × Nat × (List (Gfold_pair × Int)) × (List (Gfold_pair × Int))) (fun b => loopG (fun _ _ _ _ => none) (fold_pairs_s1) b.1 b.2.1 b.2.2.1 b.2.2.2.1 b.2.2.2.2.1 = some b.2.2.2.2.2.2 ∧ xs = b.2.2.2.2.2.1 ++ b.2.2.2.2.2.2) (fun b => []) (fun b => [(0, .func (.yield l) #[] #[]), (2, .pointer (some ⟨b1, 0, none⟩)), (3, .bool b.2.2.2.1), (6, .pointer (some ⟨b2, 0, none⟩))]) (fun b => [I b.2.2.2.2.2.1, cells b1 [.int .i32 b.2.1, .int .i32 b.2.2.1] 73, obj b2 (.stringIter str_37a80f8f (posAt str_37a80f8f b.2.2.2.2.1))]) (fun b => b.1) (fuel, 0, 0, true, 0, ([] : List (Gfold_pair × Int)), r0) ⟨h, hx0⟩ rfl (Sbs.cons rfl (Sbs.cons rfl (Sbs.cons rfl (Sbs.cons rfl (Sbs.nil))))) (Splits.of [0, 1, 2] kr rfl) ?_
 rintro ⟨n1, p7, p8, base4, m4, acc3, rr3⟩ ⟨h, hx3⟩
 cases n1 with
 | zero => exact noneE h
 | succ n1 =>
  obtain ⟨ag1, hag1⟩ : ∃ ag, ag = loopG (fun _ _ _ _ => none) (fold_pairs_s1) n1 := ⟨_, rfl⟩
  have h : fold_pairs_s1 ag1 p7 p8 base4 m4 = some rr3 := by rw [hag1]; exact h
  unfold fold_pairs_s1 at h
  show TC _ _ _ _ _ ([]) _ _ [(0, .func (.yield l) #[] #[]), (2, .pointer (some ⟨b1, 0, none⟩)), (3, .bool base4), (6, .pointer (some ⟨b2, 0, none⟩))] [I acc3, cells b1 [.int .i32 p7, .int .i32 p8] 73, obj b2 (.stringIter str_37a80f8f (posAt str_37a80f8f m4))]
  refine TC.seq (TC.region ?_)
  refine TO.bySplit (b := decide (m4 < (pcs str_37a80f8f.data.toList).length)) (fun hb1 => ?_) (fun hb1 => ?_)
  ·
   have h := condT hb1 h
   obtain ⟨p9, hq1, h⟩ := andE h
   refine TO.nextStr (k := 2) (m := m4) (p := p9) rfl dc rfl rfl hq1 (TO.extract rfl dc rfl rfl (TO.nil (TX.next (TC.seq (TC.condT rfl (TC.skip (TX.next (TC.block ?_))))))))
   obtain ⟨j1, hj1, h⟩ := joinE h
   refine TC.cutN (β := Int × (List (Gfold_pair × Int)) × (List (Gfold_pair × Int))) 1 rfl (fun b => j1 b.1 = some b.2.2 ∧ xs = b.2.1 ++ b.2.2) (fun b => []) (fun b => [(0, .func (.yield l) #[] #[]), (2, .pointer (some ⟨b1, 0, none⟩)), (3, .bool base4), (6, .pointer (some ⟨b2, 0, none⟩))]) (fun b => [I b.2.1, cells b1 [.int .i32 b.1, .int .i32 p8] 73, obj b2 (.stringIter str_37a80f8f (posAt str_37a80f8f (m4 + 1)))]) (fun cut => ?_) ?_
   ·
    refine TC.seq (TC.region (TO.extract rfl dc rfl rfl (TO.assign rfl dc rfl (TO.nil (TX.next (cut (TC.block (TC.seq (TC.region (TO.move rfl dc rfl ?_))))))))))
    obtain ⟨hg1, h⟩ := grdE h
    refine TO.callP (v := .int .i64 (kind (p9.r : Int))) (vs := [.int .i32 (p9.r : Int)]) rfl dc rfl rfl rfl en_16 (FnP.of_same fun w => kind_any (p9.r : Int) w hg1.1 hg1.2) ?_
    refine TO.bin rfl dc rfl rfl bin_eql (TO.assign rfl dc rfl (TO.nil (TX.next ?_)))
    refine TC.condB rfl (fun hb2 => ?_) (fun hb2 => ?_)
    ·
     have h := condT hb2 h
     refine TC.seq (TC.region (TO.move rfl dc rfl (TO.indexArr dc Try.underlying73 sz_21 rfl dc rfl rfl (show _ = 1 from rfl) ?_)))
     refine TO.store (k := 1) (l' := [.int .i32 p7, .int .i32 (p9.r : Int)]) sz_21 rfl rfl rfl rfl rfl (fun _ _ => rfl) rfl ?_
     show TO _ _ _ _ _ _ _ _ _ _ [I acc3, cells b1 [.int .i32 p7, .int .i32 (p9.r : Int)] 73, obj b2 (.stringIter str_37a80f8f (posAt str_37a80f8f (m4 + 1)))]
     refine TO.assign rfl dc rfl (TO.nil (TX.next (TC.exit (TX.blockOn dc (TX.thenExit (TX.blockHere ?_))))))
     subst hag1
     exact TX.againD (n1, p7, (p9.r : Int), true, m4 + 1, acc3, rr3) ⟨h, hx3⟩ (Nat.lt_succ_self _) rfl (Sbs.cons rfl (Sbs.cons rfl (Sbs.cons rfl (Sbs.cons rfl (Sbs.nil))))) (Splits.of [0, 1, 2] kr rfl)
    ·
     have h := condF hb2 h
     refine TC.seq (TC.region (TO.move rfl dc rfl (TO.assign rfl dc rfl (TO.nil (TX.next ?_)))))
     refine TC.condB rfl (fun hb3 => ?_) (fun hb3 => ?_)
     ·
      have h := condT hb3 h
      refine TC.region (TO.move rfl dc rfl (TO.indexArr dc Try.underlying73 sz_21 rfl dc rfl rfl (show _ = 0 from rfl) ?_))
      refine TO.store (k := 1) (l' := [.int .i32 (p9.r : Int), .int .i32 p8]) sz_21 rfl rfl rfl rfl rfl (fun _ _ => rfl) rfl ?_
      show TO _ _ _ _ _ _ _ _ _ _ [I acc3, cells b1 [.int .i32 (p9.r : Int), .int .i32 p8] 73, obj b2 (.stringIter str_37a80f8f (posAt str_37a80f8f (m4 + 1)))]
      refine TO.nil (TX.blockNormal ?_)
      exact TX.meetD ((p9.r : Int), acc3, rr3) ⟨h, hx3⟩ rfl (Sbs.cons rfl (Sbs.cons rfl (Sbs.cons rfl (Sbs.cons rfl (Sbs.nil))))) (Splits.of [0, 1, 2] kr rfl)
     ·
      have h := condF hb3 h
      refine TC.seq (TC.region (TO.move rfl dc rfl (TO.loads (k := 1) (cs := [.int .i32 p7, .int .i32 p8]) rw_73 rfl dc rfl rfl rfl rfl (TO.move rfl dc rfl ?_))))
      obtain ⟨rr5, hr1, h⟩ := consE h
      have hx5 : xs = acc3 ++ ((⟨p7, p8⟩ : Gfold_pair), (p9.r : Int)) :: rr5 := by rw [hx3, hr1]
      refine TO.yield hy rfl dc rfl hx5 rfl (k := 0) rfl ?_ ?_
      ·
       have hx6 : xs = (acc3 ++ [((⟨p7, p8⟩ : Gfold_pair), (p9.r : Int))]) ++ rr5 := by rw [hx5]; simp
       show TO _ _ _ _ _ _ _ _ _ _ [I (acc3 ++ [((⟨p7, p8⟩ : Gfold_pair), (p9.r : Int))]), cells b1 [.int .i32 p7, .int .i32 p8] 73, obj b2 (.stringIter str_37a80f8f (posAt str_37a80f8f (m4 + 1)))]
       refine TO.un rfl dc rfl un_not (TO.assign rfl dc rfl (TO.nil (TX.next (TC.condF rfl (TC.skip (TX.blockNormal ?_))))))
       exact TX.meetD (p7, acc3 ++ [((⟨p7, p8⟩ : Gfold_pair), (p9.r : Int))], rr5) ⟨h, hx6⟩ rfl (Sbs.cons rfl (Sbs.cons rfl (Sbs.cons rfl (Sbs.cons rfl (Sbs.nil))))) (Splits.of [0, 1, 2] kr rfl)
      ·
       show TO _ _ _ _ _ _ _ _ _ _ [X (acc3 ++ [((⟨p7, p8⟩ : Gfold_pair), (p9.r : Int))]), cells b1 [.int .i32 p7, .int .i32 p8] 73, obj b2 (.stringIter str_37a80f8f (posAt str_37a80f8f (m4 + 1)))]
       refine TO.un rfl dc rfl un_not (TO.assign rfl dc rfl (TO.nil (TX.next (TC.condT rfl (TC.ret (TX.blockRet (TX.thenRet (TX.blockRet (TX.thenRet (TX.blockRet ?_))))))))))
       exact TX.finX (ds := []) acc3 ((⟨p7, p8⟩ : Gfold_pair), (p9.r : Int)) rr5 hx5 (.inl rfl) Splits.nil Try.results66 (Splits.of [0] kr rfl)
   ·
    rintro ⟨p10, acc4, rr4⟩ ⟨h, hx4⟩
    rw [hj1] at h
    show TC _ _ _ _ _ ([]) _ _ [(0, .func (.yield l) #[] #[]), (2, .pointer (some ⟨b1, 0, none⟩)), (3, .bool base4), (6, .pointer (some ⟨b2, 0, none⟩))] [I acc4, cells b1 [.int .i32 p10, .int .i32 p8] 73, obj b2 (.stringIter str_37a80f8f (posAt str_37a80f8f (m4 + 1)))]
    refine TC.region (TO.move rfl dc rfl (TO.un rfl dc rfl un_not (TO.assign rfl dc rfl (TO.nil (TX.blockNormal ?_)))))
    subst hag1
    exact TX.againD (n1, p10, p8, !base4, m4 + 1, acc4, rr4) ⟨h, hx4⟩ (Nat.lt_succ_self _) rfl (Sbs.cons rfl (Sbs.cons rfl (Sbs.cons rfl (Sbs.cons rfl (Sbs.nil))))) (Splits.of [0, 1, 2] kr rfl)
  ·
   have h := condF hb1 h
   refine TO.nextEnd (k := 2) (m := m4) rfl dc rfl rfl (Nat.le_of_not_lt (of_decide_eq_false hb1)) (TO.extract rfl dc rfl rfl (TO.nil (TX.next (TC.seq (TC.condF rfl (TC.exit (TX.thenExit (TX.thenExit (TX.blockHere ?_)))))))))
   cases h
   exact TX.finY (ds := []) (.inr rfl) Splits.nil Try.results66 (congrArg I (hx3.trans (List.append_nil _))) (Splits.of [0] kr rfl)
end Go.Proofs.Ytlamcpgnmeileaa
namespace Go.Proofs.Ytlamcpgnmeileaa
open Go.RowKit Go.Lib
set_option linter.unusedVariables false
set_option linter.unusedSimpArgs false
def fold_tables_s1 (x1 : Gfold_pair × Int) (ag1 : (List (Gfold_pair × Int)) → (List (Int × Gfold_pair)) → Option ((List (Gfold_pair × Int)) × (List (Int × Gfold_pair)))) (join4 : List (Gfold_pair × Int)) (split4 : List (Int × Gfold_pair)) : Option ((List (Gfold_pair × Int)) × (List (Int × Gfold_pair))) := ag1 (putM x1.1 x1.2 join4) (putM x1.2 x1.1 split4)
def fold_tables_v  : Option ((List (Gfold_pair × Int)) × (List (Int × Gfold_pair))) := joinK (fun (j1 : (List (Gfold_pair × Int)) → (List (Int × Gfold_pair)) → Option ((List (Gfold_pair × Int)) × (List (Int × Gfold_pair)))) => andThen (fold_pairs_v) fun (its1 : (List (Gfold_pair × Int))) => joinK (fun (d1 : (List (Gfold_pair × Int)) → (List (Int × Gfold_pair)) → Option ((List (Gfold_pair × Int)) × (List (Int × Gfold_pair)))) => rangeG d1 (fold_tables_s1) its1 ([] : List (Gfold_pair × Int)) ([] : List (Int × Gfold_pair))
) (fun (join4 : List (Gfold_pair × Int)) (split4 : List (Int × Gfold_pair)) => j1 join4 split4
)
) (fun (join1 : List (Gfold_pair × Int)) (split1 : List (Int × Gfold_pair)) => some (join1, split1)
)
set_option maxRecDepth 100000 in
set_option maxHeartbeats 4000000 in
theorem fold_tables_fn  {r : ((List (Gfold_pair × Int)) × (List (Int × Gfold_pair)))} (h : fold_tables_v = some r) : Fn Try.prog 40 [] [] (fun b : Nat × Nat => .tuple #[.map (some b.1), .map (some b.2)]) (fun b => [mapA (fun p : Gfold_pair => Value.agg #[.int .i32 p.e0, .int .i32 p.e1]) (fun n : Int => Value.int .i32 n) b.1 r.1, mapA (fun n : Int => Value.int .i32 n) (fun p : Gfold_pair => Value.agg #[.int .i32 p.e0, .int .i32 p.e1]) b.2 r.2]) := by
 unfold fold_tables_v at h
 refine Fn.intro Try.func40 rfl Try.ntmps40 (by simp) ?_
 intro w0 K
 refine TC.star0 ?_
 show TC _ _ _ _ _ _ _ _ _ [star ((([] : List Nat) : List Nat).map mark)]
 obtain ⟨j1, hj1, h⟩ := joinE h
 refine TC.cutN (β := (List (Gfold_pair × Int)) × (List (Int × Gfold_pair)) × Nat × Nat × Nat × Nat × (List Nat)) 2 rfl (fun b => j1 b.1 b.2.1 = some r) (fun b => marksOf b.2.2.2.2.2.2) (fun b => [(2, .pointer (some ⟨b.2.2.1, 0, none⟩)), (3, .pointer (some ⟨b.2.2.2.2.1, 0, none⟩))]) (fun b => [cells b.2.2.1 [.map (some b.2.2.2.1)] 66, mapA (fun p : Gfold_pair => Value.agg #[.int .i32 p.e0, .int .i32 p.e1]) (fun n : Int => Value.int .i32 n) b.2.2.2.1 b.1, cells b.2.2.2.2.1 [.map (some b.2.2.2.2.2.1)] 67, mapA (fun n : Int => Value.int .i32 n) (fun p : Gfold_pair => Value.agg #[.int .i32 p.e0, .int .i32 p.e1]) b.2.2.2.2.2.1 b.2.1, star ((b.2.2.2.2.2.2 : List Nat).map mark)]) (fun cut => ?_) ?_
 ·
  refine TC.seq (TC.region (TO.assign rfl dc rfl (TO.assign rfl dc rfl (TO.nil (TX.next (TC.seq (TC.region ?_)))))))
  refine TO.makeMap (fun p : Gfold_pair => Value.agg #[.int .i32 p.e0, .int .i32 p.e1]) (fun n : Int => Value.int .i32 n) rfl dc (fun b5 => ?_)
  refine TO.makeMap (fun n : Int => Value.int .i32 n) (fun p : Gfold_pair => Value.agg #[.int .i32 p.e0, .int .i32 p.e1]) rfl dc (fun b6 => ?_)
  show TO _ _ _ _ _ _ _ _ _ _ [star ((([] : List Nat) : List Nat).map mark), mapA (fun p : Gfold_pair => Value.agg #[.int .i32 p.e0, .int .i32 p.e1]) (fun n : Int => Value.int .i32 n) b5 ([] : List (Gfold_pair × Int)), mapA (fun n : Int => Value.int .i32 n) (fun p : Gfold_pair => Value.agg #[.int .i32 p.e0, .int .i32 p.e1]) b6 ([] : List (Int × Gfold_pair))]
  refine TO.alloc zr_66 rfl dc (fun b7 => ?_)
  refine TO.alloc zr_67 rfl dc (fun b8 => ?_)
  show TO _ _ _ _ _ _ _ _ _ _ [star ((([] : List Nat) : List Nat).map mark), mapA (fun p : Gfold_pair => Value.agg #[.int .i32 p.e0, .int .i32 p.e1]) (fun n : Int => Value.int .i32 n) b5 ([] : List (Gfold_pair × Int)), mapA (fun n : Int => Value.int .i32 n) (fun p : Gfold_pair => Value.agg #[.int .i32 p.e0, .int .i32 p.e1]) b6 ([] : List (Int × Gfold_pair)), cells b7 [.map none] 66, cells b8 [.map none] 67]
  refine TO.store (k := 3) (l' := [.map (some b5)]) sz_66 rfl rfl rfl rfl rfl (fun _ _ => rfl) rfl ?_
  refine TO.store (k := 4) (l' := [.map (some b6)]) sz_67 rfl rfl rfl rfl rfl (fun _ _ => rfl) rfl ?_
  show TO _ _ _ _ _ _ _ _ _ _ [star ((([] : List Nat) : List Nat).map mark), mapA (fun p : Gfold_pair => Value.agg #[.int .i32 p.e0, .int .i32 p.e1]) (fun n : Int => Value.int .i32 n) b5 ([] : List (Gfold_pair × Int)), mapA (fun n : Int => Value.int .i32 n) (fun p : Gfold_pair => Value.agg #[.int .i32 p.e0, .int .i32 p.e1]) b6 ([] : List (Int × Gfold_pair)), cells b7 [.map (some b5)] 66, cells b8 [.map (some b6)] 67]
  refine TO.nil (TX.next (cut (TC.block ?_)))
  obtain ⟨its1, hq1, h⟩ := andE h
  obtain ⟨d1, hd1, h⟩ := joinE h
  refine TC.range (α := Gfold_pair × Int) (β := (List (Gfold_pair × Int)) × (List (Int × Gfold_pair))) (γ := Unit) (δ := Nat) (ps := [8, 9]) Ro.nil rfl en_66 (fold_pairs_itr hq1) (fun pre b => ∀ post, its1 = pre ++ post → rangeG d1 (fold_tables_s1) post b.1 b.2 = some r) (fun pre b => [cells b7 [.map (some b5)] 66, mapA (fun p : Gfold_pair => Value.agg #[.int .i32 p.e0, .int .i32 p.e1]) (fun n : Int => Value.int .i32 n) b5 b.1, cells b8 [.map (some b6)] 67, mapA (fun n : Int => Value.int .i32 n) (fun p : Gfold_pair => Value.agg #[.int .i32 p.e0, .int .i32 p.e1]) b6 b.2]) (fun c pre g => False) (fun c pre g => []) (fun pre x b j => [(0, .map none), (1, .map none), (2, .pointer (some ⟨b7, 0, none⟩)), (3, .pointer (some ⟨b8, 0, none⟩)), (4, .pointer (some ⟨j, 0, none⟩)), (5, .int .i32 x.2)]) (fun pre x b j => [cells b7 [.map (some b5)] 66, mapA (fun p : Gfold_pair => Value.agg #[.int .i32 p.e0, .int .i32 p.e1]) (fun n : Int => Value.int .i32 n) b5 b.1, cells b8 [.map (some b6)] 67, mapA (fun n : Int => Value.int .i32 n) (fun p : Gfold_pair => Value.agg #[.int .i32 p.e0, .int .i32 p.e1]) b6 b.2, cells j [.int .i32 x.1.e0, .int .i32 x.1.e1] 73]) (([] : List (Gfold_pair × Int)), ([] : List (Int × Gfold_pair))) (fun post e => by rw [List.nil_append] at e; subst e; exact h) (Splits.of [3, 1, 4, 2] kr rfl) trivial (fun _ => rfl) dc ?_ ?_ ?_ ?_
  ·
   rintro lp rc pre x1 post ⟨join4, split4⟩ w1 K1 hxs1 hext hro hinv
   refine TC.seq (TC.region ?_)
   refine TO.alloc zr_73 rfl dc (fun b9 => ?_)
   refine TO.stores (k := 4) (vs := [.int .i32 x1.1.e0, .int .i32 x1.1.e1]) (l' := [.int .i32 x1.1.e0, .int .i32 x1.1.e1]) sz_73 rfl rfl rfl rfl rfl (show _ ≤ _ by simp) rfl rfl ?_
   show TO _ _ _ _ _ _ _ _ _ _ [cells b7 [.map (some b5)] 66, mapA (fun p : Gfold_pair => Value.agg #[.int .i32 p.e0, .int .i32 p.e1]) (fun n : Int => Value.int .i32 n) b5 join4, cells b8 [.map (some b6)] 67, mapA (fun n : Int => Value.int .i32 n) (fun p : Gfold_pair => Value.agg #[.int .i32 p.e0, .int .i32 p.e1]) b6 split4, cells b9 [.int .i32 x1.1.e0, .int .i32 x1.1.e1] 73]
   refine TO.nil (TX.next (TC.region (TO.assign rfl dc rfl (TO.nil ?_))))
   exact fun a w ha hw => ⟨b9, (Sbs.cons rfl (Sbs.cons rfl (Sbs.cons rfl (Sbs.cons rfl (Sbs.cons rfl (Sbs.cons rfl (Sbs.nil))))))) _ _ _ ha, hw.weaken (Splits.of [0, 1, 2, 3, 4] kr rfl)⟩
  ·
   rintro lp rc pre x1 post1 ⟨join4, split4⟩ jb1 w1 K1 hxs1 hext hro hinv
   have h := hinv (x1 :: post1) hxs1
   obtain ⟨ag1, hag1⟩ : ∃ ag, ag = rangeG d1 (fold_tables_s1) post1 := ⟨_, rfl⟩
   have h : fold_tables_s1 x1 ag1 join4 split4 = some r := by rw [hag1]; exact h
   unfold fold_tables_s1 at h
   show TC _ _ _ _ _ _ _ _ [(0, .map none), (1, .map none), (2, .pointer (some ⟨b7, 0, none⟩)), (3, .pointer (some ⟨b8, 0, none⟩)), (4, .pointer (some ⟨jb1, 0, none⟩)), (5, .int .i32 x1.2)] [cells b7 [.map (some b5)] 66, mapA (fun p : Gfold_pair => Value.agg #[.int .i32 p.e0, .int .i32 p.e1]) (fun n : Int => Value.int .i32 n) b5 join4, cells b8 [.map (some b6)] 67, mapA (fun n : Int => Value.int .i32 n) (fun p : Gfold_pair => Value.agg #[.int .i32 p.e0, .int .i32 p.e1]) b6 split4, cells jb1 [.int .i32 x1.1.e0, .int .i32 x1.1.e1] 73]
   refine TC.block ?_
   refine TC.drawB (β := Unit) 7 6 _ [(0, 10, .map (some b5)), (1, 11, .agg #[.int .i32 x1.1.e0, .int .i32 x1.1.e1]), (2, 12, .map (some b6)), (3, 13, .int .i32 x1.2), (4, 14, .int .i32 x1.2), (5, 15, .agg #[.int .i32 x1.1.e0, .int .i32 x1.1.e1])] (fun _b => []) (fun _b => [cells b7 [.map (some b5)] 66, mapA (fun p : Gfold_pair => Value.agg #[.int .i32 p.e0, .int .i32 p.e1]) (fun n : Int => Value.int .i32 n) b5 (putM x1.1 x1.2 join4), cells b8 [.map (some b6)] 67, mapA (fun n : Int => Value.int .i32 n) (fun p : Gfold_pair => Value.agg #[.int .i32 p.e0, .int .i32 p.e1]) b6 split4, cells jb1 [.int .i32 x1.1.e0, .int .i32 x1.1.e1] 73]) mixed kr kr rfl dc dc (by rfl) kr kr (DrawPreX.cons ?_ (DrawPreX.cons ?_ (DrawPreX.cons ?_ (DrawPreX.cons ?_ (DrawPreX.cons ?_ (DrawPreX.cons ?_ (DrawPreX.here DrawPreX.nil))))))) (fun _b => (DrawPreX.cons ?_ (DrawPreX.cons ?_ (DrawPreX.cons ?_ (DrawPreX.cons ?_ (DrawPreX.cons ?_ (DrawPreX.cons ?_ (DrawPreX.here DrawPreX.nil)))))))) ?_ ?_
   ·
    intro D hn hd hcl hu hi
    refine TO.load (k := 0) sc_66 rfl dc (dl_old (by rfl) rfl) rfl rfl ?_
    exact TX.quiet 0 hu hi rfl
   ·
    intro D hn hd hcl hu hi
    refine TO.loads (k := 4) (cs := [.int .i32 x1.1.e0, .int .i32 x1.1.e1]) rw_73 rfl dc (dl_old (by rfl) rfl) rfl rfl rfl ?_
    exact TX.quiet 1 hu hi rfl
   ·
    intro D hn hd hcl hu hi
    refine TO.load (k := 2) sc_67 rfl dc (dl_old (by rfl) rfl) rfl rfl ?_
    exact TX.quiet 2 hu hi rfl
   ·
    intro D hn hd hcl hu hi
    refine TO.move rfl dc (dl_old (by rfl) rfl) ?_
    exact TX.quiet 3 hu hi rfl
   ·
    intro D hn hd hcl hu hi
    refine TO.move rfl dc (dl_old (by rfl) rfl) ?_
    exact TX.quiet 4 hu hi rfl
   ·
    intro D hn hd hcl hu hi
    refine TO.loads (k := 4) (cs := [.int .i32 x1.1.e0, .int .i32 x1.1.e1]) rw_73 rfl dc (dl_old (by rfl) rfl) rfl rfl rfl ?_
    exact TX.quiet 5 hu hi rfl
   ·
    intro D hn hd hcl hu hi
    refine TO.load (k := 0) sc_66 rfl dc (dl_old (by rfl) rfl) rfl rfl ?_
    exact TX.quiet 0 hu hi rfl
   ·
    intro D hn hd hcl hu hi
    refine TO.loads (k := 4) (cs := [.int .i32 x1.1.e0, .int .i32 x1.1.e1]) rw_73 rfl dc (dl_old (by rfl) rfl) rfl rfl rfl ?_
    exact TX.quiet 1 hu hi rfl
   ·
    intro D hn hd hcl hu hi
    refine TO.load (k := 2) sc_67 rfl dc (dl_old (by rfl) rfl) rfl rfl ?_
    exact TX.quiet 2 hu hi rfl
   ·
    intro D hn hd hcl hu hi
    refine TO.move rfl dc (dl_old (by rfl) rfl) ?_
    exact TX.quiet 3 hu hi rfl
   ·
    intro D hn hd hcl hu hi
    refine TO.move rfl dc (dl_old (by rfl) rfl) ?_
    exact TX.quiet 4 hu hi rfl
   ·
    intro D hn hd hcl hu hi
    refine TO.loads (k := 4) (cs := [.int .i32 x1.1.e0, .int .i32 x1.1.e1]) rw_73 rfl dc (dl_old (by rfl) rfl) rfl rfl rfl ?_
    exact TX.quiet 5 hu hi rfl
   ·
    intro D hn hd hcl
    refine TO.mapUpdate (k := 1) (ek := (fun p : Gfold_pair => Value.agg #[.int .i32 p.e0, .int .i32 p.e1])) (ev' := (fun n : Int => Value.int .i32 n)) (kk := x1.1) (vv := x1.2) (KeyOk.arr2 (f0 := fun p : Gfold_pair => p.e0) (f1 := fun p : Gfold_pair => p.e1) (fun a b h1 h2 => by cases a; cases b; simp_all) Try.underlying73 Try.underlying21 sz_21) Try.underlying66 rfl (dl_lookup (m := 0) kr rfl (hd 0 dc)) (dl_lookup (m := 1) kr rfl (hd 1 dc)) (dl_lookup (m := 4) kr rfl (hd 4 dc)) rfl ?_
    exact fun a w ha hw => ⟨(), ha, hw⟩
   intro _b
   show TO _ _ _ _ _ _ _ _ _ _ [cells b7 [.map (some b5)] 66, mapA (fun p : Gfold_pair => Value.agg #[.int .i32 p.e0, .int .i32 p.e1]) (fun n : Int => Value.int .i32 n) b5 (putM x1.1 x1.2 join4), cells b8 [.map (some b6)] 67, mapA (fun n : Int => Value.int .i32 n) (fun p : Gfold_pair => Value.agg #[.int .i32 p.e0, .int .i32 p.e1]) b6 split4, cells jb1 [.int .i32 x1.1.e0, .int .i32 x1.1.e1] 73]
   refine TO.mapUpdate (k := 3) (ek := (fun n : Int => Value.int .i32 n)) (ev' := (fun p : Gfold_pair => Value.agg #[.int .i32 p.e0, .int .i32 p.e1])) (kk := x1.2) (vv := x1.1) (KeyOk.int Try.underlying21) Try.underlying67 rfl rfl rfl rfl rfl ?_
   refine TO.nil (TX.blockNormal ?_)
   exact TX.round (putM x1.1 x1.2 join4, putM x1.2 x1.1 split4) (fun post2 e2 => by have e9 := snoc_post hxs1 e2; subst e9; subst hag1; exact h) (Splits.of [0, 1, 2, 3] kr rfl)
  ·
   rintro dm1 ⟨join4, split4⟩ hinv
   have h : d1 join4 split4 = some r := hinv [] (List.append_nil _).symm
   rw [hd1] at h
   show TX _ _ _ _ _ _ _ [star ((([] : List Nat) : List Nat).map mark), emp, emp, emp, emp, cells b7 [.map (some b5)] 66, mapA (fun p : Gfold_pair => Value.agg #[.int .i32 p.e0, .int .i32 p.e1]) (fun n : Int => Value.int .i32 n) b5 join4, cells b8 [.map (some b6)] 67, mapA (fun n : Int => Value.int .i32 n) (fun p : Gfold_pair => Value.agg #[.int .i32 p.e0, .int .i32 p.e1]) b6 split4, mark dm1]
   refine TX.starCons (k := 9) (j := 0) rfl rfl dc ?_
   show TX _ _ _ _ _ _ _ [star ((dm1 :: ([] : List Nat) : List Nat).map mark), emp, emp, emp, emp, cells b7 [.map (some b5)] 66, mapA (fun p : Gfold_pair => Value.agg #[.int .i32 p.e0, .int .i32 p.e1]) (fun n : Int => Value.int .i32 n) b5 join4, cells b8 [.map (some b6)] 67, mapA (fun n : Int => Value.int .i32 n) (fun p : Gfold_pair => Value.agg #[.int .i32 p.e0, .int .i32 p.e1]) b6 split4, emp]
   refine TX.blockNormal ?_
   exact TX.meetD (join4, split4, b7, b5, b8, b6, dm1 :: ([] : List Nat)) h rfl (Sbs.cons rfl (Sbs.cons rfl (Sbs.nil))) (Splits.of [5, 6, 7, 8, 0] kr rfl)
  ·
   rintro dm1 c pre x1 post g hxs hX
   exact (show False from hX).elim
 ·
  rintro ⟨join1, split1, b1, b2, b3, b4, ds1⟩ h
  rw [hj1] at h
  show TC _ _ _ _ _ (marksOf ds1) _ _ [(2, .pointer (some ⟨b1, 0, none⟩)), (3, .pointer (some ⟨b3, 0, none⟩))] [cells b1 [.map (some b2)] 66, mapA (fun p : Gfold_pair => Value.agg #[.int .i32 p.e0, .int .i32 p.e1]) (fun n : Int => Value.int .i32 n) b2 join1, cells b3 [.map (some b4)] 67, mapA (fun n : Int => Value.int .i32 n) (fun p : Gfold_pair => Value.agg #[.int .i32 p.e0, .int .i32 p.e1]) b4 split1, star ((ds1 : List Nat).map mark)]
  refine TC.seq ?_
  refine TC.drawN 3 [(0, 16, .map (some b2)), (1, 17, .map (some b4)), (2, 0, .map (some b2))] mixed kr kr dc (by rfl) kr kr (DrawPre.cons ?_ (DrawPre.cons ?_ (DrawPre.cons ?_ DrawPre.nil))) ?_
  ·
   intro D hn hd hcl hu hi
   refine TO.load (k := 0) sc_66 rfl dc (dl_old (by rfl) rfl) rfl rfl ?_
   exact TX.quiet 0 hu hi rfl
  ·
   intro D hn hd hcl hu hi
   refine TO.load (k := 2) sc_67 rfl dc (dl_old (by rfl) rfl) rfl rfl ?_
   exact TX.quiet 1 hu hi rfl
  ·
   intro D hn hd hcl hu hi
   refine TO.assign rfl dc (dl_lookup (m := 0) hu rfl (hd 0 dc)) ?_
   exact TX.quiet 2 hu hi rfl
  refine TO.assign rfl dc rfl (TO.nil (TX.next (TC.ret ?_)))
  cases h
  exact TX.finM (rs := [.tmp 0, .tmp 1]) ds1 (b2, b4) (.inl rfl) (Splits.open0 (k := 4) rfl) Try.results40 (.cons (.tmp rfl) (.cons (.tmp rfl) .nil)) rfl (Splits.of [1, 3] kr rfl)
end Go.Proofs.Ytlamcpgnmeileaa
namespace Go.Proofs.Ytlamcpgnmeileaa
open Go.RowKit Go.Lib
set_option linter.unusedVariables false
set_option linter.unusedSimpArgs false
/-- base, mark, joined. -/
def tab : List (Int × Int × Int) := [(65, 768, 192), (69, 768, 200), (73, 768, 204), (79, 768, 210), (85, 768, 217), (97, 768, 224), (101, 768, 232), (105, 768, 236), (111, 768, 242), (117, 768, 249), (1045, 768, 1024), (1048, 768, 1037), (1077, 768, 1104), (1080, 768, 1117), (65, 769, 193), (69, 769, 201), (73, 769, 205), (79, 769, 211), (85, 769, 218), (89, 769, 221), (97, 769, 225), (101, 769, 233), (105, 769, 237), (111, 769, 243), (117, 769, 250), (121, 769, 253), (67, 769, 262), (76, 769, 313), (78, 769, 323), (82, 769, 340), (83, 769, 346), (90, 769, 377), (99, 769, 263), (108, 769, 314), (110, 769, 324), (114, 769, 341), (115, 769, 347), (122, 769, 378), (913, 769, 902), (917, 769, 904), (919, 769, 905), (921, 769, 906), (927, 769, 908), (933, 769, 910), (937, 769, 911), (945, 769, 940), (949, 769, 941), (951, 769, 942), (953, 769, 943), (959, 769, 972), (965, 769, 973), (969, 769, 974), (1043, 769, 1027), (1050, 769, 1036), (1075, 769, 1107), (1082, 769, 1116), (970, 769, 912), (971, 769, 944), (65, 770, 194), (69, 770, 202), (73, 770, 206), (79, 770, 212), (85, 770, 219), (97, 770, 226), (101, 770, 234), (105, 770, 238), (111, 770, 244), (117, 770, 251), (67, 770, 264), (71, 770, 284), (72, 770, 292), (74, 770, 308), (83, 770, 348), (87, 770, 372), (89, 770, 374), (99, 770, 265), (103, 770, 285), (104, 770, 293), (106, 770, 309), (115, 770, 349), (119, 770, 373), (121, 770, 375), (65, 771, 195), (78, 771, 209), (79, 771, 213), (97, 771, 227), (110, 771, 241), (111, 771, 245), (73, 771, 296), (85, 771, 360), (105, 771, 297), (117, 771, 361), (65, 772, 256), (69, 772, 274), (73, 772, 298), (79, 772, 332), (85, 772, 362), (97, 772, 257), (101, 772, 275), (105, 772, 299), (111, 772, 333), (117, 772, 363), (65, 774, 258), (69, 774, 276), (71, 774, 286), (73, 774, 300), (79, 774, 334), (85, 774, 364), (97, 774, 259), (101, 774, 277), (103, 774, 287), (105, 774, 301), (111, 774, 335), (117, 774, 365), (1048, 774, 1049), (1059, 774, 1038), (1080, 774, 1081), (1091, 774, 1118), (67, 775, 266), (69, 775, 278), (71, 775, 288), (73, 775, 304), (90, 775, 379), (99, 775, 267), (101, 775, 279), (103, 775, 289), (122, 775, 380), (65, 776, 196), (69, 776, 203), (73, 776, 207), (79, 776, 214), (85, 776, 220), (97, 776, 228), (101, 776, 235), (105, 776, 239), (111, 776, 246), (117, 776, 252), (121, 776, 255), (89, 776, 376), (1045, 776, 1025), (1030, 776, 1031), (1077, 776, 1105), (1110, 776, 1111), (921, 776, 938), (933, 776, 939), (953, 776, 970), (965, 776, 971), (65, 778, 197), (85, 778, 366), (97, 778, 229), (117, 778, 367), (79, 779, 336), (85, 779, 368), (111, 779, 337), (117, 779, 369), (67, 780, 268), (68, 780, 270), (69, 780, 282), (76, 780, 317), (78, 780, 327), (82, 780, 344), (83, 780, 352), (84, 780, 356), (90, 780, 381), (99, 780, 269), (100, 780, 271), (101, 780, 283), (108, 780, 318), (110, 780, 328), (114, 780, 345), (115, 780, 353), (116, 780, 357), (122, 780, 382), (67, 807, 199), (71, 807, 290), (75, 807, 310), (76, 807, 315), (78, 807, 325), (82, 807, 342), (83, 807, 350), (84, 807, 354), (99, 807, 231), (103, 807, 291), (107, 807, 311), (108, 807, 316), (110, 807, 326), (114, 807, 343), (115, 807, 351), (116, 807, 355), (65, 808, 260), (69, 808, 280), (73, 808, 302), (85, 808, 370), (97, 808, 261), (101, 808, 281), (105, 808, 303), (117, 808, 371)]
def tabP : List (Gfold_pair × Int) := tab.map fun t => (⟨t.1, t.2.1⟩, t.2.2)
def tabS : List (Int × Gfold_pair) := tab.map fun t => (t.2.2, ⟨t.1, t.2.1⟩)
set_option maxRecDepth 100000 in
theorem tables_v : fold_tables_v = some (tabP, tabS) := by decide +kernel
end Go.Proofs.Ytlamcpgnmeileaa
namespace Go.Proofs.Ytlamcpgnmeileaa
open Go.RowKit Go.Lib
set_option linter.unusedVariables false
set_option linter.unusedSimpArgs false
def mrk (r : Int) : Bool := decide (768 ≤ r ∧ r ≤ 879)
theorem letter_rng (r : Int) (h : letter r = true) : 0 ≤ r ∧ r < 1120 ∧ ¬ (768 ≤ r ∧ r ≤ 879) := by
  unfold letter at h
  rw [Bool.or_eq_true, great_iff, small_iff] at h
  unfold greatP smallP at h
  refine ⟨?_, ?_, ?_⟩ <;> omega
theorem kind1 (r : Int) : ((kind r : Int) == 1) = letter r := by
  cases h : letter r with
  | true =>
    have := letter_rng r h
    have e : kind r = 1 := by unfold kind kindP; rw [if_neg (by omega), if_pos h]
    rw [e]; rfl
  | false =>
    rw [beq_eq_false_iff_ne]
    unfold kind kindP
    rw [h]
    simp only [Bool.false_eq_true, if_false]
    (repeat' split) <;> omega
theorem kind2 (r : Int) : ((kind r : Int) == 2) = mrk r := by
  unfold mrk
  by_cases h : 768 ≤ r ∧ r ≤ 879
  · rw [decide_eq_true h, beq_iff_eq]
    have hl : letter r = false := by
      cases h' : letter r with
      | false => rfl
      | true => exact absurd h (letter_rng r h').2.2
    unfold kind kindP
    rw [if_neg (by omega), hl, if_neg (by simp), if_pos h]
  · rw [decide_eq_false h, beq_eq_false_iff_ne]
    unfold kind kindP
    (repeat' split) <;> omega
theorem letter_v (u : Gfold_unit) (h : I32 u.base) : fold_unit_letter_v u = some (letter u.base) := by
  unfold fold_unit_letter_v
  by_cases h0 : 0 ≤ u.base
  · exact condTI (decide_eq_true h0) (grdI h (congrArg some (kind1 _)))
  · refine condFI (decide_eq_false h0) (congrArg some ?_)
    cases h' : letter u.base with
    | false => rfl
    | true => exact absurd (letter_rng _ h').1 h0
def lows : List (Int × Int) := [(790, 793), (796, 800), (803, 819), (825, 828), (837, 841), (845, 846), (851, 854), (857, 858)]
def lowR (r : Int) : Bool := lows.any fun p => decide (p.1 ≤ r) && decide (r ≤ p.2)
theorem low_v (r : Int) : fold_Low_v r = some (lowR r) := by
  have h : r < 790 ∨ (790 ≤ r ∧ r ≤ 793) ∨ (793 < r ∧ r < 796) ∨ (796 ≤ r ∧ r ≤ 800) ∨ (800 < r ∧ r < 803) ∨ (803 ≤ r ∧ r ≤ 819) ∨ (819 < r ∧ r < 825) ∨ (825 ≤ r ∧ r ≤ 828) ∨ (828 < r ∧ r < 837) ∨ (837 ≤ r ∧ r ≤ 841) ∨ (841 < r ∧ r < 845) ∨ (845 ≤ r ∧ r ≤ 846) ∨ (846 < r ∧ r < 851) ∨ (851 ≤ r ∧ r ≤ 854) ∨ (854 < r ∧ r < 857) ∨ (857 ≤ r ∧ r ≤ 858) ∨ 858 < r := by omega
  unfold fold_Low_v
  simp only [joinK, bcond, lowR, lows, List.any_cons, List.any_nil, Bool.or_false]
  rcases h with h | h | h | h | h | h | h | h | h | h | h | h | h | h | h | h | h <;> simp (disch := omega) only [decide_eq_true, decide_eq_false, cond_true, cond_false, Bool.and_true, Bool.and_false, Bool.true_and, Bool.false_and, Bool.true_or, Bool.false_or, Bool.or_true, Bool.or_false]
end Go.Proofs.Ytlamcpgnmeileaa
namespace Go.Proofs.Ytlamcpgnmeileaa
open Go.RowKit Go.Lib
set_option linter.unusedVariables false
set_option linter.unusedSimpArgs false
section
variable {κ ν : Type} [DecidableEq κ]
theorem getM_mem {k : κ} {v : ν} : ∀ {L : List (κ × ν)}, getM k L = some v → (k, v) ∈ L
  | [], h => by cases h
  | p :: L, h => by
    unfold getM at h
    split at h
    · rename_i e; cases h; rw [e]; exact List.mem_cons_self ..
    · exact List.mem_cons_of_mem _ (getM_mem h)
end
/-- One step of the parting of a rune. -/
def spStep (rcall : Int → Option (List Int)) (r : Int) : Option (List Int) :=
  match getM r tabS with
  | none => some [r]
  | some p => andThen (rcall p.e0) fun l => grd (l.length + 1 ≤ 2147483648) <| some (l ++ [p.e1])
theorem psplit_step (rcall : (List (Int × Gfold_pair)) → Int → Option (List Int)) (r : Int) : fold_parted_b rcall tabS r = spStep (rcall tabS) r := by
  unfold fold_parted_b spStep
  cases getM r tabS with
  | none => exact condTI rfl rfl
  | some p => exact condFI rfl rfl
def spF : Nat → Int → Option (List Int)
  | 0, _ => none
  | n + 1, r => spStep (spF n) r
theorem psplit_F : ∀ (n : Nat) (r : Int), loopG (fun _ _ => none) fold_parted_b n tabS r = spF n r
  | 0, r => rfl
  | n + 1, r => by
    rw [loopI, psplit_step]
    show spStep _ r = spStep _ r
    congr 1; funext x; exact psplit_F n x
/-- The parts of a rune. -/
def parts (r : Int) : List Int :=
  match getM r tabS with
  | none => [r]
  | some p => (match getM p.e0 tabS with
    | none => [p.e0]
    | some q => [q.e0, q.e1]) ++ [p.e1]
def deep : Bool := tabS.all fun p => match getM p.2.e0 tabS with | none => true | some q => decide (getM q.e0 tabS = none)
set_option maxRecDepth 100000 in
theorem deep_ok : deep = true := by decide +kernel
theorem spF_parts (n : Nat) (r : Int) : spF (n + 3) r = some (parts r) := by
  show spStep (spF (n + 2)) r = _
  unfold spStep parts
  cases h : getM r tabS with
  | none => rfl
  | some p =>
    have hd := List.all_eq_true.1 deep_ok _ (getM_mem h)
    simp only at hd
    refine thenI (a := match getM p.e0 tabS with | none => [p.e0] | some q => [q.e0, q.e1]) ?_ (grdI (by cases getM p.e0 tabS <;> simp) rfl)
    show spStep (spF (n + 1)) p.e0 = _
    unfold spStep
    cases h2 : getM p.e0 tabS with
    | none => rfl
    | some q =>
      rw [h2] at hd
      simp only [decide_eq_true_eq] at hd
      refine thenI (a := [q.e0]) ?_ (grdI (by simp) rfl)
      show spStep (spF n) q.e0 = _
      unfold spStep
      rw [hd]
theorem parted_v (r : Int) : fold_parted_v tabS r = some (parts r) := by
  unfold fold_parted_v
  rw [psplit_F]
  obtain ⟨n, hn, _⟩ := fuel_eq 3 (by omega)
  rw [hn]; exact spF_parts n r
end Go.Proofs.Ytlamcpgnmeileaa
namespace Go.Proofs.Ytlamcpgnmeileaa
open Go.RowKit Go.Lib
set_option linter.unusedVariables false
set_option linter.unusedSimpArgs false
/-! ### Items -/
def itG (s : ByteArray) (p : Pc) : Gref04_Item := ⟨if p.broken then -1 else (p.r : Int), s.extract p.i (p.i + p.w), p.i⟩
def itemsP (s : ByteArray) : List Gref04_Item := (pcs s.data.toList).map (itG s)
theorem pcs_fit {s : ByteArray} {p : Pc} (hp : p ∈ pcs s.data.toList) : p.i + p.w ≤ s.size := by
  obtain ⟨g1, g2, hok⟩ := pcs_pos s.data.toList p hp
  have hlen : s.data.toList.length = s.size := by rw [Array.length_toList]; rfl
  omega
theorem pcs_count_le (s : ByteArray) : (pcs s.data.toList).length ≤ s.size := by
  have := runesOf_len s; unfold runesOf at this; simpa using this
end Go.Proofs.Ytlamcpgnmeileaa
namespace Go.Proofs.Ytlamcpgnmeileaa
open Go.RowKit Go.Lib
set_option linter.unusedVariables false
set_option linter.unusedSimpArgs false
abbrev Itm := Gref04_Item
def isL (x : Itm) : Bool := letter x.Rune
def isM (x : Itm) : Bool := mrk x.Rune
def isLo (x : Itm) : Bool := lowR x.Rune
theorem mrk_not_letter {r : Int} (h : mrk r = true) : letter r = false := by
  cases e : letter r with
  | false => rfl
  | true => have := letter_rng r e; unfold mrk at h; simp at h; omega
/-! ### The parts of letters -/
def shape (r : Int) : Bool := match parts r with
  | [] => false
  | b :: ms => letter b && decide (getM b tabS = none) && ms.all mrk && decide ((b :: ms).length ≤ 3)
set_option maxRecDepth 100000 in
theorem shapes : (tabS.all fun p => shape p.1) = true := by decide +kernel
set_option maxRecDepth 100000 in
theorem tab_rng : (tabS.all fun p => decide (0 ≤ p.1 ∧ p.1 ≤ 2000 ∧ 0 ≤ p.2.e0 ∧ p.2.e0 ≤ 2000 ∧ 0 ≤ p.2.e1 ∧ p.2.e1 ≤ 2000) && letter p.1) = true := by decide +kernel
theorem parts_shape {r : Int} (h : letter r = true) : ∃ b ms, parts r = b :: ms ∧ letter b = true ∧ getM b tabS = none ∧ (∀ m ∈ ms, mrk m = true) ∧ ms.length ≤ 2 := by
  cases e : getM r tabS with
  | none => exact ⟨r, [], by unfold parts; rw [e], h, e, by simp, by simp⟩
  | some p =>
    have h1 := List.all_eq_true.1 shapes _ (getM_mem e)
    unfold shape at h1
    simp only at h1
    cases hp : parts r with
    | nil => rw [hp] at h1; cases h1
    | cons b ms =>
      rw [hp] at h1
      simp only [Bool.and_eq_true, decide_eq_true_eq, List.all_eq_true, List.length_cons] at h1
      exact ⟨b, ms, rfl, h1.1.1.1, h1.1.1.2, h1.1.2, by omega⟩
theorem parts_len (r : Int) : (parts r).length ≤ 3 ∧ 1 ≤ (parts r).length := by
  unfold parts
  (repeat' split) <;> simp
theorem tabS_rng {k : Int} {p : Gfold_pair} (h : getM k tabS = some p) : (0 ≤ p.e0 ∧ p.e0 ≤ 2000) ∧ (0 ≤ p.e1 ∧ p.e1 ≤ 2000) ∧ letter k = true := by
  have := List.all_eq_true.1 tab_rng _ (getM_mem h)
  simp only [Bool.and_eq_true, decide_eq_true_eq] at this
  obtain ⟨⟨h1, h2, h3, h4, h5, h6⟩, h7⟩ := this
  exact ⟨⟨h3, h4⟩, ⟨h5, h6⟩, h7⟩
theorem parts_i32 {r : Int} (h : I32 r) : ∀ y ∈ parts r, I32 y := by
  intro y hy
  unfold parts at hy
  split at hy
  · simp at hy; subst hy; exact h
  · rename_i p hp
    obtain ⟨h1, h2, _⟩ := tabS_rng hp
    split at hy
    · simp at hy; rcases hy with rfl | rfl <;> exact ⟨by omega, by omega⟩
    · rename_i q hq
      obtain ⟨h3, h4, _⟩ := tabS_rng hq
      simp at hy; rcases hy with rfl | rfl | rfl <;> exact ⟨by omega, by omega⟩
/-! ### Clusters -/
def clF : Option (Itm × List Itm) → List Itm → List (Itm × List Itm)
  | none, [] => []
  | some c, [] => [c]
  | none, x :: xs => clF (some (x, [])) xs
  | some c, x :: xs => if isL c.1 && isM x then clF (some (c.1, c.2 ++ [x])) xs else c :: clF (some (x, [])) xs
def cl (xs : List Itm) : List (Itm × List Itm) := clF none xs
def loI (ms : List Itm) : List Itm := ms.filter isLo
def hiI (ms : List Itm) : List Itm := ms.filter fun x => !isLo x
/-- What a letter is taken apart into. -/
def apI (x : Itm) : List Itm := if isL x then (parts x.Rune).map fun r => ⟨r, Utf8.encode r, x.At⟩ else [x]
def apL (l : List Itm) : List Itm := l.flatMap apI
theorem apI_len (x : Itm) : (apI x).length ≤ 3 := by
  unfold apI
  split
  · simp; exact (parts_len _).1
  · simp
theorem apL_len (l : List Itm) : (apL l).length ≤ 3 * l.length := by
  unfold apL
  induction l with
  | nil => simp
  | cons x l ih => rw [List.flatMap_cons, List.length_append, List.length_cons]; have := apI_len x; omega
end Go.Proofs.Ytlamcpgnmeileaa
namespace Go.Proofs.Ytlamcpgnmeileaa
open Go.RowKit Go.Lib
set_option linter.unusedVariables false
set_option linter.unusedSimpArgs false
def runes_Width_v (r1 : Int) : Option Int := joinK (fun (j1 : Option Int) => bcond ((r1 : Int) != 65533) ( bcond (decide (Utf8.encode r1 = (⟨#[239, 191, 189]⟩ : ByteArray))) ( some 0
) ( j1
)
) ( j1
)
) ( some ((Utf8.encode r1).size : Int)
)
set_option maxRecDepth 100000 in
set_option maxHeartbeats 4000000 in
theorem runes_Width_fn {r1 : Int} {r : Int} (h : runes_Width_v r1 = some r) : FnP Try.prog 81 [.int .i32 r1] (.int .i64 r) := by
 unfold runes_Width_v at h
 refine FnP.intro Try.func81 rfl Try.ntmps81 (by simp) ?_
 intro w0 K
 obtain ⟨j1, hj1, h⟩ := joinE h
 refine TC.cutN (β := Unit) 1 rfl (fun b => j1 = some r) (fun b => []) (fun b => [(0, .int .i32 r1)]) (fun b => []) (fun cut => ?_) ?_
 ·
  refine TC.seq (TC.region (TO.assign rfl dc rfl (TO.nil (TX.next (cut (TC.seq (TC.region (TO.move rfl dc rfl (TO.bin rfl dc rfl rfl bin_neq (TO.move rfl dc rfl ?_))))))))))
  refine TO.split (s := 5) rfl (fun hb1 => ?_) (fun hb1 => ?_)
  ·
   have h := condT hb1 h
   refine TO.move rfl dc rfl (TO.conv rfl dc rfl (conv_rune Try.underlying21 Try.underlying9) (TO.bin rfl dc rfl rfl bin_seql (TO.pick (b := true) rfl dc rfl rfl (TO.nil (TX.next ?_)))))
   refine TC.condB rfl (fun hb2 => ?_) (fun hb2 => ?_)
   ·
    have h := condT hb2 h
    refine TC.seq (TC.region (TO.assign rfl dc rfl (TO.nil (TX.next (TC.ret (TX.thenRet ?_))))))
    cases h
    exact TX.fin (rs := [.tmp 2]) () (.inl rfl) Try.results81 (.cons (.tmp rfl) .nil) rfl Splits.nil
   ·
    have h := condF hb2 h
    refine TC.skip ?_
    exact TX.meetD () h rfl (Sbs.cons rfl (Sbs.nil)) Splits.nil
  ·
   have h := condF hb1 h
   refine TO.skip rfl dc (TO.skip rfl dc (TO.skip rfl dc (TO.pick (b := false) rfl dc rfl rfl (TO.nil (TX.next (TC.condF rfl (TC.skip ?_)))))))
   exact TX.meetD () h rfl (Sbs.cons rfl (Sbs.nil)) Splits.nil
 ·
  rintro _ h
  rw [hj1] at h
  show TC _ _ _ _ _ ([]) _ _ [(0, .int .i32 r1)] []
  refine TC.seq (TC.region (TO.move rfl dc rfl (TO.conv rfl dc rfl (conv_rune Try.underlying21 Try.underlying9) (TO.lenStr rfl dc rfl Try.underlying9 (TO.assign rfl dc rfl (TO.nil (TX.next (TC.ret ?_))))))))
  cases h
  exact TX.fin (rs := [.tmp 2]) () (.inl rfl) Try.results81 (.cons (.tmp rfl) .nil) rfl Splits.nil
def runes_read_s1 (s1 : ByteArray) (at1 : Int) (j1 : Option Gapi_Piece) (ag1 : Option Gapi_Piece) : Option Gapi_Piece := bcond (decide (0 < (pcs (cutB s1 at1 (s1.size : Int)).data.toList).length)) ( andThen ((pcs (cutB s1 at1 (s1.size : Int)).data.toList)[0]?) fun (p1 : Pc) => joinK (fun (j2 : Int → Option Gapi_Piece) => andThen (runes_Width_v (p1.r : Int)) fun (r1 : Int) => bcond (((p1.r : Int) : Int) == 65533) ( grd (I64 ((s1.size : Int) - at1)) <| bcond (decide ((((s1.size : Int) - at1) : Int) < 3)) ( some (⟨at1, 1, 65533, true⟩ : Gapi_Piece)
) ( grd (I64 (at1 + 3)) <| grd (0 ≤ (at1 : Int) ∧ (at1 : Int) ≤ (at1 + 3) ∧ (at1 + 3 : Int) ≤ (s1.size : Int)) <| bcond (!decide (cutB s1 at1 (at1 + 3) = (⟨#[239, 191, 189]⟩ : ByteArray))) ( some (⟨at1, 1, 65533, true⟩ : Gapi_Piece)
) ( j2 r1
)
)
) ( j2 r1
)
) (fun (n2 : Int) => some (⟨at1, n2, (p1.r : Int), false⟩ : Gapi_Piece)
)
) ( j1
)
def runes_read_v (s1 : ByteArray) (at1 : Int) : Option Gapi_Piece := joinK (fun (j1 : Option Gapi_Piece) => grd (0 ≤ (at1 : Int) ∧ (at1 : Int) ≤ (s1.size : Int) ∧ ((s1.size : Int) : Int) ≤ (s1.size : Int)) <| loopG none (runes_read_s1 s1 at1 j1) fuel
) ( some (⟨0, 0, 0, false⟩ : Gapi_Piece)
)
set_option maxRecDepth 100000 in
set_option maxHeartbeats 4000000 in
theorem runes_read_fn {s1 : ByteArray} {at1 : Int} {r : Gapi_Piece} (h : runes_read_v s1 at1 = some r) : FnP Try.prog 59 [.string s1, .int .i64 at1] (.agg #[.int .i64 r.At, .int .i64 r.Width, .int .i32 r.Rune, .bool r.Broken]) := by
 unfold runes_read_v at h
 refine FnP.intro Try.func59 rfl Try.ntmps59 (by simp) ?_
 intro w0 K
 obtain ⟨j1, hj1, h⟩ := joinE h
 refine TC.cutN (β := Nat) 1 rfl (fun b => j1 = some r) (fun b => []) (fun b => [(4, .pointer (some ⟨b, 0, none⟩))]) (fun b => [cells b [.int .i64 0, .int .i64 0, .int .i32 0, .bool false] 55]) (fun cut => ?_) ?_
 ·
  refine TC.seq (TC.region ?_)
  refine TO.alloc zr_55 rfl dc (fun b2 => ?_)
  refine TO.nil (TX.next (cut (TC.seq (TC.region (TO.move rfl dc rfl (TO.move rfl dc rfl ?_))))))
  obtain ⟨hg1, h⟩ := grdE h
  refine TO.slice rfl dc rfl rfl rfl (slice_stringI (i := at1) (j := (s1.size : Int)) Try.underlying9 (.inr rfl) (.inl ⟨rfl, rfl⟩) hg1) ?_
  refine TO.rangeStr Try.underlying9 rfl dc rfl (fun b3 => ?_)
  show TO _ _ _ _ _ _ _ _ _ _ [cells b2 [.int .i64 0, .int .i64 0, .int .i32 0, .bool false] 55, obj b3 (.stringIter (cutB s1 at1 (s1.size : Int)) (posAt (cutB s1 at1 (s1.size : Int)) 0))]
  refine TO.nil (TX.next (TC.block ?_))
  refine TC.loopD (β := Nat) (fun b => loopG none (runes_read_s1 s1 at1 j1) b = some r) (fun b => []) (fun b => [(0, .string s1), (1, .int .i64 at1), (4, .pointer (some ⟨b2, 0, none⟩)), (11, .pointer (some ⟨b3, 0, none⟩))]) (fun b => [cells b2 [.int .i64 0, .int .i64 0, .int .i32 0, .bool false] 55, obj b3 (.stringIter (cutB s1 at1 (s1.size : Int)) (posAt (cutB s1 at1 (s1.size : Int)) 0))]) (fun b => b) fuel h rfl (Sbs.cons rfl (Sbs.cons rfl (Sbs.cons rfl (Sbs.cons rfl (Sbs.nil))))) (Splits.of [0, 1] kr rfl) ?_
  rintro n1 h
  cases n1 with
  | zero => exact noneE h
  | succ n1 =>
   obtain ⟨ag1, hag1⟩ : ∃ ag, ag = loopG none (runes_read_s1 s1 at1 j1) n1 := ⟨_, rfl⟩
   have h : runes_read_s1 s1 at1 j1 ag1 = some r := by rw [hag1]; exact h
   unfold runes_read_s1 at h
   show TC _ _ _ _ _ ([]) _ _ [(0, .string s1), (1, .int .i64 at1), (4, .pointer (some ⟨b2, 0, none⟩)), (11, .pointer (some ⟨b3, 0, none⟩))] [cells b2 [.int .i64 0, .int .i64 0, .int .i32 0, .bool false] 55, obj b3 (.stringIter (cutB s1 at1 (s1.size : Int)) (posAt (cutB s1 at1 (s1.size : Int)) 0))]
   refine TC.seq (TC.region ?_)
   refine TO.bySplit (b := decide (0 < (pcs (cutB s1 at1 (s1.size : Int)).data.toList).length)) (fun hb1 => ?_) (fun hb1 => ?_)
   ·
    have h := condT hb1 h
    obtain ⟨p1, hq1, h⟩ := andE h
    refine TO.nextStr (k := 1) (m := 0) (p := p1) rfl dc rfl rfl hq1 (TO.extract rfl dc rfl rfl (TO.nil (TX.next (TC.seq (TC.condT rfl (TC.skip (TX.next (TC.block ?_))))))))
    obtain ⟨j2, hj2, h⟩ := joinE h
    refine TC.cutN (β := Int) 2 rfl (fun b => j2 b = some r) (fun b => []) (fun b => [(1, .int .i64 at1), (4, .pointer (some ⟨b2, 0, none⟩)), (6, .int .i32 (p1.r : Int)), (7, .int .i64 b)]) (fun b => [cells b2 [.int .i64 0, .int .i64 0, .int .i32 0, .bool false] 55]) (fun cut => ?_) ?_
    ·
     refine TC.seq (TC.region (TO.extract rfl dc rfl rfl (TO.assign rfl dc rfl (TO.nil (TX.next (TC.seq (TC.region (TO.move rfl dc rfl ?_))))))))
     obtain ⟨r1, hq2, h⟩ := andE h
     refine TO.callP (v := .int .i64 r1) (vs := [.int .i32 (p1.r : Int)]) rfl dc rfl rfl rfl en_81 (runes_Width_fn hq2) (TO.assign rfl dc rfl (TO.nil (TX.next (cut (TC.seq (TC.region (TO.move rfl dc rfl (TO.bin rfl dc rfl rfl bin_eql (TO.move rfl dc rfl ?_)))))))))
     refine TO.split (s := 19) rfl (fun hb2 => ?_) (fun hb2 => ?_)
     ·
      have h := condT hb2 h
      refine TO.move rfl dc rfl (TO.lenStr rfl dc rfl Try.underlying9 (TO.move rfl dc rfl ?_))
      obtain ⟨hg2, h⟩ := grdE h
      refine TO.bin rfl dc rfl rfl (bin_sub (r := (s1.size : Int) - at1) (IntWalk.i64_in _ hg2)) (TO.bin rfl dc rfl rfl bin_lss (TO.move rfl dc rfl ?_))
      refine TO.split (s := 25) rfl (fun hb3 => ?_) (fun hb3 => ?_)
      ·
       have h := condT hb3 h
       refine TO.skip rfl dc (TO.skip rfl dc (TO.skip rfl dc (TO.skip rfl dc (TO.skip rfl dc (TO.skip rfl dc (TO.pick (b := true) rfl dc rfl rfl (TO.pick (b := true) rfl dc rfl rfl (TO.nil (TX.next (TC.condT rfl (TC.seq (TC.region (TO.move rfl dc rfl ?_)))))))))))))
       refine TO.build (v := .agg #[.int .i64 at1, .int .i64 1, .int .i32 65533, .bool true]) (ps := [(0, .tmp 34), (1, .const (.int .i64 1)), (2, .const (.int .i32 65533)), (3, .const (.bool true))]) rfl dc rfl (fun _ => by kernel_rfl) ?_
       refine TO.stores (k := 0) (vs := [.int .i64 at1, .int .i64 1, .int .i32 65533, .bool true]) (l' := [.int .i64 at1, .int .i64 1, .int .i32 65533, .bool true]) sz_55 rfl rfl rfl rfl rfl (show _ ≤ _ by simp) rfl rfl ?_
       show TO _ _ _ _ _ _ _ _ _ _ [cells b2 [.int .i64 at1, .int .i64 1, .int .i32 65533, .bool true] 55, obj b3 (.stringIter (cutB s1 at1 (s1.size : Int)) (posAt (cutB s1 at1 (s1.size : Int)) (0 + 1)))]
       refine TO.nil (TX.next (TC.ret (TX.thenRet (TX.blockRet (TX.thenRet (TX.blockRet (TX.thenRet ?_)))))))
       cases h
       exact TX.fin (rs := [.cell 4 55]) () (.inl rfl) Try.results59 (.cons (.cells rw_55 (k := 0) rfl rfl rfl) .nil) rfl Splits.nil
      ·
       have h := condF hb3 h
       refine TO.move rfl dc rfl (TO.move rfl dc rfl (TO.move rfl dc rfl ?_))
       obtain ⟨hg3, h⟩ := grdE h
       refine TO.bin rfl dc rfl rfl (bin_add (r := at1 + 3) (IntWalk.i64_in _ hg3)) ?_
       obtain ⟨hg4, h⟩ := grdE h
       refine TO.slice rfl dc rfl rfl rfl (slice_stringI (i := at1) (j := at1 + 3) Try.underlying9 (.inr rfl) (.inr rfl) hg4) (TO.bin rfl dc rfl rfl bin_sneq (TO.pick (b := false) rfl dc rfl rfl (TO.pick (b := true) rfl dc rfl rfl (TO.nil (TX.next ?_)))))
       refine TC.condB rfl (fun hb4 => ?_) (fun hb4 => ?_)
       ·
        have h := condT hb4 h
        refine TC.seq (TC.region (TO.move rfl dc rfl ?_))
        refine TO.build (v := .agg #[.int .i64 at1, .int .i64 1, .int .i32 65533, .bool true]) (ps := [(0, .tmp 34), (1, .const (.int .i64 1)), (2, .const (.int .i32 65533)), (3, .const (.bool true))]) rfl dc rfl (fun _ => by kernel_rfl) ?_
        refine TO.stores (k := 0) (vs := [.int .i64 at1, .int .i64 1, .int .i32 65533, .bool true]) (l' := [.int .i64 at1, .int .i64 1, .int .i32 65533, .bool true]) sz_55 rfl rfl rfl rfl rfl (show _ ≤ _ by simp) rfl rfl ?_
        show TO _ _ _ _ _ _ _ _ _ _ [cells b2 [.int .i64 at1, .int .i64 1, .int .i32 65533, .bool true] 55, obj b3 (.stringIter (cutB s1 at1 (s1.size : Int)) (posAt (cutB s1 at1 (s1.size : Int)) (0 + 1)))]
        refine TO.nil (TX.next (TC.ret (TX.thenRet (TX.blockRet (TX.thenRet (TX.blockRet (TX.thenRet ?_)))))))
        cases h
        exact TX.fin (rs := [.cell 4 55]) () (.inl rfl) Try.results59 (.cons (.cells rw_55 (k := 0) rfl rfl rfl) .nil) rfl Splits.nil
       ·
        have h := condF hb4 h
        refine TC.skip ?_
        exact TX.meetD r1 h rfl (Sbs.cons rfl (Sbs.cons rfl (Sbs.cons rfl (Sbs.cons rfl (Sbs.nil))))) (Splits.of [0] kr rfl)
     ·
      have h := condF hb2 h
      refine TO.skip rfl dc (TO.skip rfl dc (TO.skip rfl dc (TO.skip rfl dc (TO.skip rfl dc (TO.skip rfl dc (TO.skip rfl dc (TO.skip rfl dc (TO.skip rfl dc (TO.skip rfl dc (TO.skip rfl dc (TO.skip rfl dc (TO.skip rfl dc (TO.pick (b := false) rfl dc rfl rfl ?_)))))))))))))
      refine TO.nil (TX.next (TC.condF rfl (TC.skip ?_)))
      exact TX.meetD r1 h rfl (Sbs.cons rfl (Sbs.cons rfl (Sbs.cons rfl (Sbs.cons rfl (Sbs.nil))))) (Splits.of [0] kr rfl)
    ·
     rintro n2 h
     rw [hj2] at h
     show TC _ _ _ _ _ ([]) _ _ [(1, .int .i64 at1), (4, .pointer (some ⟨b2, 0, none⟩)), (6, .int .i32 (p1.r : Int)), (7, .int .i64 n2)] [cells b2 [.int .i64 0, .int .i64 0, .int .i32 0, .bool false] 55]
     refine TC.seq (TC.region (TO.move rfl dc rfl (TO.move rfl dc rfl (TO.move rfl dc rfl ?_))))
     refine TO.build (v := .agg #[.int .i64 at1, .int .i64 n2, .int .i32 (p1.r : Int), .bool false]) (ps := [(0, .tmp 36), (1, .tmp 37), (2, .tmp 38)]) rfl dc rfl (fun _ => by kernel_rfl) ?_
     refine TO.stores (k := 0) (vs := [.int .i64 at1, .int .i64 n2, .int .i32 (p1.r : Int), .bool false]) (l' := [.int .i64 at1, .int .i64 n2, .int .i32 (p1.r : Int), .bool false]) sz_55 rfl rfl rfl rfl rfl (show _ ≤ _ by simp) rfl rfl (TO.nil (TX.next (TC.ret (TX.blockRet (TX.thenRet (TX.blockRet (TX.thenRet ?_)))))))
     cases h
     exact TX.fin (rs := [.cell 4 55]) () (.inl rfl) Try.results59 (.cons (.cells rw_55 (k := 0) rfl rfl rfl) .nil) rfl Splits.nil
   ·
    have h := condF hb1 h
    refine TO.nextEnd (k := 1) (m := 0) rfl dc rfl rfl (Nat.le_of_not_lt (of_decide_eq_false hb1)) (TO.extract rfl dc rfl rfl (TO.nil (TX.next (TC.seq (TC.condF rfl (TC.exit (TX.thenExit (TX.thenExit (TX.blockHere ?_)))))))))
    exact TX.meetD b2 h rfl (Sbs.cons rfl (Sbs.nil)) (Splits.of [0] kr rfl)
 ·
  rintro b1 h
  rw [hj1] at h
  show TC _ _ _ _ _ ([]) _ _ [(4, .pointer (some ⟨b1, 0, none⟩))] [cells b1 [.int .i64 0, .int .i64 0, .int .i32 0, .bool false] 55]
  refine TC.seq (TC.region ?_)
  refine TO.build (v := .agg #[.int .i64 0, .int .i64 0, .int .i32 0, .bool false]) (ps := []) rfl dc rfl (fun _ => by kernel_rfl) ?_
  refine TO.stores (k := 0) (vs := [.int .i64 0, .int .i64 0, .int .i32 0, .bool false]) (l' := [.int .i64 0, .int .i64 0, .int .i32 0, .bool false]) sz_55 rfl rfl rfl rfl rfl (show _ ≤ _ by simp) rfl rfl (TO.nil (TX.next (TC.ret ?_)))
  cases h
  exact TX.fin (rs := [.cell 4 55]) () (.inl rfl) Try.results59 (.cons (.cells rw_55 (k := 0) rfl rfl rfl) .nil) rfl Splits.nil
def runes_Pieces_1_s1 (c0 : ByteArray) (ag1 : Nat → Option (List Gapi_Piece)) (m3 : Nat) : Option (List Gapi_Piece) := bcond (decide (m3 < (pcs c0.data.toList).length)) ( andThen ((pcs c0.data.toList)[m3]?) fun (p1 : Pc) => andThen (runes_read_v c0 (p1.i : Int)) fun (r1 : Gapi_Piece) => consO r1 <| ag1 (m3 + 1)
) ( some []
)
def runes_Pieces_1_v (c0 : ByteArray) : Option (List Gapi_Piece) := loopG (fun _ => none) (runes_Pieces_1_s1 c0) fuel 0
set_option maxRecDepth 100000 in
set_option maxHeartbeats 4000000 in
theorem runes_Pieces_1_itr {b_c0 : Nat} {c0 : ByteArray} {xs : (List Gapi_Piece)} (h : runes_Pieces_1_v c0 = some xs) : Itr Try.prog 73 [.pointer (some ⟨b_c0, 0, none⟩)] (fun q : Gapi_Piece => [.agg #[.int .i64 q.At, .int .i64 q.Width, .int .i32 q.Rune, .bool q.Broken]]) xs [(b_c0, .cells #[.string c0] 9 (0, 0))] := by
 unfold runes_Pieces_1_v at h
 refine Itr.intro Try.func73 rfl Try.ntmps73 (by simp) ?_
 intro l w0 K I X hRo hy
 obtain ⟨r0, hx0⟩ : ∃ r, xs = [] ++ r := ⟨xs, rfl⟩
 have hr0 : xs = r0 := hx0
 rw [hr0] at h
 refine TC.seq (TC.region (TO.loadRo (i := 0) hRo sc_9 rfl dc rfl rfl rfl ?_))
 refine TO.rangeStr Try.underlying9 rfl dc rfl (fun b1 => ?_)
 refine TO.nil (TX.next (TC.block ?_))
 refine TC.loopD (β := Nat × Nat × (List Gapi_Piece) × (List Gapi_Piece)) (fun b => loopG (fun _ => none) (runes_Pieces_1_s1 c0) b.1 b.2.1 = some b.2.2.2 ∧ xs = b.2.2.1 ++ b.2.2.2) (fun b => []) (fun b => [(0, .func (.yield l) #[] #[]), (1, .pointer (some ⟨b_c0, 0, none⟩)), (5, .pointer (some ⟨b1, 0, none⟩))]) (fun b => [I b.2.2.1, obj b1 (.stringIter c0 (posAt c0 b.2.1))]) (fun b => b.1) (fuel, 0, ([] : List Gapi_Piece), r0) ⟨h, hx0⟩ rfl (Sbs.cons rfl (Sbs.cons rfl (Sbs.cons rfl (Sbs.nil)))) (Splits.of [0, 1] kr rfl) ?_
 rintro ⟨n1, m3, acc3, rr3⟩ ⟨h, hx3⟩
 cases n1 with
 | zero => exact noneE h
 | succ n1 =>
  obtain ⟨ag1, hag1⟩ : ∃ ag, ag = loopG (fun _ => none) (runes_Pieces_1_s1 c0) n1 := ⟨_, rfl⟩
  have h : runes_Pieces_1_s1 c0 ag1 m3 = some rr3 := by rw [hag1]; exact h
  unfold runes_Pieces_1_s1 at h
  show TC _ _ _ _ _ ([]) _ _ [(0, .func (.yield l) #[] #[]), (1, .pointer (some ⟨b_c0, 0, none⟩)), (5, .pointer (some ⟨b1, 0, none⟩))] [I acc3, obj b1 (.stringIter c0 (posAt c0 m3))]
  refine TC.seq (TC.region ?_)
  refine TO.bySplit (b := decide (m3 < (pcs c0.data.toList).length)) (fun hb1 => ?_) (fun hb1 => ?_)
  ·
   have h := condT hb1 h
   obtain ⟨p1, hq1, h⟩ := andE h
   refine TO.nextStr (k := 1) (m := m3) (p := p1) rfl dc rfl rfl hq1 (TO.extract rfl dc rfl rfl (TO.nil (TX.next (TC.seq (TC.condT rfl (TC.skip (TX.next (TC.block (TC.seq (TC.region (TO.extract rfl dc rfl rfl (TO.assign rfl dc rfl (TO.nil ?_)))))))))))))
   refine TX.next (TC.seq (TC.region (TO.move rfl dc rfl (TO.loadRo (i := 0) hRo sc_9 rfl dc rfl rfl rfl (TO.move rfl dc rfl ?_)))))
   obtain ⟨r1, hq2, h⟩ := andE h
   refine TO.callP (v := .agg #[.int .i64 r1.At, .int .i64 r1.Width, .int .i32 r1.Rune, .bool r1.Broken]) (vs := [.string c0, .int .i64 (p1.i : Int)]) rfl dc rfl rfl rfl en_59 (runes_read_fn hq2) ?_
   obtain ⟨rr4, hr1, h⟩ := consE h
   have hx4 : xs = acc3 ++ r1 :: rr4 := by rw [hx3, hr1]
   refine TO.yield hy rfl dc rfl hx4 rfl (k := 0) rfl ?_ ?_
   ·
    have hx5 : xs = (acc3 ++ [r1]) ++ rr4 := by rw [hx4]; simp
    show TO _ _ _ _ _ _ _ _ _ _ [I (acc3 ++ [r1]), obj b1 (.stringIter c0 (posAt c0 (m3 + 1)))]
    refine TO.un rfl dc rfl un_not (TO.nil (TX.next (TC.condF rfl (TC.skip (TX.blockNormal ?_)))))
    subst hag1
    exact TX.againD (n1, m3 + 1, acc3 ++ [r1], rr4) ⟨h, hx5⟩ (Nat.lt_succ_self _) rfl (Sbs.cons rfl (Sbs.cons rfl (Sbs.cons rfl (Sbs.nil)))) (Splits.of [0, 1] kr rfl)
   ·
    show TO _ _ _ _ _ _ _ _ _ _ [X (acc3 ++ [r1]), obj b1 (.stringIter c0 (posAt c0 (m3 + 1)))]
    refine TO.un rfl dc rfl un_not (TO.nil (TX.next (TC.condT rfl (TC.ret (TX.blockRet (TX.thenRet (TX.blockRet ?_)))))))
    exact TX.finX (ds := []) acc3 r1 rr4 hx4 (.inl rfl) Splits.nil Try.results73 (Splits.of [0] kr rfl)
  ·
   have h := condF hb1 h
   refine TO.nextEnd (k := 1) (m := m3) rfl dc rfl rfl (Nat.le_of_not_lt (of_decide_eq_false hb1)) (TO.extract rfl dc rfl rfl (TO.nil (TX.next (TC.seq (TC.condF rfl (TC.exit (TX.thenExit (TX.thenExit (TX.blockHere ?_)))))))))
   cases h
   exact TX.finY (ds := []) (.inr rfl) Splits.nil Try.results73 (congrArg I (hx3.trans (List.append_nil _))) (Splits.of [0] kr rfl)
def runes_Pieces_v (s1 : ByteArray) : Option ByteArray := some s1
set_option maxRecDepth 100000 in
set_option maxHeartbeats 4000000 in
theorem runes_Pieces_fn {s1 : ByteArray} {r : ByteArray} (h : runes_Pieces_v s1 = some r) : Fn Try.prog 49 [.string s1] [] (fun v0 : Nat => .func (.func 73) #[] #[.pointer (some ⟨v0, 0, none⟩)]) (fun v0 => [cells v0 [.string r] 9]) := by
 unfold runes_Pieces_v at h
 refine Fn.intro Try.func49 rfl Try.ntmps49 (by simp) ?_
 intro w0 K
 refine TC.seq (TC.region ?_)
 refine TO.box rfl dc rfl (fun b1 => ?_)
 refine TO.assign rfl dc rfl (TO.nil (TX.next (TC.seq (TC.region (TO.makeFunc (x1 := []) (x2 := [.tmp 1]) rfl dc rfl rfl (TO.assign rfl dc rfl (TO.nil (TX.next (TC.ret ?_)))))))))
 cases h
 exact TX.fin (rs := [.tmp 2]) b1 (.inl rfl) Try.results49 (.cons (.tmp rfl) .nil) rfl (Splits.of [0] kr rfl)
end Go.Proofs.Ytlamcpgnmeileaa
namespace Go.Proofs.Ytlamcpgnmeileaa
open Go.RowKit Go.Lib
set_option linter.unusedVariables false
set_option linter.unusedSimpArgs false
theorem encNeLost (r : Int) (hv : 0 ≤ r ∧ (r < 55296 ∨ (57343 < r ∧ r ≤ 1114111))) (hr : ¬ r = 65533) : ¬ Utf8.encode r = ⟨#[239, 191, 189]⟩ := by
  intro h
  obtain ⟨n, rfl⟩ := Int.eq_ofNat_of_zero_le hv.1
  have h1 : encodeRune ((n : Nat) : Int) = [239, 191, 189] := by rw [← encode_list, h]
  have h2 := dec_enc n (by omega) []
  have h3 := dec_enc 65533 (by omega) []
  rw [h1] at h2
  rw [enc_lost] at h3
  rw [h2] at h3
  have := (Prod.mk.inj h3).1
  omega
theorem rwidthV (r : Int) (hv : vr r) : runes_Width_v r = some ((Utf8.encode r).size : Int) := by
  unfold runes_Width_v
  refine joinI ?_
  by_cases h : r = 65533
  · exact condFI (bne_eq_false_iff_eq.2 h) rfl
  · exact condTI (bne_iff_ne.2 h) (condFI (decide_eq_false (encNeLost r (by unfold vr at hv; omega) h)) rfl)
theorem readV (s : ByteArray) (a : Nat) (ha : a < s.size) (hsz : s.size ≤ 9223372036854775000) : runes_read_v s (a : Int) = some (pcG ⟨a, (decodeL (s.data.toList.drop a)).2, (decodeL (s.data.toList.drop a)).1⟩) := by
  unfold runes_read_v
  obtain ⟨F, hF, _⟩ := fuel_eq 1 (by omega)
  rw [hF]
  refine joinI (grdI ⟨by omega, by omega, by omega⟩ ?_)
  rw [loopI]
  generalize loopG _ _ F = ag
  unfold runes_read_s1
  have hne : s.data.toList.drop a ≠ [] := by
    intro h; have := congrArg List.length h; simp at this; omega
  have hok := decOk _ hne
  have hlen : (s.data.toList.drop a).length = s.size - a := by simp
  have hle := hok.le
  have e : (cutB s (a : Int) (s.size : Int)).data.toList = s.data.toList.drop a := by unfold cutB; exact ext_end s a
  have hp : pcs (cutB s (a : Int) (s.size : Int)).data.toList = ⟨0, (decodeL (s.data.toList.drop a)).2, (decodeL (s.data.toList.drop a)).1⟩ :: pcsFrom (0 + (decodeL (s.data.toList.drop a)).2) ((s.data.toList.drop a).drop (decodeL (s.data.toList.drop a)).2) := by
    rw [e]; unfold pcs; rw [pcsFrom_cons _ _ hne]
  have hvr : vr ((decodeL (s.data.toList.drop a)).1 : Int) := by have := hok.valid; unfold vr; omega
  refine condTI (decide_eq_true (by rw [hp]; simp)) (thenI (by rw [hp]; rfl) (joinI (thenI (rwidthV _ hvr) ?_)))
  simp only
  unfold pcG Pc.broken
  have hw := hok.width
  have hl3 := hok.lost_ok
  have hl1 := hok.lost_bad
  generalize decodeL (s.data.toList.drop a) = d at *
  rcases d with ⟨r, w⟩
  simp only at *
  by_cases hr : r = 65533
  · subst hr
    refine condTI (by decide) (grdI ⟨by omega, by omega⟩ ?_)
    by_cases h3 : (s.size : Int) - a < 3
    · refine condTI (decide_eq_true h3) ?_
      have hw1 : w = 1 := by
        by_cases hw1 : w = 1
        · exact hw1
        · have := (hl3 rfl hw1).2; omega
      subst hw1; rfl
    · have e3 := cutB_list s a 3
      refine condFI (decide_eq_false h3) (grdI ⟨by omega, by omega⟩ (grdI ⟨by omega, by omega, by omega⟩ ?_))
      by_cases hw1 : w = 1
      · refine condTI ?_ (by subst hw1; rfl)
        rw [decide_eq_false]
        · rfl
        · intro h
          exact hl1 rfl hw1 (by rw [← e3]; exact congrArg (fun b : ByteArray => b.data.toList) h)
      · obtain ⟨h4, h5⟩ := hl3 rfl hw1
        refine condFI ?_ ?_
        · rw [decide_eq_true]
          · rfl
          · apply ByteArray.ext; apply Array.toList_inj.1; rw [show ((a : Int) + 3) = (a : Int) + (3 : Nat) from rfl, e3, h4]
        · rw [encode_size, hw (by omega)]
          subst h5; rfl
  · refine condFI (by rw [beq_eq_false_iff_ne]; omega) ?_
    rw [encode_size, hw (by omega)]
    have : (r == 65533 && w == 1) = false := by simp [hr]
    rw [this]
theorem piecesI (s : ByteArray) (hs : s.size ≤ 2147483648) : runes_Pieces_1_v s = some ((pcs s.data.toList).map pcG) := by
  unfold runes_Pieces_1_v
  have hc : (pcs s.data.toList).length ≤ s.size := by have := runesOf_len s; unfold runesOf at this; simpa using this
  have key : ∀ (n k : Nat), k ≤ (pcs s.data.toList).length → (pcs s.data.toList).length - k < n → loopG (fun _ => none) (runes_Pieces_1_s1 s) n k = some (((pcs s.data.toList).drop k).map pcG) := by
    intro n
    induction n with
    | zero => intro k _ h; omega
    | succ n ih =>
      intro k hk hn
      rw [loopI]
      generalize loopG (fun _ => none) (runes_Pieces_1_s1 s) n = ag at ih ⊢
      unfold runes_Pieces_1_s1
      by_cases h : k < (pcs s.data.toList).length
      · have hx : (pcs s.data.toList)[k]? = some (pcs s.data.toList)[k] := List.getElem?_eq_getElem h
        have hm := List.mem_of_getElem? hx
        generalize (pcs s.data.toList)[k] = p at hx hm
        obtain ⟨g1, g2, hok⟩ := pcs_pos s.data.toList p hm
        have hlen : s.data.toList.length = s.size := by rw [Array.length_toList]; rfl
        have hw := hok.pos
        have hr : runes_read_v s (p.i : Int) = some (pcG p) := by
          have := readV s p.i (by omega) (by omega)
          rw [this]
          have he := hok.eq
          rw [he]
        refine condTI (decide_eq_true h) (thenI hx (thenI hr ?_))
        rw [ih (k + 1) (by omega) (by omega)]
        have hd : (pcs s.data.toList).drop k = p :: (pcs s.data.toList).drop (k + 1) := by
          obtain ⟨hlt, he⟩ := List.getElem?_eq_some_iff.1 hx
          rw [← he]; exact List.drop_eq_getElem_cons hlt
        rw [hd]; rfl
      · have : k = (pcs s.data.toList).length := by omega
        subst this
        exact condFI (decide_eq_false (by omega)) (by rw [List.drop_length]; rfl)
  have := key fuel 0 (Nat.zero_le _) (by unfold fuel; omega)
  simpa using this
end Go.Proofs.Ytlamcpgnmeileaa
namespace Go.Proofs.Ytlamcpgnmeileaa
open Go.RowKit Go.Lib
set_option linter.unusedVariables false
set_option linter.unusedSimpArgs false
def fold_units_s2 (j3 : Int → Int → Int → (List Int) → (List Int) → Option (List Gfold_unit)) (r6 : (List Int)) (ag2 : Int → Int → Int → (List Int) → (List Int) → Int → Option (List Gfold_unit)) (u23 : Int) (u24 : Int) (u25 : Int) (u26 : List Int) (u27 : List Int) (x6 : Int) : Option (List Gfold_unit) := bcond (decide ((x6 : Int) < ((cutL r6 1 (r6.length : Int)).length : Int))) ( andThen (getO (cutL r6 1 (r6.length : Int)) x6) fun (q2 : Int) => andThen (fold_unit_mark_v (⟨u23, u24, u25, u26, u27⟩ : Gfold_unit) q2) fun (r7 : Gfold_unit) => grd (I64 (x6 + 1)) <| ag2 r7.at_ r7.broken r7.base r7.low r7.high (x6 + 1)
) ( j3 u23 u24 u25 u26 u27
)
def fold_units_s1 (s1 : ByteArray) (r1 : ((List (Gfold_pair × Int)) × (List (Int × Gfold_pair)))) (x1 : Gapi_Piece) (ag1 : (List Gfold_unit) → Option (List Gfold_unit)) (l4 : List Gfold_unit) : Option (List Gfold_unit) := bcond (x1.Broken) ( andThen (getB s1 x1.At) fun (c1 : Int) => grd (l4.length + 1 ≤ 2147483648) <| ag1 (l4 ++ [(⟨x1.At, c1, (-1), ([] : List Int), ([] : List Int)⟩ : Gfold_unit)])
) ( joinK (fun (j2 : Option (List Gfold_unit)) => bcond (decide ((0 : Int) < (l4.length : Int))) ( grd (I64 ((l4.length : Int) - 1)) <| andThen (getO l4 ((l4.length : Int) - 1)) fun (x2 : Gfold_unit) => andThen (fold_unit_letter_v x2) fun (r3 : Bool) => bcond (r3) ( grd (I32 x1.Rune) <| bcond (((kind x1.Rune) : Int) == 2) ( grd (I64 ((l4.length : Int) - 1)) <| andThen (getO l4 ((l4.length : Int) - 1)) fun (x3 : Gfold_unit) => andThen (fold_unit_mark_v x3 x1.Rune) fun (r4 : Gfold_unit) => ag1 (l4.set ((l4.length : Int) - 1 : Int).toNat r4)
) ( j2
)
) ( j2
)
) ( j2
)
) ( joinK (fun (j3 : Int → Int → Int → (List Int) → (List Int) → Option (List Gfold_unit)) => andThen (fold_unit_letter_v (⟨x1.At, 0, x1.Rune, ([] : List Int), ([] : List Int)⟩ : Gfold_unit)) fun (r5 : Bool) => bcond (r5) ( andThen (fold_parted_v r1.2 x1.Rune) fun (r6 : (List Int)) => andThen (getO r6 0) fun (q1 : Int) => grd (0 ≤ (1 : Int) ∧ (1 : Int) ≤ (r6.length : Int) ∧ ((r6.length : Int) : Int) ≤ (r6.length : Int)) <| loopG (fun _ _ _ _ _ _ => none) (fold_units_s2 j3 r6) fuel x1.At 0 q1 ([] : List Int) ([] : List Int) 0
) ( j3 x1.At 0 x1.Rune ([] : List Int) ([] : List Int)
)
) (fun (u1 : Int) (u2 : Int) (u3 : Int) (u4 : List Int) (u5 : List Int) => grd (l4.length + 1 ≤ 2147483648) <| ag1 (l4 ++ [(⟨u1, u2, u3, u4, u5⟩ : Gfold_unit)])
)
)
)
def fold_units_v (s1 : ByteArray) : Option (List Gfold_unit) := joinK (fun (j1 : (List Gfold_unit) → Option (List Gfold_unit)) => andThen (fold_tables_v) fun (r1 : ((List (Gfold_pair × Int)) × (List (Int × Gfold_pair)))) => andThen (runes_Pieces_v s1) fun (r2 : ByteArray) => andThen (runes_Pieces_1_v r2) fun (its1 : (List Gapi_Piece)) => joinK (fun (d1 : (List Gfold_unit) → Option (List Gfold_unit)) => rangeG d1 (fold_units_s1 s1 r1) its1 ([] : List Gfold_unit)
) (fun (l4 : List Gfold_unit) => j1 l4
)
) (fun (l1 : List Gfold_unit) => some l1
)
set_option maxRecDepth 100000 in
set_option maxHeartbeats 4000000 in
theorem fold_units_fn {s1 : ByteArray} {r : (List Gfold_unit)} (h : fold_units_v s1 = some r) : Fn Try.prog 24 [.string s1] [] (fun v0 : Value => v0) (fun v0 => [vecN encN_Gfold_unit nest_Gfold_unit 46 5 v0 r]) := by
 unfold fold_units_v at h
 refine Fn.intro Try.func24 rfl Try.ntmps24 (by simp) ?_
 intro w0 K
 refine TC.star0 ?_
 show TC _ _ _ _ _ _ _ _ _ [star ((([] : List Nat) : List Nat).map mark)]
 refine TC.seq (TC.region ?_)
 refine TO.box rfl dc rfl (fun b1 => ?_)
 refine TO.assign rfl dc rfl (TO.nil (TX.next ?_))
 refine TC.scope (β := Unit) (l := 0) (fun _ => False) (fun _ => []) (fun _ => []) rfl ?_ ?_
 ·
  obtain ⟨j1, hj1, h⟩ := joinE h
  refine TC.cutN (β := (List Gfold_unit) × Nat × Hd × (List Nat)) 3 rfl (fun b => j1 b.1 = some r) (fun b => marksOf b.2.2.2) (fun b => [(5, .pointer (some ⟨b.2.1, 0, none⟩))]) (fun b => [cells b.2.1 [b.2.2.1.v] 42, vecN encN_Gfold_unit nest_Gfold_unit 46 5 b.2.2.1.v b.1, star ((b.2.2.2 : List Nat).map mark)]) (fun cut => ?_) ?_
  ·
   refine TC.seq (TC.region ?_)
   obtain ⟨r1, hq1, h⟩ := andE h
   refine TO.call (vs := []) rfl dc rfl rfl rfl en_40 (fold_tables_fn hq1) Splits.nil ?_
   rintro ⟨b3, b4⟩
   show TO _ _ _ _ _ _ _ _ _ _ [star ((([] : List Nat) : List Nat).map mark), cells b1 [.string s1] 9, mapA (fun p : Gfold_pair => Value.agg #[.int .i32 p.e0, .int .i32 p.e1]) (fun n : Int => Value.int .i32 n) b3 r1.1, mapA (fun n : Int => Value.int .i32 n) (fun p : Gfold_pair => Value.agg #[.int .i32 p.e0, .int .i32 p.e1]) b4 r1.2]
   refine TO.weakenL (L' := [star ((([] : List Nat) : List Nat).map mark), cells b1 [.string s1] 9, mapA (fun p : Gfold_pair => Value.agg #[.int .i32 p.e0, .int .i32 p.e1]) (fun n : Int => Value.int .i32 n) b3 r1.1, mapA (fun n : Int => Value.int .i32 n) (fun p : Gfold_pair => Value.agg #[.int .i32 p.e0, .int .i32 p.e1]) b4 r1.2]) (Splits.of [0, 1, 2, 3] kr rfl) ?_
   refine TO.move rfl dc rfl (TO.extract rfl dc rfl rfl (TO.extract rfl dc rfl rfl ?_))
   refine TO.alloc zr_67 rfl dc (fun b5 => ?_)
   refine TO.assign rfl dc rfl ?_
   refine TO.store (k := 4) (l' := [.map (some b4)]) sz_67 rfl rfl rfl rfl rfl (fun _ _ => rfl) rfl ?_
   show TO _ _ _ _ _ _ _ _ _ _ [star ((([] : List Nat) : List Nat).map mark), cells b1 [.string s1] 9, mapA (fun p : Gfold_pair => Value.agg #[.int .i32 p.e0, .int .i32 p.e1]) (fun n : Int => Value.int .i32 n) b3 r1.1, mapA (fun n : Int => Value.int .i32 n) (fun p : Gfold_pair => Value.agg #[.int .i32 p.e0, .int .i32 p.e1]) b4 r1.2, cells b5 [.map (some b4)] 67]
   refine TO.nil (TX.next (TC.seq (TC.region ?_)))
   refine TO.alloc zr_42 rfl dc (fun b6 => ?_)
   refine TO.nil (TX.next (TC.seq (TC.label (TX.next (cut (TC.seq (TC.region (TO.load (k := 1) sc_9 rfl dc rfl rfl rfl ?_))))))))
   obtain ⟨r2, hq2, h⟩ := andE h
   refine TO.call (vs := [.string s1]) rfl dc rfl rfl rfl en_49 (runes_Pieces_fn hq2) Splits.nil ?_
   rintro b7
   show TO _ _ _ _ _ _ _ _ _ _ [star ((([] : List Nat) : List Nat).map mark), cells b1 [.string s1] 9, mapA (fun p : Gfold_pair => Value.agg #[.int .i32 p.e0, .int .i32 p.e1]) (fun n : Int => Value.int .i32 n) b3 r1.1, mapA (fun n : Int => Value.int .i32 n) (fun p : Gfold_pair => Value.agg #[.int .i32 p.e0, .int .i32 p.e1]) b4 r1.2, cells b5 [.map (some b4)] 67, cells b6 [.slice none 0 0] 42, cells b7 [.string r2] 9]
   refine TO.weakenL (L' := [star ((([] : List Nat) : List Nat).map mark), cells b1 [.string s1] 9, mapA (fun p : Gfold_pair => Value.agg #[.int .i32 p.e0, .int .i32 p.e1]) (fun n : Int => Value.int .i32 n) b3 r1.1, mapA (fun n : Int => Value.int .i32 n) (fun p : Gfold_pair => Value.agg #[.int .i32 p.e0, .int .i32 p.e1]) b4 r1.2, cells b5 [.map (some b4)] 67, cells b6 [.slice none 0 0] 42, cells b7 [.string r2] 9]) (Splits.of [0, 1, 2, 3, 4, 5, 6] kr rfl) ?_
   refine TO.nil (TX.next (TC.block ?_))
   obtain ⟨its1, hq3, h⟩ := andE h
   refine TC.newN (enc := encN_Gfold_unit) (nest := nest_Gfold_unit) (e := 46) (size := 5) ?_
   show TC _ _ _ _ _ _ _ _ _ [star ((([] : List Nat) : List Nat).map mark), cells b1 [.string s1] 9, mapA (fun p : Gfold_pair => Value.agg #[.int .i32 p.e0, .int .i32 p.e1]) (fun n : Int => Value.int .i32 n) b3 r1.1, mapA (fun n : Int => Value.int .i32 n) (fun p : Gfold_pair => Value.agg #[.int .i32 p.e0, .int .i32 p.e1]) b4 r1.2, cells b5 [.map (some b4)] 67, cells b6 [.slice none 0 0] 42, cells b7 [.string r2] 9, vecN encN_Gfold_unit nest_Gfold_unit 46 5 (.slice none 0 0) ([] : List Gfold_unit)]
   obtain ⟨d1, hd1, h⟩ := joinE h
   refine TC.range (α := Gapi_Piece) (β := (List Gfold_unit) × Hd) (γ := Unit) (δ := Nat) (ps := [18]) Ro.nil rfl en_73 (runes_Pieces_1_itr hq3) (fun pre b => ∀ post, its1 = pre ++ post → rangeG d1 (fold_units_s1 s1 r1) post b.1 = some r) (fun pre b => [cells b1 [.string s1] 9, cells b5 [.map (some b4)] 67, mapA (fun n : Int => Value.int .i32 n) (fun p : Gfold_pair => Value.agg #[.int .i32 p.e0, .int .i32 p.e1]) b4 r1.2, cells b6 [b.2.v] 42, vecN encN_Gfold_unit nest_Gfold_unit 46 5 b.2.v b.1]) (fun c pre g => False) (fun c pre g => []) (fun pre x b j => [(1, .pointer (some ⟨b1, 0, none⟩)), (2, .slice none 0 0), (4, .pointer (some ⟨b5, 0, none⟩)), (5, .pointer (some ⟨b6, 0, none⟩)), (17, .func (.func 73) #[] #[.pointer (some ⟨b7, 0, none⟩)]), (6, .pointer (some ⟨j, 0, none⟩))]) (fun pre x b j => [cells b1 [.string s1] 9, cells b5 [.map (some b4)] 67, mapA (fun n : Int => Value.int .i32 n) (fun p : Gfold_pair => Value.agg #[.int .i32 p.e0, .int .i32 p.e1]) b4 r1.2, cells b6 [b.2.v] 42, vecN encN_Gfold_unit nest_Gfold_unit 46 5 b.2.v b.1, cells j [.int .i64 x.At, .int .i64 x.Width, .int .i32 x.Rune, .bool x.Broken] 55]) (([] : List Gfold_unit), Hd.nil) (fun post e => by rw [List.nil_append] at e; subst e; exact h) (Splits.of [1, 4, 3, 5, 7] kr rfl) ⟨.inl ⟨6, rfl⟩, trivial⟩ (fun _ => rfl) dc ?_ ?_ ?_ ?_
   ·
    rintro lp rc pre x1 post ⟨l4, hd4⟩ w1 K1 hxs1 hext hro hinv
    refine TC.region ?_
    refine TO.alloc zr_55 rfl dc (fun b8 => ?_)
    refine TO.stores (k := 5) (vs := [.int .i64 x1.At, .int .i64 x1.Width, .int .i32 x1.Rune, .bool x1.Broken]) (l' := [.int .i64 x1.At, .int .i64 x1.Width, .int .i32 x1.Rune, .bool x1.Broken]) sz_55 rfl rfl rfl rfl rfl (show _ ≤ _ by simp) rfl rfl ?_
    show TO _ _ _ _ _ _ _ _ _ _ [cells b1 [.string s1] 9, cells b5 [.map (some b4)] 67, mapA (fun n : Int => Value.int .i32 n) (fun p : Gfold_pair => Value.agg #[.int .i32 p.e0, .int .i32 p.e1]) b4 r1.2, cells b6 [hd4.v] 42, vecN encN_Gfold_unit nest_Gfold_unit 46 5 hd4.v l4, cells b8 [.int .i64 x1.At, .int .i64 x1.Width, .int .i32 x1.Rune, .bool x1.Broken] 55]
    refine TO.nil ?_
    exact fun a w ha hw => ⟨b8, (Sbs.cons rfl (Sbs.cons rfl (Sbs.cons rfl (Sbs.cons rfl (Sbs.cons rfl (Sbs.cons rfl (Sbs.nil))))))) _ _ _ ha, hw.weaken (Splits.of [0, 1, 2, 3, 4, 5] kr rfl)⟩
   ·
    rintro lp rc pre x1 post1 ⟨l4, hd4⟩ jb1 w1 K1 hxs1 hext hro hinv
    have h := hinv (x1 :: post1) hxs1
    obtain ⟨ag1, hag1⟩ : ∃ ag, ag = rangeG d1 (fold_units_s1 s1 r1) post1 := ⟨_, rfl⟩
    have h : fold_units_s1 s1 r1 x1 ag1 l4 = some r := by rw [hag1]; exact h
    unfold fold_units_s1 at h
    show TC _ _ _ _ _ _ _ _ [(1, .pointer (some ⟨b1, 0, none⟩)), (2, .slice none 0 0), (4, .pointer (some ⟨b5, 0, none⟩)), (5, .pointer (some ⟨b6, 0, none⟩)), (17, .func (.func 73) #[] #[.pointer (some ⟨b7, 0, none⟩)]), (6, .pointer (some ⟨jb1, 0, none⟩))] [cells b1 [.string s1] 9, cells b5 [.map (some b4)] 67, mapA (fun n : Int => Value.int .i32 n) (fun p : Gfold_pair => Value.agg #[.int .i32 p.e0, .int .i32 p.e1]) b4 r1.2, cells b6 [hd4.v] 42, vecN encN_Gfold_unit nest_Gfold_unit 46 5 hd4.v l4, cells jb1 [.int .i64 x1.At, .int .i64 x1.Width, .int .i32 x1.Rune, .bool x1.Broken] 55]
    refine TC.block (TC.seq (TC.seq (TC.region (TO.fieldAddr fl_55_3 rfl dc rfl (show _ = 3 from rfl) (TO.load (k := 5) sc_4 rfl dc rfl rfl rfl (TO.nil (TX.next ?_)))))))
    refine TC.condB rfl (fun hb1 => ?_) (fun hb1 => ?_)
    ·
     have h := condT hb1 h
     refine TC.seq ?_
     obtain ⟨c1, hq4, h⟩ := andE h
     obtain ⟨hg1, h⟩ := grdE h
     refine TC.drawB (β := Nat) 9 8 _ [(0, 21, hd4.v), (1, 22, .pointer (some ⟨jb1, 0, none⟩)), (2, 23, .int .i64 x1.At), (3, 24, .string s1), (4, 25, .pointer (some ⟨jb1, 0, none⟩)), (5, 26, .int .i64 x1.At), (6, 27, .int .u8 c1), (7, 28, .agg #[.int .i64 x1.At, .int .u8 c1, .int .i32 (-1), .slice none 0 0, .slice none 0 0])] (fun b9 => [(29, .slice (some ⟨b9, 0, none⟩) 1 1)]) (fun b9 => [cells b1 [.string s1] 9, cells b5 [.map (some b4)] 67, mapA (fun n : Int => Value.int .i32 n) (fun p : Gfold_pair => Value.agg #[.int .i32 p.e0, .int .i32 p.e1]) b4 r1.2, cells b6 [hd4.v] 42, vecN encN_Gfold_unit nest_Gfold_unit 46 5 hd4.v l4, cells jb1 [.int .i64 x1.At, .int .i64 x1.Width, .int .i32 x1.Rune, .bool x1.Broken] 55, cells b9 [.int .i64 x1.At, .int .u8 c1, .int .i32 (-1), .slice none 0 0, .slice none 0 0] 46]) mixed kr kr rfl dc dc (by rfl) kr kr (DrawPreX.cons ?_ (DrawPreX.cons ?_ (DrawPreX.cons ?_ (DrawPreX.cons ?_ (DrawPreX.cons ?_ (DrawPreX.cons ?_ (DrawPreX.cons ?_ (DrawPreX.cons ?_ (DrawPreX.here DrawPreX.nil))))))))) (fun b9 => (DrawPreX.cons ?_ (DrawPreX.cons ?_ (DrawPreX.cons ?_ (DrawPreX.cons ?_ (DrawPreX.cons ?_ (DrawPreX.cons ?_ (DrawPreX.cons ?_ (DrawPreX.cons ?_ (DrawPreX.here DrawPreX.nil)))))))))) ?_ ?_
     ·
      intro D hn hd hcl hu hi
      refine TO.load (k := 3) sc_42 rfl dc (dl_old (by rfl) rfl) rfl rfl ?_
      exact TX.quiet 0 hu hi rfl
     ·
      intro D hn hd hcl hu hi
      refine TO.fieldAddr fl_55_0 rfl dc (dl_old (by rfl) rfl) (show _ = 0 from rfl) ?_
      exact TX.quiet 1 hu hi rfl
     ·
      intro D hn hd hcl hu hi
      refine TO.load (k := 5) sc_3 rfl dc (dl_lookup (m := 1) hu rfl (hd 1 dc)) rfl rfl ?_
      exact TX.quiet 2 hu hi rfl
     ·
      intro D hn hd hcl hu hi
      refine TO.load (k := 0) sc_9 rfl dc (dl_old (by rfl) rfl) rfl rfl ?_
      exact TX.quiet 3 hu hi rfl
     ·
      intro D hn hd hcl hu hi
      refine TO.fieldAddr fl_55_0 rfl dc (dl_old (by rfl) rfl) (show _ = 0 from rfl) ?_
      exact TX.quiet 4 hu hi rfl
     ·
      intro D hn hd hcl hu hi
      refine TO.load (k := 5) sc_3 rfl dc (dl_lookup (m := 4) hu rfl (hd 4 dc)) rfl rfl ?_
      exact TX.quiet 5 hu hi rfl
     ·
      intro D hn hd hcl hu hi
      refine TO.index rfl dc (dl_lookup (m := 3) hu rfl (hd 3 dc)) (dl_lookup (m := 5) hu rfl (hd 5 dc)) (index_stringI Try.underlying9 hq4) ?_
      exact TX.quiet 6 hu hi rfl
     ·
      intro D hn hd hcl hu hi
      refine TO.build (v := .agg #[.int .i64 x1.At, .int .u8 c1, .int .i32 (-1), .slice none 0 0, .slice none 0 0]) (ps := [(0, .tmp 23), (1, .tmp 27), (2, .const (.int .i32 (-1)))]) rfl dc (evP.cons (dl_lookup (m := 2) hu rfl (hd 2 dc)) (evP.cons (dl_lookup (m := 6) hu rfl (hd 6 dc)) (evP.cons rfl evP.nil))) (fun _ => by kernel_rfl) ?_
      exact TX.quiet 7 hu hi rfl
     ·
      intro D hn hd hcl hu hi
      refine TO.load (k := 3) sc_42 rfl dc (dl_old (by rfl) rfl) rfl rfl ?_
      exact TX.quiet 0 hu hi rfl
     ·
      intro D hn hd hcl hu hi
      refine TO.fieldAddr fl_55_0 rfl dc (dl_old (by rfl) rfl) (show _ = 0 from rfl) ?_
      exact TX.quiet 1 hu hi rfl
     ·
      intro D hn hd hcl hu hi
      refine TO.load (k := 5) sc_3 rfl dc (dl_lookup (m := 1) hu rfl (hd 1 dc)) rfl rfl ?_
      exact TX.quiet 2 hu hi rfl
     ·
      intro D hn hd hcl hu hi
      refine TO.load (k := 0) sc_9 rfl dc (dl_old (by rfl) rfl) rfl rfl ?_
      exact TX.quiet 3 hu hi rfl
     ·
      intro D hn hd hcl hu hi
      refine TO.fieldAddr fl_55_0 rfl dc (dl_old (by rfl) rfl) (show _ = 0 from rfl) ?_
      exact TX.quiet 4 hu hi rfl
     ·
      intro D hn hd hcl hu hi
      refine TO.load (k := 5) sc_3 rfl dc (dl_lookup (m := 4) hu rfl (hd 4 dc)) rfl rfl ?_
      exact TX.quiet 5 hu hi rfl
     ·
      intro D hn hd hcl hu hi
      refine TO.index rfl dc (dl_lookup (m := 3) hu rfl (hd 3 dc)) (dl_lookup (m := 5) hu rfl (hd 5 dc)) (index_stringI Try.underlying9 hq4) ?_
      exact TX.quiet 6 hu hi rfl
     ·
      intro D hn hd hcl hu hi
      refine TO.build (v := .agg #[.int .i64 x1.At, .int .u8 c1, .int .i32 (-1), .slice none 0 0, .slice none 0 0]) (ps := [(0, .tmp 23), (1, .tmp 27), (2, .const (.int .i32 (-1)))]) rfl dc (evP.cons (dl_lookup (m := 2) hu rfl (hd 2 dc)) (evP.cons (dl_lookup (m := 6) hu rfl (hd 6 dc)) (evP.cons rfl evP.nil))) (fun _ => by kernel_rfl) ?_
      exact TX.quiet 7 hu hi rfl
     ·
      intro D hn hd hcl
      refine TO.buildSlice (cs := [.int .i64 x1.At, .int .u8 c1, .int .i32 (-1), .slice none 0 0, .slice none 0 0]) (te := 46) (ps := [(0, .tmp 28)]) rfl dc (evP.cons (dl_lookup (m := 7) kr rfl (hd 7 dc)) evP.nil) (fun _ => by kernel_rfl) (fun b9 => ?_)
      exact fun a w ha hw => ⟨b9, Sbs.mid (by rfl) _ _ _ ha, hw⟩
     intro b9
     show TO _ _ _ _ _ _ _ _ _ _ [cells b1 [.string s1] 9, cells b5 [.map (some b4)] 67, mapA (fun n : Int => Value.int .i32 n) (fun p : Gfold_pair => Value.agg #[.int .i32 p.e0, .int .i32 p.e1]) b4 r1.2, cells b6 [hd4.v] 42, vecN encN_Gfold_unit nest_Gfold_unit 46 5 hd4.v l4, cells jb1 [.int .i64 x1.At, .int .i64 x1.Width, .int .i32 x1.Rune, .bool x1.Broken] 55, cells b9 [.int .i64 x1.At, .int .u8 c1, .int .i32 (-1), .slice none 0 0, .slice none 0 0] 46]
     refine TO.newVec (enc := (encI (.i32))) (e := 21) (size := 1) ?_
     show TO _ _ _ _ _ _ _ _ _ _ [cells b1 [.string s1] 9, cells b5 [.map (some b4)] 67, mapA (fun n : Int => Value.int .i32 n) (fun p : Gfold_pair => Value.agg #[.int .i32 p.e0, .int .i32 p.e1]) b4 r1.2, cells b6 [hd4.v] 42, vecN encN_Gfold_unit nest_Gfold_unit 46 5 hd4.v l4, cells jb1 [.int .i64 x1.At, .int .i64 x1.Width, .int .i32 x1.Rune, .bool x1.Broken] 55, cells b9 [.int .i64 x1.At, .int .u8 c1, .int .i32 (-1), .slice none 0 0, .slice none 0 0] 46, vec (encI (.i32)) 21 1 (.slice none 0 0) ([] : List Int)]
     refine TO.newVec (enc := (encI (.i32))) (e := 21) (size := 1) ?_
     show TO _ _ _ _ _ _ _ _ _ _ [cells b1 [.string s1] 9, cells b5 [.map (some b4)] 67, mapA (fun n : Int => Value.int .i32 n) (fun p : Gfold_pair => Value.agg #[.int .i32 p.e0, .int .i32 p.e1]) b4 r1.2, cells b6 [hd4.v] 42, vecN encN_Gfold_unit nest_Gfold_unit 46 5 hd4.v l4, cells jb1 [.int .i64 x1.At, .int .i64 x1.Width, .int .i32 x1.Rune, .bool x1.Broken] 55, cells b9 [.int .i64 x1.At, .int .u8 c1, .int .i32 (-1), .slice none 0 0, .slice none 0 0] 46, vec (encI (.i32)) 21 1 (.slice none 0 0) ([] : List Int), vec (encI (.i32)) 21 1 (.slice none 0 0) ([] : List Int)]
     refine TO.unfold1 (k := 4) rfl openE (fun zs1 hz1 => ?_)
     show TO _ _ _ _ _ _ _ _ _ _ [cells b1 [.string s1] 9, cells b5 [.map (some b4)] 67, mapA (fun n : Int => Value.int .i32 n) (fun p : Gfold_pair => Value.agg #[.int .i32 p.e0, .int .i32 p.e1]) b4 r1.2, cells b6 [hd4.v] 42, vec encN_Gfold_unit 46 5 hd4.v zs1, cells jb1 [.int .i64 x1.At, .int .i64 x1.Width, .int .i32 x1.Rune, .bool x1.Broken] 55, cells b9 [.int .i64 x1.At, .int .u8 c1, .int .i32 (-1), .slice none 0 0, .slice none 0 0] 46, vec (encI (.i32)) 21 1 (.slice none 0 0) ([] : List Int), vec (encI (.i32)) 21 1 (.slice none 0 0) ([] : List Int), own nest_Gfold_unit zs1]
     refine TO.appendVec (k := 4) (k2 := 6) (ys := [((⟨x1.At, c1, (-1), ([] : List Int), ([] : List Int)⟩ : Gfold_unit), (Hd.nil, Hd.nil))]) Try.underlying42 el_46 encN_Gfold_unit_len encN_Gfold_unit_one rfl dc rfl rfl rfl rfl rfl rfl (by rw [zlen hz1]; exact hg1) (fun v1 => ?_)
     show TO _ _ _ _ _ _ _ _ _ _ [cells b1 [.string s1] 9, cells b5 [.map (some b4)] 67, mapA (fun n : Int => Value.int .i32 n) (fun p : Gfold_pair => Value.agg #[.int .i32 p.e0, .int .i32 p.e1]) b4 r1.2, cells b6 [hd4.v] 42, vec encN_Gfold_unit 46 5 v1 (zs1 ++ [((⟨x1.At, c1, (-1), ([] : List Int), ([] : List Int)⟩ : Gfold_unit), (Hd.nil, Hd.nil))]), cells jb1 [.int .i64 x1.At, .int .i64 x1.Width, .int .i32 x1.Rune, .bool x1.Broken] 55, cells b9 [.int .i64 x1.At, .int .u8 c1, .int .i32 (-1), .slice none 0 0, .slice none 0 0] 46, vec (encI (.i32)) 21 1 (.slice none 0 0) ([] : List Int), vec (encI (.i32)) 21 1 (.slice none 0 0) ([] : List Int), own nest_Gfold_unit zs1]
     refine TO.nameHd (k := 4) rfl (fun hd5 he1 => ?_)
     subst he1
     refine TO.fold1 (k := 9) rfl (Splits.of [7, 8] kr rfl) rfl (ownApp (nest := nest_Gfold_unit) (zs := zs1) (z := ((⟨x1.At, c1, (-1), ([] : List Int), ([] : List Int)⟩ : Gfold_unit), (Hd.nil, Hd.nil)))) ?_
     show TO _ _ _ _ _ _ _ _ _ _ [cells b1 [.string s1] 9, cells b5 [.map (some b4)] 67, mapA (fun n : Int => Value.int .i32 n) (fun p : Gfold_pair => Value.agg #[.int .i32 p.e0, .int .i32 p.e1]) b4 r1.2, cells b6 [hd4.v] 42, vec encN_Gfold_unit 46 5 hd5.v (zs1 ++ [((⟨x1.At, c1, (-1), ([] : List Int), ([] : List Int)⟩ : Gfold_unit), (Hd.nil, Hd.nil))]), cells jb1 [.int .i64 x1.At, .int .i64 x1.Width, .int .i32 x1.Rune, .bool x1.Broken] 55, cells b9 [.int .i64 x1.At, .int .u8 c1, .int .i32 (-1), .slice none 0 0, .slice none 0 0] 46, emp, emp, own nest_Gfold_unit (zs1 ++ [((⟨x1.At, c1, (-1), ([] : List Int), ([] : List Int)⟩ : Gfold_unit), (Hd.nil, Hd.nil))])]
     refine TO.fold1 (k := 4) rfl (Splits.of [9] kr rfl) rfl (closeE (enc := encN_Gfold_unit) (nest := nest_Gfold_unit) (zapp hz1)) ?_
     show TO _ _ _ _ _ _ _ _ _ _ [cells b1 [.string s1] 9, cells b5 [.map (some b4)] 67, mapA (fun n : Int => Value.int .i32 n) (fun p : Gfold_pair => Value.agg #[.int .i32 p.e0, .int .i32 p.e1]) b4 r1.2, cells b6 [hd4.v] 42, vecN encN_Gfold_unit nest_Gfold_unit 46 5 hd5.v (l4 ++ [(⟨x1.At, c1, (-1), ([] : List Int), ([] : List Int)⟩ : Gfold_unit)]), cells jb1 [.int .i64 x1.At, .int .i64 x1.Width, .int .i32 x1.Rune, .bool x1.Broken] 55, cells b9 [.int .i64 x1.At, .int .u8 c1, .int .i32 (-1), .slice none 0 0, .slice none 0 0] 46, emp, emp, emp]
     refine TO.weakenL (L' := [cells b1 [.string s1] 9, cells b5 [.map (some b4)] 67, mapA (fun n : Int => Value.int .i32 n) (fun p : Gfold_pair => Value.agg #[.int .i32 p.e0, .int .i32 p.e1]) b4 r1.2, cells b6 [hd4.v] 42, vecN encN_Gfold_unit nest_Gfold_unit 46 5 hd5.v (l4 ++ [(⟨x1.At, c1, (-1), ([] : List Int), ([] : List Int)⟩ : Gfold_unit)]), cells jb1 [.int .i64 x1.At, .int .i64 x1.Width, .int .i32 x1.Rune, .bool x1.Broken] 55, cells b9 [.int .i64 x1.At, .int .u8 c1, .int .i32 (-1), .slice none 0 0, .slice none 0 0] 46]) (Splits.of [0, 1, 2, 3, 4, 5, 6] kr rfl) ?_
     refine TO.store (k := 3) (l' := [hd5.v]) sz_42 rfl rfl rfl rfl rfl (fun _ _ => rfl) rfl ?_
     show TO _ _ _ _ _ _ _ _ _ _ [cells b1 [.string s1] 9, cells b5 [.map (some b4)] 67, mapA (fun n : Int => Value.int .i32 n) (fun p : Gfold_pair => Value.agg #[.int .i32 p.e0, .int .i32 p.e1]) b4 r1.2, cells b6 [hd5.v] 42, vecN encN_Gfold_unit nest_Gfold_unit 46 5 hd5.v (l4 ++ [(⟨x1.At, c1, (-1), ([] : List Int), ([] : List Int)⟩ : Gfold_unit)]), cells jb1 [.int .i64 x1.At, .int .i64 x1.Width, .int .i32 x1.Rune, .bool x1.Broken] 55, cells b9 [.int .i64 x1.At, .int .u8 c1, .int .i32 (-1), .slice none 0 0, .slice none 0 0] 46]
     refine TO.nil (TX.next (TC.exit (TX.thenExit (TX.blockHere ?_))))
     exact TX.round (l4 ++ [(⟨x1.At, c1, (-1), ([] : List Int), ([] : List Int)⟩ : Gfold_unit)], hd5) (fun post2 e2 => by have e9 := snoc_post hxs1 e2; subst e9; subst hag1; exact h) (Splits.of [0, 1, 2, 3, 4] kr rfl)
    ·
     have h := condF hb1 h
     refine TC.skip (TX.next ?_)
     obtain ⟨j2, hj2, h⟩ := joinE h
     refine TC.cutN (β := Unit) 0 rfl (fun b => j2 = some r) (fun b => []) (fun b => [(1, .pointer (some ⟨b1, 0, none⟩)), (2, .slice none 0 0), (4, .pointer (some ⟨b5, 0, none⟩)), (5, .pointer (some ⟨b6, 0, none⟩)), (6, .pointer (some ⟨jb1, 0, none⟩)), (17, .func (.func 73) #[] #[.pointer (some ⟨b7, 0, none⟩)])]) (fun b => [cells b1 [.string s1] 9, cells b5 [.map (some b4)] 67, mapA (fun n : Int => Value.int .i32 n) (fun p : Gfold_pair => Value.agg #[.int .i32 p.e0, .int .i32 p.e1]) b4 r1.2, cells b6 [hd4.v] 42, vecN encN_Gfold_unit nest_Gfold_unit 46 5 hd4.v l4, cells jb1 [.int .i64 x1.At, .int .i64 x1.Width, .int .i32 x1.Rune, .bool x1.Broken] 55]) (fun cut => ?_) ?_
     ·
      refine cut (TC.seq (TC.region (TO.load (k := 3) sc_42 rfl dc rfl rfl rfl (TO.lenVecN (k := 4) rfl dc rfl rfl Try.underlying42 (TO.assign rfl dc rfl (TO.nil (TX.next (TC.seq (TC.region (TO.move rfl dc rfl (TO.bin rfl dc rfl rfl bin_gtr (TO.move rfl dc rfl ?_))))))))))))
      refine TO.split (s := 35) rfl (fun hb2 => ?_) (fun hb2 => ?_)
      ·
       have h := condT hb2 h
       refine TO.load (k := 3) sc_42 rfl dc rfl rfl rfl (TO.move rfl dc rfl ?_)
       obtain ⟨hg2, h⟩ := grdE h
       refine TO.bin rfl dc rfl rfl (bin_sub (r := (l4.length : Int) - 1) (IntWalk.i64_in _ hg2)) ?_
       refine TO.unfold1 (k := 4) rfl openE (fun zs2 hz2 => ?_)
       show TO _ _ _ _ _ _ _ _ _ _ [cells b1 [.string s1] 9, cells b5 [.map (some b4)] 67, mapA (fun n : Int => Value.int .i32 n) (fun p : Gfold_pair => Value.agg #[.int .i32 p.e0, .int .i32 p.e1]) b4 r1.2, cells b6 [hd4.v] 42, vec encN_Gfold_unit 46 5 hd4.v zs2, cells jb1 [.int .i64 x1.At, .int .i64 x1.Width, .int .i32 x1.Rune, .bool x1.Broken] 55, own nest_Gfold_unit zs2]
       obtain ⟨x2, hq5, h⟩ := andE h
       obtain ⟨⟨eh1, eh2⟩, eq1⟩ := getO_z hz2 hq5
       refine TO.indexVecI (k := 4) eq1 Try.underlying42 sz_46 rfl dc rfl rfl rfl rfl (TO.loadsVec (i := ((l4.length : Int) - 1 : Int).toNat) (j := 0) (k := 4) (q := (x2, (eh1, eh2))) (cs := [.int .i64 x2.at_, .int .u8 x2.broken, .int .i32 x2.base, eh1.v, eh2.v]) rw_46 encN_Gfold_unit_len rfl dc rfl rfl (getO_get eq1) rfl rfl rfl ?_)
       refine TO.unfold1 (k := 6) rfl (pullE (getO_get eq1)) (fun _ _ => ?_)
       show TO _ _ _ _ _ _ _ _ _ _ [cells b1 [.string s1] 9, cells b5 [.map (some b4)] 67, mapA (fun n : Int => Value.int .i32 n) (fun p : Gfold_pair => Value.agg #[.int .i32 p.e0, .int .i32 p.e1]) b4 r1.2, cells b6 [hd4.v] 42, vec encN_Gfold_unit 46 5 hd4.v zs2, cells jb1 [.int .i64 x1.At, .int .i64 x1.Width, .int .i32 x1.Rune, .bool x1.Broken] 55, own nest_Gfold_unit (zs2.eraseIdx (((l4.length : Int) - 1 : Int).toNat)), vec (encI (.i32)) 21 1 eh1.v x2.low, vec (encI (.i32)) 21 1 eh2.v x2.high]
       obtain ⟨r3, hq6, h⟩ := andE h
       refine TO.callK (v := .bool r3) (vs := [.agg #[.int .i64 x2.at_, .int .u8 x2.broken, .int .i32 x2.base, eh1.v, eh2.v]]) rfl dc rfl rfl rfl en_42 (fold_unit_letter_fn (u1 := x2) (u1_h0 := eh1) (u1_h1 := eh2) hq6) [7, 8] kr rfl (TO.pick (b := true) rfl dc rfl rfl (TO.move rfl dc rfl ?_))
       refine TO.split (s := 43) rfl (fun hb3 => ?_) (fun hb3 => ?_)
       ·
        have h := condT hb3 h
        refine TO.fieldAddr fl_55_2 rfl dc rfl (show _ = 2 from rfl) (TO.load (k := 5) sc_21 rfl dc rfl rfl rfl ?_)
        obtain ⟨hg3, h⟩ := grdE h
        refine TO.callP (v := .int .i64 (kind x1.Rune)) (vs := [.int .i32 x1.Rune]) rfl dc rfl rfl rfl en_16 (FnP.of_same fun w => kind_any x1.Rune w hg3.1 hg3.2) ?_
        refine TO.bin rfl dc rfl rfl bin_eql (TO.pick (b := true) rfl dc rfl rfl (TO.nil (TX.next ?_)))
        refine TC.condB rfl (fun hb4 => ?_) (fun hb4 => ?_)
        ·
         have h := condT hb4 h
         refine TC.seq (TC.fold1 (k := 6) rfl (Splits.of [7, 8] kr rfl) rfl (pushE (nest := nest_Gfold_unit) (getO_get eq1) rfl) ?_)
         show TC _ _ _ _ _ _ _ _ _ [cells b1 [.string s1] 9, cells b5 [.map (some b4)] 67, mapA (fun n : Int => Value.int .i32 n) (fun p : Gfold_pair => Value.agg #[.int .i32 p.e0, .int .i32 p.e1]) b4 r1.2, cells b6 [hd4.v] 42, vec encN_Gfold_unit 46 5 hd4.v zs2, cells jb1 [.int .i64 x1.At, .int .i64 x1.Width, .int .i32 x1.Rune, .bool x1.Broken] 55, own nest_Gfold_unit zs2, emp, emp]
         obtain ⟨hg4, h⟩ := grdE h
         obtain ⟨x3, hq7, h⟩ := andE h
         obtain ⟨⟨eh3, eh4⟩, eq2⟩ := getO_z hz2 hq7
         obtain ⟨r4, hq8, h⟩ := andE h
         refine TC.drawN 6 [(0, 49, hd4.v), (1, 50, .int .i64 (l4.length : Int)), (2, 51, .int .i64 ((l4.length : Int) - 1)), (3, 52, .pointer (some ⟨vblk hd4.v, ((l4.length : Int) - 1 : Int).toNat * 5, none⟩)), (4, 53, .pointer (some ⟨jb1, 2, none⟩)), (5, 54, .int .i32 x1.Rune)] mixed kr kr dc (by rfl) kr kr (DrawPre.cons ?_ (DrawPre.cons ?_ (DrawPre.cons ?_ (DrawPre.cons ?_ (DrawPre.cons ?_ (DrawPre.cons ?_ DrawPre.nil)))))) ?_
         ·
          intro D hn hd hcl hu hi
          refine TO.load (k := 3) sc_42 rfl dc (dl_old (by rfl) rfl) rfl rfl ?_
          exact TX.quiet 0 hu hi rfl
         ·
          intro D hn hd hcl hu hi
          refine TO.move rfl dc (dl_old (by rfl) rfl) ?_
          exact TX.quiet 1 hu hi rfl
         ·
          intro D hn hd hcl hu hi
          refine TO.bin rfl dc (dl_lookup (m := 1) hu rfl (hd 1 dc)) rfl (bin_sub (r := (l4.length : Int) - 1) (IntWalk.i64_in _ hg4)) ?_
          exact TX.quiet 2 hu hi rfl
         ·
          intro D hn hd hcl hu hi
          refine TO.indexVecI (k := 4) eq2 Try.underlying42 sz_46 rfl dc (dl_lookup (m := 0) hu rfl (hd 0 dc)) (dl_lookup (m := 2) hu rfl (hd 2 dc)) rfl rfl ?_
          exact TX.quiet 3 hu hi rfl
         ·
          intro D hn hd hcl hu hi
          refine TO.fieldAddr fl_55_2 rfl dc (dl_old (by rfl) rfl) (show _ = 2 from rfl) ?_
          exact TX.quiet 4 hu hi rfl
         ·
          intro D hn hd hcl hu hi
          refine TO.load (k := 5) sc_21 rfl dc (dl_lookup (m := 4) hu rfl (hd 4 dc)) rfl rfl ?_
          exact TX.quiet 5 hu hi rfl
         refine TO.unfold1 (k := 6) rfl (pullE (getO_get eq2)) (fun _ _ => ?_)
         show TO _ _ _ _ _ _ _ _ _ _ [cells b1 [.string s1] 9, cells b5 [.map (some b4)] 67, mapA (fun n : Int => Value.int .i32 n) (fun p : Gfold_pair => Value.agg #[.int .i32 p.e0, .int .i32 p.e1]) b4 r1.2, cells b6 [hd4.v] 42, vec encN_Gfold_unit 46 5 hd4.v zs2, cells jb1 [.int .i64 x1.At, .int .i64 x1.Width, .int .i32 x1.Rune, .bool x1.Broken] 55, own nest_Gfold_unit (zs2.eraseIdx (((l4.length : Int) - 1 : Int).toNat)), emp, emp, vec (encI (.i32)) 21 1 eh3.v x3.low, vec (encI (.i32)) 21 1 eh4.v x3.high]
         refine TO.call (vs := [.pointer (some ⟨vblk hd4.v, ((l4.length : Int) - 1 : Int).toNat * 5, none⟩), .int .i32 x1.Rune]) rfl dc rfl rfl rfl en_50 (fold_unit_mark_fn (vu1 := hd4.v) (u1 := x3) (u1_h0 := eh3) (u1_h1 := eh4) (getO_get eq2) hq8) (Splits.of [4, 9, 10] kr rfl) ?_
         rintro ⟨hd6, hd7⟩
         show TO _ _ _ _ _ _ _ _ _ _ [cells b1 [.string s1] 9, cells b5 [.map (some b4)] 67, mapA (fun n : Int => Value.int .i32 n) (fun p : Gfold_pair => Value.agg #[.int .i32 p.e0, .int .i32 p.e1]) b4 r1.2, cells b6 [hd4.v] 42, emp, cells jb1 [.int .i64 x1.At, .int .i64 x1.Width, .int .i32 x1.Rune, .bool x1.Broken] 55, own nest_Gfold_unit (zs2.eraseIdx (((l4.length : Int) - 1 : Int).toNat)), emp, emp, emp, emp, vec encN_Gfold_unit 46 5 hd4.v (zs2.set (((l4.length : Int) - 1 : Int).toNat) (r4, (hd6, hd7))), vec (encI (.i32)) 21 1 hd6.v r4.low, vec (encI (.i32)) 21 1 hd7.v r4.high]
         refine TO.weakenL (L' := [cells b1 [.string s1] 9, cells b5 [.map (some b4)] 67, mapA (fun n : Int => Value.int .i32 n) (fun p : Gfold_pair => Value.agg #[.int .i32 p.e0, .int .i32 p.e1]) b4 r1.2, cells b6 [hd4.v] 42, vec encN_Gfold_unit 46 5 hd4.v (zs2.set (((l4.length : Int) - 1 : Int).toNat) (r4, (hd6, hd7))), cells jb1 [.int .i64 x1.At, .int .i64 x1.Width, .int .i32 x1.Rune, .bool x1.Broken] 55, own nest_Gfold_unit (zs2.eraseIdx (((l4.length : Int) - 1 : Int).toNat)), emp, emp, emp, emp, vec (encI (.i32)) 21 1 hd6.v r4.low, vec (encI (.i32)) 21 1 hd7.v r4.high]) (Splits.of [0, 1, 2, 3, 11, 5, 6, 7, 8, 9, 10, 12, 13] kr rfl) ?_
         refine TO.fold1 (k := 6) rfl (Splits.of [11, 12] kr rfl) rfl (pushE (nest := nest_Gfold_unit) (zs := zs2) (z := (r4, (hd6, hd7))) (set_get (getO_get eq2)) set_erase) ?_
         show TO _ _ _ _ _ _ _ _ _ _ [cells b1 [.string s1] 9, cells b5 [.map (some b4)] 67, mapA (fun n : Int => Value.int .i32 n) (fun p : Gfold_pair => Value.agg #[.int .i32 p.e0, .int .i32 p.e1]) b4 r1.2, cells b6 [hd4.v] 42, vec encN_Gfold_unit 46 5 hd4.v (zs2.set (((l4.length : Int) - 1 : Int).toNat) (r4, (hd6, hd7))), cells jb1 [.int .i64 x1.At, .int .i64 x1.Width, .int .i32 x1.Rune, .bool x1.Broken] 55, own nest_Gfold_unit (zs2.set (((l4.length : Int) - 1 : Int).toNat) (r4, (hd6, hd7))), emp, emp, emp, emp, emp, emp]
         refine TO.weakenL (L' := [cells b1 [.string s1] 9, cells b5 [.map (some b4)] 67, mapA (fun n : Int => Value.int .i32 n) (fun p : Gfold_pair => Value.agg #[.int .i32 p.e0, .int .i32 p.e1]) b4 r1.2, cells b6 [hd4.v] 42, vec encN_Gfold_unit 46 5 hd4.v (zs2.set (((l4.length : Int) - 1 : Int).toNat) (r4, (hd6, hd7))), cells jb1 [.int .i64 x1.At, .int .i64 x1.Width, .int .i32 x1.Rune, .bool x1.Broken] 55, own nest_Gfold_unit (zs2.set (((l4.length : Int) - 1 : Int).toNat) (r4, (hd6, hd7))), emp, emp]) (Splits.of [0, 1, 2, 3, 4, 5, 6, 7, 8] kr rfl) ?_
         refine TO.nil (TX.next (TC.exit (TX.thenExit (TX.blockHere (TX.fold1 (k := 4) rfl (Splits.of [6] kr rfl) rfl (closeE (enc := encN_Gfold_unit) (nest := nest_Gfold_unit) (zset hz2)) ?_)))))
         show TX _ _ _ _ _ _ _ [cells b1 [.string s1] 9, cells b5 [.map (some b4)] 67, mapA (fun n : Int => Value.int .i32 n) (fun p : Gfold_pair => Value.agg #[.int .i32 p.e0, .int .i32 p.e1]) b4 r1.2, cells b6 [hd4.v] 42, vecN encN_Gfold_unit nest_Gfold_unit 46 5 hd4.v (l4.set ((l4.length : Int) - 1 : Int).toNat r4), cells jb1 [.int .i64 x1.At, .int .i64 x1.Width, .int .i32 x1.Rune, .bool x1.Broken] 55, emp, emp, emp]
         exact TX.round (l4.set ((l4.length : Int) - 1 : Int).toNat r4, hd4) (fun post2 e2 => by have e9 := snoc_post hxs1 e2; subst e9; subst hag1; exact h) (Splits.of [0, 1, 2, 3, 4] kr rfl)
        ·
         have h := condF hb4 h
         refine TC.skip (TX.fold1 (k := 6) rfl (Splits.of [7, 8] kr rfl) rfl (pushE (nest := nest_Gfold_unit) (getO_get eq1) rfl) ?_)
         show TX _ _ _ _ _ _ _ [cells b1 [.string s1] 9, cells b5 [.map (some b4)] 67, mapA (fun n : Int => Value.int .i32 n) (fun p : Gfold_pair => Value.agg #[.int .i32 p.e0, .int .i32 p.e1]) b4 r1.2, cells b6 [hd4.v] 42, vec encN_Gfold_unit 46 5 hd4.v zs2, cells jb1 [.int .i64 x1.At, .int .i64 x1.Width, .int .i32 x1.Rune, .bool x1.Broken] 55, own nest_Gfold_unit zs2, emp, emp]
         refine TX.fold1 (k := 4) rfl (Splits.of [6] kr rfl) rfl (closeE (enc := encN_Gfold_unit) (nest := nest_Gfold_unit) hz2) ?_
         show TX _ _ _ _ _ _ _ [cells b1 [.string s1] 9, cells b5 [.map (some b4)] 67, mapA (fun n : Int => Value.int .i32 n) (fun p : Gfold_pair => Value.agg #[.int .i32 p.e0, .int .i32 p.e1]) b4 r1.2, cells b6 [hd4.v] 42, vecN encN_Gfold_unit nest_Gfold_unit 46 5 hd4.v l4, cells jb1 [.int .i64 x1.At, .int .i64 x1.Width, .int .i32 x1.Rune, .bool x1.Broken] 55, emp, emp, emp]
         exact TX.meetD () h rfl (Sbs.cons rfl (Sbs.cons rfl (Sbs.cons rfl (Sbs.cons rfl (Sbs.cons rfl (Sbs.cons rfl (Sbs.nil))))))) (Splits.of [0, 1, 2, 3, 4, 5] kr rfl)
       ·
        have h := condF hb3 h
        refine TO.skip rfl dc (TO.skip rfl dc (TO.skip rfl dc (TO.skip rfl dc (TO.pick (b := false) rfl dc rfl rfl (TO.nil (TX.next (TC.condF rfl (TC.skip (TX.fold1 (k := 6) rfl (Splits.of [7, 8] kr rfl) rfl (pushE (nest := nest_Gfold_unit) (getO_get eq1) rfl) ?_)))))))))
        show TX _ _ _ _ _ _ _ [cells b1 [.string s1] 9, cells b5 [.map (some b4)] 67, mapA (fun n : Int => Value.int .i32 n) (fun p : Gfold_pair => Value.agg #[.int .i32 p.e0, .int .i32 p.e1]) b4 r1.2, cells b6 [hd4.v] 42, vec encN_Gfold_unit 46 5 hd4.v zs2, cells jb1 [.int .i64 x1.At, .int .i64 x1.Width, .int .i32 x1.Rune, .bool x1.Broken] 55, own nest_Gfold_unit zs2, emp, emp]
        refine TX.fold1 (k := 4) rfl (Splits.of [6] kr rfl) rfl (closeE (enc := encN_Gfold_unit) (nest := nest_Gfold_unit) hz2) ?_
        show TX _ _ _ _ _ _ _ [cells b1 [.string s1] 9, cells b5 [.map (some b4)] 67, mapA (fun n : Int => Value.int .i32 n) (fun p : Gfold_pair => Value.agg #[.int .i32 p.e0, .int .i32 p.e1]) b4 r1.2, cells b6 [hd4.v] 42, vecN encN_Gfold_unit nest_Gfold_unit 46 5 hd4.v l4, cells jb1 [.int .i64 x1.At, .int .i64 x1.Width, .int .i32 x1.Rune, .bool x1.Broken] 55, emp, emp, emp]
        exact TX.meetD () h rfl (Sbs.cons rfl (Sbs.cons rfl (Sbs.cons rfl (Sbs.cons rfl (Sbs.cons rfl (Sbs.cons rfl (Sbs.nil))))))) (Splits.of [0, 1, 2, 3, 4, 5] kr rfl)
      ·
       have h := condF hb2 h
       refine TO.skip rfl dc (TO.skip rfl dc (TO.skip rfl dc (TO.skip rfl dc (TO.skip rfl dc (TO.skip rfl dc (TO.pick (b := false) rfl dc rfl rfl (TO.move rfl dc rfl (TO.skip rfl dc (TO.skip rfl dc (TO.skip rfl dc (TO.skip rfl dc (TO.pick (b := false) rfl dc rfl rfl (TO.nil ?_)))))))))))))
       refine TX.next (TC.condF rfl (TC.skip ?_))
       exact TX.meetD () h rfl (Sbs.cons rfl (Sbs.cons rfl (Sbs.cons rfl (Sbs.cons rfl (Sbs.cons rfl (Sbs.cons rfl (Sbs.nil))))))) (Splits.of [0, 1, 2, 3, 4, 5] kr rfl)
     ·
      rintro _ h
      rw [hj2] at h
      show TC _ _ _ _ _ ([]) _ _ [(1, .pointer (some ⟨b1, 0, none⟩)), (2, .slice none 0 0), (4, .pointer (some ⟨b5, 0, none⟩)), (5, .pointer (some ⟨b6, 0, none⟩)), (6, .pointer (some ⟨jb1, 0, none⟩)), (17, .func (.func 73) #[] #[.pointer (some ⟨b7, 0, none⟩)])] [cells b1 [.string s1] 9, cells b5 [.map (some b4)] 67, mapA (fun n : Int => Value.int .i32 n) (fun p : Gfold_pair => Value.agg #[.int .i32 p.e0, .int .i32 p.e1]) b4 r1.2, cells b6 [hd4.v] 42, vecN encN_Gfold_unit nest_Gfold_unit 46 5 hd4.v l4, cells jb1 [.int .i64 x1.At, .int .i64 x1.Width, .int .i32 x1.Rune, .bool x1.Broken] 55]
      obtain ⟨j3, hj3, h⟩ := joinE h
      refine TC.cutN (β := Int × Int × Int × (List Int) × (List Int) × Nat × Hd × Hd) 1 rfl (fun b => j3 b.1 b.2.1 b.2.2.1 b.2.2.2.1 b.2.2.2.2.1 = some r) (fun b => []) (fun b => [(1, .pointer (some ⟨b1, 0, none⟩)), (2, .slice none 0 0), (4, .pointer (some ⟨b5, 0, none⟩)), (5, .pointer (some ⟨b6, 0, none⟩)), (8, .pointer (some ⟨b.2.2.2.2.2.1, 0, none⟩)), (17, .func (.func 73) #[] #[.pointer (some ⟨b7, 0, none⟩)])]) (fun b => [cells b1 [.string s1] 9, cells b5 [.map (some b4)] 67, mapA (fun n : Int => Value.int .i32 n) (fun p : Gfold_pair => Value.agg #[.int .i32 p.e0, .int .i32 p.e1]) b4 r1.2, cells b6 [hd4.v] 42, vecN encN_Gfold_unit nest_Gfold_unit 46 5 hd4.v l4, cells b.2.2.2.2.2.1 [.int .i64 b.1, .int .u8 b.2.1, .int .i32 b.2.2.1, b.2.2.2.2.2.2.1.v, b.2.2.2.2.2.2.2.v] 46, vec (encI (.i32)) 21 1 b.2.2.2.2.2.2.1.v b.2.2.2.1, vec (encI (.i32)) 21 1 b.2.2.2.2.2.2.2.v b.2.2.2.2.1]) (fun cut => ?_) ?_
      ·
       refine TC.seq (TC.region (TO.fieldAddr fl_55_0 rfl dc rfl (show _ = 0 from rfl) (TO.load (k := 5) sc_3 rfl dc rfl rfl rfl (TO.fieldAddr fl_55_2 rfl dc rfl (show _ = 2 from rfl) (TO.load (k := 5) sc_21 rfl dc rfl rfl rfl ?_)))))
       refine TO.build (v := .agg #[.int .i64 x1.At, .int .u8 0, .int .i32 x1.Rune, .slice none 0 0, .slice none 0 0]) (ps := [(0, .tmp 57), (2, .tmp 59)]) rfl dc rfl (fun _ => by kernel_rfl) ?_
       refine TO.alloc zr_46 rfl dc (fun b11 => ?_)
       refine TO.stores (k := 6) (vs := [.int .i64 x1.At, .int .u8 0, .int .i32 x1.Rune, .slice none 0 0, .slice none 0 0]) (l' := [.int .i64 x1.At, .int .u8 0, .int .i32 x1.Rune, .slice none 0 0, .slice none 0 0]) sz_46 rfl rfl rfl rfl rfl (show _ ≤ _ by simp) rfl rfl ?_
       show TO _ _ _ _ _ _ _ _ _ _ [cells b1 [.string s1] 9, cells b5 [.map (some b4)] 67, mapA (fun n : Int => Value.int .i32 n) (fun p : Gfold_pair => Value.agg #[.int .i32 p.e0, .int .i32 p.e1]) b4 r1.2, cells b6 [hd4.v] 42, vecN encN_Gfold_unit nest_Gfold_unit 46 5 hd4.v l4, cells jb1 [.int .i64 x1.At, .int .i64 x1.Width, .int .i32 x1.Rune, .bool x1.Broken] 55, cells b11 [.int .i64 x1.At, .int .u8 0, .int .i32 x1.Rune, .slice none 0 0, .slice none 0 0] 46]
       refine TO.nil (TX.next (cut (TC.seq (TC.region (TO.loads (k := 6) (cs := [.int .i64 x1.At, .int .u8 0, .int .i32 x1.Rune, .slice none 0 0, .slice none 0 0]) rw_46 rfl dc rfl rfl rfl rfl (TO.newVec (enc := (encI (.i32))) (e := 21) (size := 1) ?_))))))
       show TO _ _ _ _ _ _ _ _ _ _ [cells b1 [.string s1] 9, cells b5 [.map (some b4)] 67, mapA (fun n : Int => Value.int .i32 n) (fun p : Gfold_pair => Value.agg #[.int .i32 p.e0, .int .i32 p.e1]) b4 r1.2, cells b6 [hd4.v] 42, vecN encN_Gfold_unit nest_Gfold_unit 46 5 hd4.v l4, cells jb1 [.int .i64 x1.At, .int .i64 x1.Width, .int .i32 x1.Rune, .bool x1.Broken] 55, cells b11 [.int .i64 x1.At, .int .u8 0, .int .i32 x1.Rune, .slice none 0 0, .slice none 0 0] 46, vec (encI (.i32)) 21 1 (.slice none 0 0) ([] : List Int)]
       refine TO.newVec (enc := (encI (.i32))) (e := 21) (size := 1) ?_
       show TO _ _ _ _ _ _ _ _ _ _ [cells b1 [.string s1] 9, cells b5 [.map (some b4)] 67, mapA (fun n : Int => Value.int .i32 n) (fun p : Gfold_pair => Value.agg #[.int .i32 p.e0, .int .i32 p.e1]) b4 r1.2, cells b6 [hd4.v] 42, vecN encN_Gfold_unit nest_Gfold_unit 46 5 hd4.v l4, cells jb1 [.int .i64 x1.At, .int .i64 x1.Width, .int .i32 x1.Rune, .bool x1.Broken] 55, cells b11 [.int .i64 x1.At, .int .u8 0, .int .i32 x1.Rune, .slice none 0 0, .slice none 0 0] 46, vec (encI (.i32)) 21 1 (.slice none 0 0) ([] : List Int), vec (encI (.i32)) 21 1 (.slice none 0 0) ([] : List Int)]
       obtain ⟨r5, hq9, h⟩ := andE h
       refine TO.callK (v := .bool r5) (vs := [.agg #[.int .i64 x1.At, .int .u8 0, .int .i32 x1.Rune, .slice none 0 0, .slice none 0 0]]) rfl dc rfl rfl rfl en_42 (fold_unit_letter_fn (u1 := (⟨x1.At, 0, x1.Rune, ([] : List Int), ([] : List Int)⟩ : Gfold_unit)) (u1_h0 := Hd.nil) (u1_h1 := Hd.nil) hq9) [7, 8] kr rfl (TO.nil (TX.next ?_))
       refine TC.condB rfl (fun hb5 => ?_) (fun hb5 => ?_)
       ·
        have h := condT hb5 h
        refine TC.seq (TC.region (TO.load (k := 1) sc_67 rfl dc rfl rfl rfl (TO.fieldAddr fl_55_2 rfl dc rfl (show _ = 2 from rfl) (TO.load (k := 5) sc_21 rfl dc rfl rfl rfl ?_))))
        obtain ⟨r6, hq10, h⟩ := andE h
        refine TO.call (vs := [.map (some b4), .int .i32 x1.Rune]) rfl dc rfl rfl rfl en_51 (fold_parted_fn hq10) (Splits.of [2] kr rfl) ?_
        rintro v2
        show TO _ _ _ _ _ _ _ _ _ _ [cells b1 [.string s1] 9, cells b5 [.map (some b4)] 67, emp, cells b6 [hd4.v] 42, vecN encN_Gfold_unit nest_Gfold_unit 46 5 hd4.v l4, cells jb1 [.int .i64 x1.At, .int .i64 x1.Width, .int .i32 x1.Rune, .bool x1.Broken] 55, cells b11 [.int .i64 x1.At, .int .u8 0, .int .i32 x1.Rune, .slice none 0 0, .slice none 0 0] 46, vec (encI (.i32)) 21 1 (.slice none 0 0) ([] : List Int), vec (encI (.i32)) 21 1 (.slice none 0 0) ([] : List Int), mapA (fun n : Int => Value.int .i32 n) (fun p : Gfold_pair => Value.agg #[.int .i32 p.e0, .int .i32 p.e1]) b4 r1.2, vec (encI (.i32)) 21 1 v2 r6]
        refine TO.weakenL (L' := [cells b1 [.string s1] 9, cells b5 [.map (some b4)] 67, mapA (fun n : Int => Value.int .i32 n) (fun p : Gfold_pair => Value.agg #[.int .i32 p.e0, .int .i32 p.e1]) b4 r1.2, cells b6 [hd4.v] 42, vecN encN_Gfold_unit nest_Gfold_unit 46 5 hd4.v l4, cells jb1 [.int .i64 x1.At, .int .i64 x1.Width, .int .i32 x1.Rune, .bool x1.Broken] 55, cells b11 [.int .i64 x1.At, .int .u8 0, .int .i32 x1.Rune, .slice none 0 0, .slice none 0 0] 46, vec (encI (.i32)) 21 1 (.slice none 0 0) ([] : List Int), vec (encI (.i32)) 21 1 (.slice none 0 0) ([] : List Int), vec (encI (.i32)) 21 1 v2 r6]) (Splits.of [0, 1, 9, 3, 4, 5, 6, 7, 8, 10] kr rfl) ?_
        refine TO.nameHd (k := 9) rfl (fun hd10 he2 => ?_)
        subst he2
        refine TO.assign rfl dc rfl (TO.nil (TX.next (TC.seq (TC.region (TO.move rfl dc rfl ?_)))))
        obtain ⟨q1, hq11, h⟩ := andE h
        refine TO.indexVecI (k := 9) hq11 Try.underlying44 sz_21 rfl dc rfl rfl rfl rfl (TO.loadVec (i := (0 : Int).toNat) (j := 0) (k := 9) (q := q1) sc_21 encI_len rfl dc rfl rfl (getO_get hq11) rfl dc rfl (TO.fieldAddr fl_46_2 rfl dc rfl (show _ = 2 from rfl) ?_))
        refine TO.store (k := 6) (l' := [.int .i64 x1.At, .int .u8 0, .int .i32 q1, .slice none 0 0, .slice none 0 0]) sz_21 rfl rfl rfl rfl rfl (fun _ _ => rfl) rfl ?_
        refine TO.nil (TX.next (TC.seq (TC.region (TO.move rfl dc rfl ?_))))
        refine TO.vecVw (k := 9) rfl (fun hw1 => ?_)
        obtain ⟨hg5, h⟩ := grdE h
        obtain ⟨v3, hv1, hs1⟩ := slice_Vw (lo := some (.int .i64 1)) (hi := none) hw1 Try.underlying44 sz_21 (.inr rfl) (.inl ⟨rfl, rfl⟩) hg5
        refine TO.slice rfl dc rfl rfl rfl hs1 (TO.lenVw hv1 rfl dc rfl Try.underlying44 (TO.move rfl dc rfl (TO.nil (TX.next (TC.block (TC.newVec (enc := (encI (.i32))) (e := 21) (size := 1) ?_))))))
        show TC _ _ _ _ _ _ _ _ _ [cells b1 [.string s1] 9, cells b5 [.map (some b4)] 67, mapA (fun n : Int => Value.int .i32 n) (fun p : Gfold_pair => Value.agg #[.int .i32 p.e0, .int .i32 p.e1]) b4 r1.2, cells b6 [hd4.v] 42, vecN encN_Gfold_unit nest_Gfold_unit 46 5 hd4.v l4, cells jb1 [.int .i64 x1.At, .int .i64 x1.Width, .int .i32 x1.Rune, .bool x1.Broken] 55, cells b11 [.int .i64 x1.At, .int .u8 0, .int .i32 q1, .slice none 0 0, .slice none 0 0] 46, vec (encI (.i32)) 21 1 (.slice none 0 0) ([] : List Int), vec (encI (.i32)) 21 1 (.slice none 0 0) ([] : List Int), vec (encI (.i32)) 21 1 hd10.v r6, vec (encI (.i32)) 21 1 (.slice none 0 0) ([] : List Int)]
        refine TC.newVec (enc := (encI (.i32))) (e := 21) (size := 1) ?_
        show TC _ _ _ _ _ _ _ _ _ [cells b1 [.string s1] 9, cells b5 [.map (some b4)] 67, mapA (fun n : Int => Value.int .i32 n) (fun p : Gfold_pair => Value.agg #[.int .i32 p.e0, .int .i32 p.e1]) b4 r1.2, cells b6 [hd4.v] 42, vecN encN_Gfold_unit nest_Gfold_unit 46 5 hd4.v l4, cells jb1 [.int .i64 x1.At, .int .i64 x1.Width, .int .i32 x1.Rune, .bool x1.Broken] 55, cells b11 [.int .i64 x1.At, .int .u8 0, .int .i32 q1, (.slice none 0 0), .slice none 0 0] 46, vec (encI (.i32)) 21 1 (.slice none 0 0) ([] : List Int), vec (encI (.i32)) 21 1 (.slice none 0 0) ([] : List Int), vec (encI (.i32)) 21 1 hd10.v r6, vec (encI (.i32)) 21 1 (.slice none 0 0) ([] : List Int), vec (encI (.i32)) 21 1 (.slice none 0 0) ([] : List Int)]
        refine TC.loopD (β := Nat × Int × Int × Int × (List Int) × (List Int) × Int × Hd × Hd) (fun b => loopG (fun _ _ _ _ _ _ => none) (fold_units_s2 j3 r6) b.1 b.2.1 b.2.2.1 b.2.2.2.1 b.2.2.2.2.1 b.2.2.2.2.2.1 b.2.2.2.2.2.2.1 = some r) (fun b => []) (fun b => [(1, .pointer (some ⟨b1, 0, none⟩)), (2, .slice none 0 0), (4, .pointer (some ⟨b5, 0, none⟩)), (5, .pointer (some ⟨b6, 0, none⟩)), (8, .pointer (some ⟨b11, 0, none⟩)), (17, .func (.func 73) #[] #[.pointer (some ⟨b7, 0, none⟩)]), (72, v3), (73, .int .i64 ((cutL r6 1 (r6.length : Int)).length : Int)), (74, .int .i64 b.2.2.2.2.2.2.1)]) (fun b => [cells b1 [.string s1] 9, cells b5 [.map (some b4)] 67, mapA (fun n : Int => Value.int .i32 n) (fun p : Gfold_pair => Value.agg #[.int .i32 p.e0, .int .i32 p.e1]) b4 r1.2, cells b6 [hd4.v] 42, vecN encN_Gfold_unit nest_Gfold_unit 46 5 hd4.v l4, cells b11 [.int .i64 b.2.1, .int .u8 b.2.2.1, .int .i32 b.2.2.2.1, b.2.2.2.2.2.2.2.1.v, b.2.2.2.2.2.2.2.2.v] 46, vec (encI (.i32)) 21 1 b.2.2.2.2.2.2.2.1.v b.2.2.2.2.1, vec (encI (.i32)) 21 1 b.2.2.2.2.2.2.2.2.v b.2.2.2.2.2.1, vec (encI (.i32)) 21 1 hd10.v r6]) (fun b => b.1) (fuel, x1.At, 0, q1, ([] : List Int), ([] : List Int), 0, Hd.nil, Hd.nil) h rfl (Sbs.cons rfl (Sbs.cons rfl (Sbs.cons rfl (Sbs.cons rfl (Sbs.cons rfl (Sbs.cons rfl (Sbs.cons rfl (Sbs.cons rfl (Sbs.cons rfl (Sbs.nil)))))))))) (Splits.of [0, 1, 2, 3, 4, 6, 10, 11, 9] kr rfl) ?_
        rintro ⟨n1, u23, u24, u25, u26, u27, x6, hd16, hd17⟩ h
        cases n1 with
        | zero => exact noneE h
        | succ n1 =>
         obtain ⟨ag2, hag2⟩ : ∃ ag, ag = loopG (fun _ _ _ _ _ _ => none) (fold_units_s2 j3 r6) n1 := ⟨_, rfl⟩
         have h : fold_units_s2 j3 r6 ag2 u23 u24 u25 u26 u27 x6 = some r := by rw [hag2]; exact h
         unfold fold_units_s2 at h
         show TC _ _ _ _ _ ([]) _ _ [(1, .pointer (some ⟨b1, 0, none⟩)), (2, .slice none 0 0), (4, .pointer (some ⟨b5, 0, none⟩)), (5, .pointer (some ⟨b6, 0, none⟩)), (8, .pointer (some ⟨b11, 0, none⟩)), (17, .func (.func 73) #[] #[.pointer (some ⟨b7, 0, none⟩)]), (72, v3), (73, .int .i64 ((cutL r6 1 (r6.length : Int)).length : Int)), (74, .int .i64 x6)] [cells b1 [.string s1] 9, cells b5 [.map (some b4)] 67, mapA (fun n : Int => Value.int .i32 n) (fun p : Gfold_pair => Value.agg #[.int .i32 p.e0, .int .i32 p.e1]) b4 r1.2, cells b6 [hd4.v] 42, vecN encN_Gfold_unit nest_Gfold_unit 46 5 hd4.v l4, cells b11 [.int .i64 u23, .int .u8 u24, .int .i32 u25, hd16.v, hd17.v] 46, vec (encI (.i32)) 21 1 hd16.v u26, vec (encI (.i32)) 21 1 hd17.v u27, vec (encI (.i32)) 21 1 hd10.v r6]
         refine TC.seq (TC.region (TO.bin rfl dc rfl rfl bin_lss (TO.nil (TX.next (TC.seq ?_)))))
         refine TC.condB rfl (fun hb6 => ?_) (fun hb6 => ?_)
         ·
          have h := condT hb6 h
          refine TC.skip (TX.next (TC.seq (TC.block (TC.seq (TC.region ?_)))))
          obtain ⟨q2, hq12, h⟩ := andE h
          refine TO.indexVw hv1 hq12 Try.underlying44 sz_21 rfl dc rfl rfl rfl (TO.loadVec (i := 0 + (1 : Int).toNat + (x6 : Int).toNat) (j := 0) (k := 8) (q := q2) sc_21 encI_len rfl dc rfl rfl (Vw.get hv1 hq12) rfl dc rfl (TO.assign rfl dc rfl (TO.nil (TX.next (TC.region (TO.move rfl dc rfl (TO.toVec (enc := encN_Gfold_unit) [((⟨u23, u24, u25, u26, u27⟩ : Gfold_unit), (hd16, hd17))] (k := 5) rfl encN_Gfold_unit_len rfl (show 1 ≤ maxLen by decide) ?_)))))))
          show TO _ _ _ _ _ _ _ _ _ _ [cells b1 [.string s1] 9, cells b5 [.map (some b4)] 67, mapA (fun n : Int => Value.int .i32 n) (fun p : Gfold_pair => Value.agg #[.int .i32 p.e0, .int .i32 p.e1]) b4 r1.2, cells b6 [hd4.v] 42, vecN encN_Gfold_unit nest_Gfold_unit 46 5 hd4.v l4, vec encN_Gfold_unit 46 5 (.slice (some ⟨b11, 0, none⟩) 1 1) [((⟨u23, u24, u25, u26, u27⟩ : Gfold_unit), (hd16, hd17))], vec (encI (.i32)) 21 1 hd16.v u26, vec (encI (.i32)) 21 1 hd17.v u27, vec (encI (.i32)) 21 1 hd10.v r6]
          obtain ⟨r7, hq13, h⟩ := andE h
          refine TO.call (vs := [.pointer (some ⟨b11, 0, none⟩), .int .i32 q2]) rfl dc rfl rfl rfl en_50 (fold_unit_mark_fn (vu1 := (.slice (some ⟨b11, 0, none⟩) 1 1)) (u1 := (⟨u23, u24, u25, u26, u27⟩ : Gfold_unit)) (u1_h0 := hd16) (u1_h1 := hd17) (show [((⟨u23, u24, u25, u26, u27⟩ : Gfold_unit), (hd16, hd17))][0]? = some ((⟨u23, u24, u25, u26, u27⟩ : Gfold_unit), (hd16, hd17)) from rfl) hq13) (Splits.of [5, 6, 7] kr rfl) ?_
          rintro ⟨hd18, hd19⟩
          show TO _ _ _ _ _ _ _ _ _ _ [cells b1 [.string s1] 9, cells b5 [.map (some b4)] 67, mapA (fun n : Int => Value.int .i32 n) (fun p : Gfold_pair => Value.agg #[.int .i32 p.e0, .int .i32 p.e1]) b4 r1.2, cells b6 [hd4.v] 42, vecN encN_Gfold_unit nest_Gfold_unit 46 5 hd4.v l4, emp, emp, emp, vec (encI (.i32)) 21 1 hd10.v r6, vec encN_Gfold_unit 46 5 (.slice (some ⟨b11, 0, none⟩) 1 1) [(r7, (hd18, hd19))], vec (encI (.i32)) 21 1 hd18.v r7.low, vec (encI (.i32)) 21 1 hd19.v r7.high]
          refine TO.weakenL (L' := [cells b1 [.string s1] 9, cells b5 [.map (some b4)] 67, mapA (fun n : Int => Value.int .i32 n) (fun p : Gfold_pair => Value.agg #[.int .i32 p.e0, .int .i32 p.e1]) b4 r1.2, cells b6 [hd4.v] 42, vecN encN_Gfold_unit nest_Gfold_unit 46 5 hd4.v l4, vec encN_Gfold_unit 46 5 (.slice (some ⟨b11, 0, none⟩) 1 1) [(r7, (hd18, hd19))], emp, emp, vec (encI (.i32)) 21 1 hd10.v r6, vec (encI (.i32)) 21 1 hd18.v r7.low, vec (encI (.i32)) 21 1 hd19.v r7.high]) (Splits.of [0, 1, 2, 3, 4, 9, 6, 7, 8, 10, 11] kr rfl) ?_
          refine TO.ent (k := 5) rfl (boxE encN_Gfold_unit_len) ?_
          show TO _ _ _ _ _ _ _ _ _ _ [cells b1 [.string s1] 9, cells b5 [.map (some b4)] 67, mapA (fun n : Int => Value.int .i32 n) (fun p : Gfold_pair => Value.agg #[.int .i32 p.e0, .int .i32 p.e1]) b4 r1.2, cells b6 [hd4.v] 42, vecN encN_Gfold_unit nest_Gfold_unit 46 5 hd4.v l4, cells b11 [.int .i64 r7.at_, .int .u8 r7.broken, .int .i32 r7.base, hd18.v, hd19.v] 46, emp, emp, vec (encI (.i32)) 21 1 hd10.v r6, vec (encI (.i32)) 21 1 hd18.v r7.low, vec (encI (.i32)) 21 1 hd19.v r7.high]
          refine TO.nil (TX.blockNormal (TX.next (TC.region ?_)))
          obtain ⟨hg6, h⟩ := grdE h
          refine TO.bin rfl dc rfl rfl (bin_add (r := x6 + 1) (IntWalk.i64_in _ hg6)) (TO.move rfl dc rfl (TO.nil ?_))
          subst hag2
          exact TX.againD (n1, r7.at_, r7.broken, r7.base, r7.low, r7.high, x6 + 1, hd18, hd19) h (Nat.lt_succ_self _) rfl (Sbs.cons rfl (Sbs.cons rfl (Sbs.cons rfl (Sbs.cons rfl (Sbs.cons rfl (Sbs.cons rfl (Sbs.cons rfl (Sbs.cons rfl (Sbs.cons rfl (Sbs.nil)))))))))) (Splits.of [0, 1, 2, 3, 4, 5, 9, 10, 8] kr rfl)
         ·
          have h := condF hb6 h
          refine TC.exit (TX.thenExit (TX.thenExit (TX.blockHere ?_)))
          exact TX.meetD (u23, u24, u25, u26, u27, b11, hd16, hd17) h rfl (Sbs.cons rfl (Sbs.cons rfl (Sbs.cons rfl (Sbs.cons rfl (Sbs.cons rfl (Sbs.cons rfl (Sbs.nil))))))) (Splits.of [0, 1, 2, 3, 4, 5, 6, 7] kr rfl)
       ·
        have h := condF hb5 h
        refine TC.skip (TX.newVec (enc := (encI (.i32))) (e := 21) (size := 1) ?_)
        show TX _ _ _ _ _ _ _ [cells b1 [.string s1] 9, cells b5 [.map (some b4)] 67, mapA (fun n : Int => Value.int .i32 n) (fun p : Gfold_pair => Value.agg #[.int .i32 p.e0, .int .i32 p.e1]) b4 r1.2, cells b6 [hd4.v] 42, vecN encN_Gfold_unit nest_Gfold_unit 46 5 hd4.v l4, cells jb1 [.int .i64 x1.At, .int .i64 x1.Width, .int .i32 x1.Rune, .bool x1.Broken] 55, cells b11 [.int .i64 x1.At, .int .u8 0, .int .i32 x1.Rune, .slice none 0 0, .slice none 0 0] 46, vec (encI (.i32)) 21 1 (.slice none 0 0) ([] : List Int), vec (encI (.i32)) 21 1 (.slice none 0 0) ([] : List Int), vec (encI (.i32)) 21 1 (.slice none 0 0) ([] : List Int)]
        refine TX.newVec (enc := (encI (.i32))) (e := 21) (size := 1) ?_
        show TX _ _ _ _ _ _ _ [cells b1 [.string s1] 9, cells b5 [.map (some b4)] 67, mapA (fun n : Int => Value.int .i32 n) (fun p : Gfold_pair => Value.agg #[.int .i32 p.e0, .int .i32 p.e1]) b4 r1.2, cells b6 [hd4.v] 42, vecN encN_Gfold_unit nest_Gfold_unit 46 5 hd4.v l4, cells jb1 [.int .i64 x1.At, .int .i64 x1.Width, .int .i32 x1.Rune, .bool x1.Broken] 55, cells b11 [.int .i64 x1.At, .int .u8 0, .int .i32 x1.Rune, (.slice none 0 0), .slice none 0 0] 46, vec (encI (.i32)) 21 1 (.slice none 0 0) ([] : List Int), vec (encI (.i32)) 21 1 (.slice none 0 0) ([] : List Int), vec (encI (.i32)) 21 1 (.slice none 0 0) ([] : List Int), vec (encI (.i32)) 21 1 (.slice none 0 0) ([] : List Int)]
        exact TX.meetD (x1.At, 0, x1.Rune, ([] : List Int), ([] : List Int), b11, Hd.nil, Hd.nil) h rfl (Sbs.cons rfl (Sbs.cons rfl (Sbs.cons rfl (Sbs.cons rfl (Sbs.cons rfl (Sbs.cons rfl (Sbs.nil))))))) (Splits.of [0, 1, 2, 3, 4, 6, 9, 10] kr rfl)
      ·
       rintro ⟨u1, u2, u3, u4, u5, b10, hd8, hd9⟩ h
       rw [hj3] at h
       show TC _ _ _ _ _ ([]) _ _ [(1, .pointer (some ⟨b1, 0, none⟩)), (2, .slice none 0 0), (4, .pointer (some ⟨b5, 0, none⟩)), (5, .pointer (some ⟨b6, 0, none⟩)), (8, .pointer (some ⟨b10, 0, none⟩)), (17, .func (.func 73) #[] #[.pointer (some ⟨b7, 0, none⟩)])] [cells b1 [.string s1] 9, cells b5 [.map (some b4)] 67, mapA (fun n : Int => Value.int .i32 n) (fun p : Gfold_pair => Value.agg #[.int .i32 p.e0, .int .i32 p.e1]) b4 r1.2, cells b6 [hd4.v] 42, vecN encN_Gfold_unit nest_Gfold_unit 46 5 hd4.v l4, cells b10 [.int .i64 u1, .int .u8 u2, .int .i32 u3, hd8.v, hd9.v] 46, vec (encI (.i32)) 21 1 hd8.v u4, vec (encI (.i32)) 21 1 hd9.v u5]
       refine TC.region (TO.load (k := 3) sc_42 rfl dc rfl rfl rfl (TO.loads (k := 5) (cs := [.int .i64 u1, .int .u8 u2, .int .i32 u3, hd8.v, hd9.v]) rw_46 rfl dc rfl rfl rfl rfl ?_))
       refine TO.buildSlice (cs := [.int .i64 u1, .int .u8 u2, .int .i32 u3, hd8.v, hd9.v]) (te := 46) (ps := [(0, .tmp 82)]) rfl dc rfl (fun _ => by kernel_rfl) (fun b12 => ?_)
       refine TO.unfold1 (k := 4) rfl openE (fun zs3 hz3 => ?_)
       show TO _ _ _ _ _ _ _ _ _ _ [cells b1 [.string s1] 9, cells b5 [.map (some b4)] 67, mapA (fun n : Int => Value.int .i32 n) (fun p : Gfold_pair => Value.agg #[.int .i32 p.e0, .int .i32 p.e1]) b4 r1.2, cells b6 [hd4.v] 42, vec encN_Gfold_unit 46 5 hd4.v zs3, cells b10 [.int .i64 u1, .int .u8 u2, .int .i32 u3, hd8.v, hd9.v] 46, vec (encI (.i32)) 21 1 hd8.v u4, vec (encI (.i32)) 21 1 hd9.v u5, cells b12 [.int .i64 u1, .int .u8 u2, .int .i32 u3, hd8.v, hd9.v] 46, own nest_Gfold_unit zs3]
       obtain ⟨hg7, h⟩ := grdE h
       refine TO.appendVec (k := 4) (k2 := 8) (ys := [((⟨u1, u2, u3, u4, u5⟩ : Gfold_unit), (hd8, hd9))]) Try.underlying42 el_46 encN_Gfold_unit_len encN_Gfold_unit_one rfl dc rfl rfl rfl rfl rfl rfl (by rw [zlen hz3]; exact hg7) (fun v4 => ?_)
       show TO _ _ _ _ _ _ _ _ _ _ [cells b1 [.string s1] 9, cells b5 [.map (some b4)] 67, mapA (fun n : Int => Value.int .i32 n) (fun p : Gfold_pair => Value.agg #[.int .i32 p.e0, .int .i32 p.e1]) b4 r1.2, cells b6 [hd4.v] 42, vec encN_Gfold_unit 46 5 v4 (zs3 ++ [((⟨u1, u2, u3, u4, u5⟩ : Gfold_unit), (hd8, hd9))]), cells b10 [.int .i64 u1, .int .u8 u2, .int .i32 u3, hd8.v, hd9.v] 46, vec (encI (.i32)) 21 1 hd8.v u4, vec (encI (.i32)) 21 1 hd9.v u5, cells b12 [.int .i64 u1, .int .u8 u2, .int .i32 u3, hd8.v, hd9.v] 46, own nest_Gfold_unit zs3]
       refine TO.nameHd (k := 4) rfl (fun hd20 he3 => ?_)
       subst he3
       refine TO.fold1 (k := 9) rfl (Splits.of [6, 7] kr rfl) rfl (ownApp (nest := nest_Gfold_unit) (zs := zs3) (z := ((⟨u1, u2, u3, u4, u5⟩ : Gfold_unit), (hd8, hd9)))) ?_
       show TO _ _ _ _ _ _ _ _ _ _ [cells b1 [.string s1] 9, cells b5 [.map (some b4)] 67, mapA (fun n : Int => Value.int .i32 n) (fun p : Gfold_pair => Value.agg #[.int .i32 p.e0, .int .i32 p.e1]) b4 r1.2, cells b6 [hd4.v] 42, vec encN_Gfold_unit 46 5 hd20.v (zs3 ++ [((⟨u1, u2, u3, u4, u5⟩ : Gfold_unit), (hd8, hd9))]), cells b10 [.int .i64 u1, .int .u8 u2, .int .i32 u3, hd8.v, hd9.v] 46, emp, emp, cells b12 [.int .i64 u1, .int .u8 u2, .int .i32 u3, hd8.v, hd9.v] 46, own nest_Gfold_unit (zs3 ++ [((⟨u1, u2, u3, u4, u5⟩ : Gfold_unit), (hd8, hd9))])]
       refine TO.fold1 (k := 4) rfl (Splits.of [9] kr rfl) rfl (closeE (enc := encN_Gfold_unit) (nest := nest_Gfold_unit) (zapp hz3)) ?_
       show TO _ _ _ _ _ _ _ _ _ _ [cells b1 [.string s1] 9, cells b5 [.map (some b4)] 67, mapA (fun n : Int => Value.int .i32 n) (fun p : Gfold_pair => Value.agg #[.int .i32 p.e0, .int .i32 p.e1]) b4 r1.2, cells b6 [hd4.v] 42, vecN encN_Gfold_unit nest_Gfold_unit 46 5 hd20.v (l4 ++ [(⟨u1, u2, u3, u4, u5⟩ : Gfold_unit)]), cells b10 [.int .i64 u1, .int .u8 u2, .int .i32 u3, hd8.v, hd9.v] 46, emp, emp, cells b12 [.int .i64 u1, .int .u8 u2, .int .i32 u3, hd8.v, hd9.v] 46, emp]
       refine TO.weakenL (L' := [cells b1 [.string s1] 9, cells b5 [.map (some b4)] 67, mapA (fun n : Int => Value.int .i32 n) (fun p : Gfold_pair => Value.agg #[.int .i32 p.e0, .int .i32 p.e1]) b4 r1.2, cells b6 [hd4.v] 42, vecN encN_Gfold_unit nest_Gfold_unit 46 5 hd20.v (l4 ++ [(⟨u1, u2, u3, u4, u5⟩ : Gfold_unit)]), cells b10 [.int .i64 u1, .int .u8 u2, .int .i32 u3, hd8.v, hd9.v] 46, emp, emp, cells b12 [.int .i64 u1, .int .u8 u2, .int .i32 u3, hd8.v, hd9.v] 46]) (Splits.of [0, 1, 2, 3, 4, 5, 6, 7, 8] kr rfl) ?_
       refine TO.store (k := 3) (l' := [hd20.v]) sz_42 rfl rfl rfl rfl rfl (fun _ _ => rfl) rfl ?_
       show TO _ _ _ _ _ _ _ _ _ _ [cells b1 [.string s1] 9, cells b5 [.map (some b4)] 67, mapA (fun n : Int => Value.int .i32 n) (fun p : Gfold_pair => Value.agg #[.int .i32 p.e0, .int .i32 p.e1]) b4 r1.2, cells b6 [hd20.v] 42, vecN encN_Gfold_unit nest_Gfold_unit 46 5 hd20.v (l4 ++ [(⟨u1, u2, u3, u4, u5⟩ : Gfold_unit)]), cells b10 [.int .i64 u1, .int .u8 u2, .int .i32 u3, hd8.v, hd9.v] 46, emp, emp, cells b12 [.int .i64 u1, .int .u8 u2, .int .i32 u3, hd8.v, hd9.v] 46]
       refine TO.nil (TX.blockNormal ?_)
       exact TX.round (l4 ++ [(⟨u1, u2, u3, u4, u5⟩ : Gfold_unit)], hd20) (fun post2 e2 => by have e9 := snoc_post hxs1 e2; subst e9; subst hag1; exact h) (Splits.of [0, 1, 2, 3, 4] kr rfl)
   ·
    rintro dm1 ⟨l4, hd4⟩ hinv
    have h : d1 l4 = some r := hinv [] (List.append_nil _).symm
    rw [hd1] at h
    show TX _ _ _ _ _ _ _ [star ((([] : List Nat) : List Nat).map mark), emp, mapA (fun p : Gfold_pair => Value.agg #[.int .i32 p.e0, .int .i32 p.e1]) (fun n : Int => Value.int .i32 n) b3 r1.1, emp, emp, emp, cells b7 [.string r2] 9, emp, cells b1 [.string s1] 9, cells b5 [.map (some b4)] 67, mapA (fun n : Int => Value.int .i32 n) (fun p : Gfold_pair => Value.agg #[.int .i32 p.e0, .int .i32 p.e1]) b4 r1.2, cells b6 [hd4.v] 42, vecN encN_Gfold_unit nest_Gfold_unit 46 5 hd4.v l4, mark dm1]
    refine TX.starCons (k := 13) (j := 0) rfl rfl dc ?_
    show TX _ _ _ _ _ _ _ [star ((dm1 :: ([] : List Nat) : List Nat).map mark), emp, mapA (fun p : Gfold_pair => Value.agg #[.int .i32 p.e0, .int .i32 p.e1]) (fun n : Int => Value.int .i32 n) b3 r1.1, emp, emp, emp, cells b7 [.string r2] 9, emp, cells b1 [.string s1] 9, cells b5 [.map (some b4)] 67, mapA (fun n : Int => Value.int .i32 n) (fun p : Gfold_pair => Value.agg #[.int .i32 p.e0, .int .i32 p.e1]) b4 r1.2, cells b6 [hd4.v] 42, vecN encN_Gfold_unit nest_Gfold_unit 46 5 hd4.v l4, emp]
    refine TX.blockNormal ?_
    exact TX.meetD (l4, b6, hd4, dm1 :: ([] : List Nat)) h rfl (Sbs.cons rfl (Sbs.nil)) (Splits.of [11, 12, 0] kr rfl)
   ·
    rintro dm1 c pre x1 post g hxs hX
    exact (show False from hX).elim
  ·
   rintro ⟨l1, b2, hd1, ds1⟩ h
   rw [hj1] at h
   show TC _ _ _ _ _ (marksOf ds1) _ _ [(5, .pointer (some ⟨b2, 0, none⟩))] [cells b2 [hd1.v] 42, vecN encN_Gfold_unit nest_Gfold_unit 46 5 hd1.v l1, star ((ds1 : List Nat).map mark)]
   refine TC.seq (TC.region (TO.load (k := 0) sc_42 rfl dc rfl rfl rfl (TO.assign rfl dc rfl (TO.nil (TX.next (TC.ret (TX.jumpOn (by simp) ?_)))))))
   cases h
   exact TX.finM (rs := [.tmp 2]) ds1 hd1.v (.inl rfl) (Splits.open0 (k := 2) rfl) Try.results24 (.cons (.tmp rfl) .nil) rfl (Splits.of [1] kr rfl)
 ·
  exact fun b hb => hb.elim
end Go.Proofs.Ytlamcpgnmeileaa
namespace Go.Proofs.Ytlamcpgnmeileaa
open Go.RowKit Go.Lib
set_option linter.unusedVariables false
set_option linter.unusedSimpArgs false
def byte0 (b : ByteArray) : Int := ((b.data.toList.headD 0).toNat : Int)
def toU (c : Itm × List Itm) : Gfold_unit := if c.1.Rune < 0 then ⟨c.1.At, byte0 c.1.Text, -1, [], []⟩ else ⟨c.1.At, 0, c.1.Rune, (loI c.2).map (·.Rune), (hiI c.2).map (·.Rune)⟩
def markU (u : Gfold_unit) (r : Int) : Gfold_unit := if lowR r then ⟨u.at_, u.broken, u.base, u.low ++ [r], u.high⟩ else ⟨u.at_, u.broken, u.base, u.low, u.high ++ [r]⟩
theorem mark_v (u : Gfold_unit) (r : Int) (h1 : u.low.length ≤ 2000000000) (h2 : u.high.length ≤ 2000000000) : fold_unit_mark_v u r = some (markU u r) := by
  unfold fold_unit_mark_v
  refine thenI (low_v r) ?_
  unfold markU
  cases lowR r with
  | true => exact condTI rfl (grdI (by omega) rfl)
  | false => exact condFI rfl (grdI (by omega) rfl)
theorem mark_toU (x : Itm) (hx : 0 ≤ x.Rune) (ms : List Itm) (y : Itm) : markU (toU (x, ms)) y.Rune = toU (x, ms ++ [y]) := by
  unfold markU toU loI hiI
  simp only [if_neg (show ¬ x.Rune < 0 by omega), List.filter_append]
  show (if isLo y then _ else _) = _
  cases h : isLo y <;> simp [h]
/-- The parts' marks, laid by package fold. -/
theorem marks_loop (u : Gfold_unit) (ms : List Int) (r6 : List Int) (b : Int) (hr : r6 = b :: ms) (hl : u.low.length + u.high.length + ms.length ≤ 1000000000) (J : Int → Int → Int → (List Int) → (List Int) → Option (List Gfold_unit)) :
    loopG (fun _ _ _ _ _ _ => none) (fold_units_s2 J r6) fuel u.at_ u.broken u.base u.low u.high 0 = J (ms.foldl markU u).at_ (ms.foldl markU u).broken (ms.foldl markU u).base (ms.foldl markU u).low (ms.foldl markU u).high := by
  have hc : cutL r6 1 (r6.length : Int) = ms := by
    subst hr; unfold cutL; simp
  have key : ∀ (n k : Nat) (u : Gfold_unit), k ≤ ms.length → ms.length - k < n → u.low.length + u.high.length + (ms.length - k) ≤ 1000000000 →
      loopG (fun _ _ _ _ _ _ => none) (fold_units_s2 J r6) n u.at_ u.broken u.base u.low u.high (k : Int) = J ((ms.drop k).foldl markU u).at_ ((ms.drop k).foldl markU u).broken ((ms.drop k).foldl markU u).base ((ms.drop k).foldl markU u).low ((ms.drop k).foldl markU u).high := by
    intro n
    induction n with
    | zero => intro k u _ h; omega
    | succ n ih =>
      intro k u hk hn hb
      rw [loopI]
      generalize loopG (fun _ _ _ _ _ _ => none) (fold_units_s2 J r6) n = ag at ih ⊢
      unfold fold_units_s2
      rw [hc]
      by_cases h : k < ms.length
      · have hx : ms[k]? = some ms[k] := List.getElem?_eq_getElem h
        refine condTI (lp_lt hx) (thenI (lp_get hx) (thenI (mark_v u _ (by omega) (by omega)) (grdI (lp_i64 (by omega)) ?_)))
        have hm : (markU u ms[k]).low.length + (markU u ms[k]).high.length = u.low.length + u.high.length + 1 := by
          unfold markU; split <;> simp <;> omega
        have := ih (k + 1) (markU u ms[k]) (by omega) (by omega) (by omega)
        push_cast at this
        rw [this, List.drop_eq_getElem_cons h]; rfl
      · have : k = ms.length := by omega
        subst this
        exact condFI lp_ge (by rw [List.drop_length]; rfl)
  have := key fuel 0 u (Nat.zero_le _) (by have := big_fuel (n := ms.length) (by omega); omega) (by omega)
  simpa using this
/-- One piece more. -/
def addU (s : ByteArray) (l : List Gfold_unit) (p : Gapi_Piece) : List Gfold_unit :=
  if p.Broken then l ++ [⟨p.At, (getB s p.At).getD 0, -1, [], []⟩]
  else match l.getLast? with
    | some u => if letter u.base && mrk p.Rune then l.set (l.length - 1) (markU u p.Rune) else l ++ [if letter p.Rune then (parts p.Rune).tail.foldl markU ⟨p.At, 0, (parts p.Rune).headD 0, [], []⟩ else ⟨p.At, 0, p.Rune, [], []⟩]
    | none => l ++ [if letter p.Rune then (parts p.Rune).tail.foldl markU ⟨p.At, 0, (parts p.Rune).headD 0, [], []⟩ else ⟨p.At, 0, p.Rune, [], []⟩]
def bigU (k : Nat) (l : List Gfold_unit) : Prop := l.length ≤ k ∧ ∀ u ∈ l, u.low.length + u.high.length ≤ 3 * k ∧ I32 u.base
theorem markU_len (u : Gfold_unit) (r : Int) : (markU u r).low.length + (markU u r).high.length = u.low.length + u.high.length + 1 ∧ (markU u r).base = u.base := by
  unfold markU; split <;> simp <;> omega
theorem marksU_len (ms : List Int) : ∀ u : Gfold_unit, (ms.foldl markU u).low.length + (ms.foldl markU u).high.length = u.low.length + u.high.length + ms.length ∧ (ms.foldl markU u).base = u.base := by
  induction ms with
  | nil => intro u; simp
  | cons m ms ih => intro u; have := ih (markU u m); have h2 := markU_len u m; rw [List.foldl_cons]; simp only [List.length_cons]; constructor; omega; rw [this.2, h2.2]
theorem newU_ok (p : Gapi_Piece) (hp : I32 p.Rune) (k : Nat) : ((if letter p.Rune then (parts p.Rune).tail.foldl markU ⟨p.At, 0, (parts p.Rune).headD 0, [], []⟩ else ⟨p.At, 0, p.Rune, [], []⟩ : Gfold_unit).low.length + (if letter p.Rune then (parts p.Rune).tail.foldl markU ⟨p.At, 0, (parts p.Rune).headD 0, [], []⟩ else ⟨p.At, 0, p.Rune, [], []⟩ : Gfold_unit).high.length ≤ 3 * (k + 1)) ∧ I32 (if letter p.Rune then (parts p.Rune).tail.foldl markU ⟨p.At, 0, (parts p.Rune).headD 0, [], []⟩ else ⟨p.At, 0, p.Rune, [], []⟩ : Gfold_unit).base := by
  cases h : letter p.Rune with
  | false => simp only [Bool.false_eq_true, if_false]; exact ⟨by simp, hp⟩
  | true =>
    simp only [if_true]
    have h1 := marksU_len (parts p.Rune).tail ⟨p.At, 0, (parts p.Rune).headD 0, [], []⟩
    have h2 := parts_len p.Rune
    have h3 : (parts p.Rune).tail.length ≤ 2 := by rw [List.length_tail]; omega
    refine ⟨by rw [h1.1]; simp; omega, ?_⟩
    rw [h1.2]
    have h4 := parts_i32 hp
    cases hq : parts p.Rune with
    | nil => rw [hq] at h2; simp at h2
    | cons b ms => exact h4 b (by rw [hq]; exact List.mem_cons_self ..)
theorem addU_big (s : ByteArray) (k : Nat) (p : Gapi_Piece) (l : List Gfold_unit) (hp : I32 p.Rune) (h : bigU k l) : bigU (k + 1) (addU s l p) := by
  obtain ⟨h1, h2⟩ := h
  have app : ∀ u : Gfold_unit, (u.low.length + u.high.length ≤ 3 * (k + 1) ∧ I32 u.base) → bigU (k + 1) (l ++ [u]) := fun u hu => ⟨by simp; omega, fun v hv => by
    rcases List.mem_append.1 hv with hv | hv
    · have := h2 v hv; exact ⟨by omega, this.2⟩
    · simp at hv; subst hv; exact hu⟩
  unfold addU
  split
  · exact app _ ⟨by simp, (show I32 (-1) from ⟨by omega, by omega⟩)⟩
  · split
    · rename_i u hu
      split
      · have hm := List.mem_of_getLast? hu
        refine ⟨by simp; omega, fun v hv => ?_⟩
        rcases List.mem_or_eq_of_mem_set hv with hv | rfl
        · have := h2 v hv; exact ⟨by omega, this.2⟩
        · have := h2 u hm; have h3 := markU_len u p.Rune; exact ⟨by omega, by rw [h3.2]; exact this.2⟩
      · exact app _ (newU_ok p hp k)
    · exact app _ (newU_ok p hp k)
theorem units_fold (s : ByteArray) (hs : s.size ≤ 65536) : fold_units_v s = some (((pcs s.data.toList).map pcG).foldl (addU s) []) := by
  unfold fold_units_v
  refine joinI (thenI tables_v (thenI (a := s) rfl (thenI (piecesI s (by omega)) (joinI ?_))))
  have hc := pcs_count_le s
  have hr : ∀ p ∈ (pcs s.data.toList).map pcG, I32 p.Rune ∧ (p.Broken = true → getB s p.At = some ((getB s p.At).getD 0)) := by
    intro p hp
    obtain ⟨q, hq, rfl⟩ := List.mem_map.1 hp
    obtain ⟨g1, g2, hok⟩ := pcs_pos s.data.toList q hq
    have hv := hok.valid
    have hlen : s.data.toList.length = s.size := by rw [Array.length_toList]; rfl
    refine ⟨⟨by simp only [pcG]; omega, by simp only [pcG]; omega⟩, fun _ => ?_⟩
    have hw := hok.pos
    rw [show (pcG q).At = (q.i : Int) from rfl, getB_of (n := q.i) rfl (by omega)]; rfl
  have key : ∀ (ps : List Gapi_Piece) (k : Nat) (l : List Gfold_unit), bigU k l → k + ps.length ≤ 65536 → (∀ p ∈ ps, I32 p.Rune ∧ (p.Broken = true → getB s p.At = some ((getB s p.At).getD 0))) → rangeG (some : List Gfold_unit → _) (fold_units_s1 s (tabP, tabS)) ps l = some (ps.foldl (addU s) l) := by
    intro ps
    induction ps with
    | nil => intro k l _ _ _; rfl
    | cons p ps ih =>
      intro k l hb hk hp
      obtain ⟨hp1, hp2⟩ := hp p (List.mem_cons_self ..)
      obtain ⟨hb1, hb2⟩ := hb
      simp only [List.length_cons] at hk
      rw [rangeG_cons, List.foldl_cons, ← ih (k + 1) (addU s l p) (addU_big s k p l hp1 ⟨hb1, hb2⟩) (by omega) (fun q hq => hp q (List.mem_cons_of_mem _ hq))]
      generalize rangeG (some : List Gfold_unit → _) (fold_units_s1 s (tabP, tabS)) ps = ag
      unfold fold_units_s1 addU
      cases hB : p.Broken with
      | true => exact condTI rfl (thenI (hp2 hB) (grdI (by omega) (by simp)))
      | false =>
        simp only [Bool.false_eq_true, if_false]
        refine condFI rfl (joinI ?_)
        have new : (joinK (fun (j3 : Int → Int → Int → (List Int) → (List Int) → Option (List Gfold_unit)) =>
            andThen (fold_unit_letter_v (⟨p.At, 0, p.Rune, ([] : List Int), ([] : List Int)⟩ : Gfold_unit)) fun (r5 : Bool) =>
            bcond (r5) (andThen (fold_parted_v (tabP, tabS).2 p.Rune) fun (r6 : (List Int)) =>
              andThen (getO r6 0) fun (q1 : Int) => grd (0 ≤ (1 : Int) ∧ (1 : Int) ≤ (r6.length : Int) ∧ ((r6.length : Int) : Int) ≤ (r6.length : Int)) <|
              loopG (fun _ _ _ _ _ _ => none) (fold_units_s2 j3 r6) fuel p.At 0 q1 ([] : List Int) ([] : List Int) 0) (j3 p.At 0 p.Rune ([] : List Int) ([] : List Int)))
            (fun (u1 : Int) (u2 : Int) (u3 : Int) (u4 : List Int) (u5 : List Int) => grd (l.length + 1 ≤ 2147483648) <| ag (l ++ [(⟨u1, u2, u3, u4, u5⟩ : Gfold_unit)]))) =
            ag (l ++ [if letter p.Rune then (parts p.Rune).tail.foldl markU ⟨p.At, 0, (parts p.Rune).headD 0, [], []⟩ else ⟨p.At, 0, p.Rune, [], []⟩]) := by
          refine joinI (thenI (letter_v _ hp1) ?_)
          show bcond (letter p.Rune) _ _ = _
          cases hL : letter p.Rune with
          | false => exact condFI rfl (grdI (by omega) (by simp))
          | true =>
            obtain ⟨b, ms, hq, _, _, _, hms⟩ := parts_shape hL
            refine condTI rfl (thenI (parted_v _) (thenI (a := b) (by rw [hq]; rfl) (grdI (by rw [hq]; simp only [List.length_cons]; omega) ?_)))
            refine (marks_loop (⟨p.At, 0, b, [], []⟩ : Gfold_unit) ms (parts p.Rune) b hq (by simp; omega) _).trans (grdI (by omega) ?_)
            rw [hq]; simp
        cases hl : l.getLast? with
        | none =>
          have : l = [] := List.getLast?_eq_none_iff.1 hl
          subst this
          exact condFI (by decide) new
        | some u =>
          have hne : l ≠ [] := by intro h; subst h; cases hl
          have hlen : 0 < l.length := List.length_pos_iff.2 hne
          have hm := List.mem_of_getLast? hl
          have hu := hb2 u hm
          have hg : getO l ((l.length : Int) - 1) = some u := getO_of (n := l.length - 1) (by omega) (by rw [← List.getLast?_eq_getElem?]; exact hl)
          refine condTI (decide_eq_true (by omega)) (grdI ⟨by omega, by omega⟩ (thenI hg (thenI (letter_v u hu.2) ?_)))
          cases hL : letter u.base with
          | false => exact condFI rfl (by simpa [hL] using new)
          | true =>
            refine condTI rfl (grdI hp1 ?_)
            rw [kind2]
            cases hM : mrk p.Rune with
            | false => exact condFI rfl (by simpa [hL, hM] using new)
            | true =>
              refine condTI rfl (grdI ⟨by omega, by omega⟩ (thenI hg (thenI (mark_v u _ (by omega) (by omega)) ?_)))
              simp only [Bool.and_self, if_true]
              rw [show ((l.length : Int) - 1).toNat = l.length - 1 by omega]
              simp [hL]
  have := key ((pcs s.data.toList).map pcG) 0 [] ⟨by simp, by simp⟩ (by simp; omega) hr
  exact this
/-! ### Units are clusters -/
theorem item_of {s : ByteArray} {p : Pc} (hp : p ∈ pcs s.data.toList) : (p.broken = true → (itG s p).Rune = -1 ∧ (itG s p).Text.size = 1 ∧ byte0 (itG s p).Text = (getB s p.i).getD 0) ∧ (p.broken = false → (itG s p).Rune = p.r ∧ (itG s p).Text = Utf8.encode (p.r : Int)) := by
  obtain ⟨g1, g2, hok⟩ := pcs_pos s.data.toList p hp
  have hlen : s.data.toList.length = s.size := by rw [Array.length_toList]; rfl
  have hf := pcs_fit hp
  have hw := hok.pos
  constructor
  · intro hb
    have hw1 : p.w = 1 := by unfold Pc.broken at hb; simp at hb; exact hb.2
    refine ⟨by simp [itG, hb], by simp [itG, hw1]; omega, ?_⟩
    have e : (itG s p).Text.data.toList = (s.data.toList.drop p.i).take p.w := by
      show (s.extract p.i (p.i + p.w)).data.toList = _
      rw [Lib.extract_data]; simp
    unfold byte0
    rw [e, hw1, getB_of (n := p.i) rfl (by omega)]
    have hi : p.i < s.data.toList.length := by omega
    rw [List.drop_eq_getElem_cons hi]
    simp
    rfl
  · intro hb
    refine ⟨by simp [itG, hb], ?_⟩
    have hnb : ¬ (p.r = 65533 ∧ p.w = 1) := by
      unfold Pc.broken at hb; simpa using hb
    apply ByteArray.ext; apply Array.toList_inj.1
    show (s.extract p.i (p.i + p.w)).data.toList = _
    rw [Lib.extract_data]
    have h1 := hok.bytes hnb
    rw [encode_list, h1]
    simp
theorem clF_push (cur : Option (Itm × List Itm)) (x : Itm) (xs : List Itm) (h : ∀ c, cur = some c → (isL c.1 && isM x) = false) : clF cur (x :: xs) = cur.toList ++ clF (some (x, [])) xs := by
  cases cur with
  | none => rfl
  | some c =>
    show (if isL c.1 && isM x then clF (some (c.1, c.2 ++ [x])) xs else c :: clF (some (x, [])) xs) = _
    rw [h c rfl]; rfl
theorem clF_marks (x : Itm) (hx : isL x = true) (xs : List Itm) : ∀ (ms ks : List Itm), (∀ m ∈ ms, isM m = true) → clF (some (x, ks)) (ms ++ xs) = clF (some (x, ks ++ ms)) xs
  | [], ks, _ => by simp
  | m :: ms, ks, h => by
    rw [List.cons_append]
    show (if isL x && isM m then clF (some (x, ks ++ [m])) (ms ++ xs) else _) = _
    rw [hx, h m (List.mem_cons_self ..)]
    simp only [Bool.and_self, if_true]
    rw [clF_marks x hx xs ms (ks ++ [m]) (fun z hz => h z (List.mem_cons_of_mem _ hz))]
    simp
theorem marks_toU (x : Itm) (hx : 0 ≤ x.Rune) : ∀ (ms ks : List Itm), (ms.map (·.Rune)).foldl markU (toU (x, ks)) = toU (x, ks ++ ms)
  | [], ks => by simp
  | m :: ms, ks => by
    rw [List.map_cons, List.foldl_cons, mark_toU x hx, marks_toU x hx ms]; simp
theorem toU_base (c : Itm × List Itm) (h : 0 ≤ c.1.Rune) : (toU c).base = c.1.Rune := by
  unfold toU; rw [if_neg (by omega)]
theorem toU_letter (c : Itm × List Itm) : letter (toU c).base = isL c.1 := by
  unfold toU isL
  split
  · rename_i h
    have h1 : letter (-1) = false := by decide
    have h2 : letter c.1.Rune = false := by
      cases e : letter c.1.Rune with
      | false => rfl
      | true => have := (letter_rng _ e).1; omega
    rw [h2]; exact h1
  · rfl
theorem units_cl (s : ByteArray) : ∀ (ps : List Pc) (cur : Option (Itm × List Itm)) (L : List Gfold_unit), (∀ p ∈ ps, p ∈ pcs s.data.toList) → (cur = none → L = []) →
    (ps.map pcG).foldl (addU s) (L ++ cur.toList.map toU) = L ++ (clF cur (apL (ps.map (itG s)))).map toU
  | [], cur, L, _, _ => by
    cases cur <;> simp [apL, clF]
  | p :: ps, cur, L, hp, hcur => by
    rw [List.map_cons, List.foldl_cons, List.map_cons]
    have hap : apL (itG s p :: ps.map (itG s)) = apI (itG s p) ++ apL (ps.map (itG s)) := by unfold apL; rw [List.flatMap_cons]
    rw [hap]
    obtain ⟨hb1, hb2⟩ := item_of (hp p (List.mem_cons_self ..))
    have tail := fun cur' L' hc => units_cl s ps cur' L' (fun q hq => hp q (List.mem_cons_of_mem _ hq)) hc
    have hv : p.broken = false → 0 ≤ (itG s p).Rune := fun h => by rw [(hb2 h).1]; omega
    -- a new unit
    have new : ∀ (x : Itm) (ms : List Itm), (isL x = false → ms = []) → (∀ m ∈ ms, isM m = true) → (∀ c, cur = some c → (isL c.1 && isM x) = false) → addU s (L ++ cur.toList.map toU) (pcG p) = (L ++ cur.toList.map toU) ++ [toU (x, ms)] → apI (itG s p) = x :: ms →
        (ps.map pcG).foldl (addU s) (addU s (L ++ cur.toList.map toU) (pcG p)) = L ++ (clF cur (apI (itG s p) ++ apL (ps.map (itG s)))).map toU := by
      intro x ms h1 h2 h3 h4 h5
      rw [h4, h5, List.cons_append, clF_push cur x _ h3]
      have h6 : clF (some (x, [])) (ms ++ apL (ps.map (itG s))) = clF (some (x, ms)) (apL (ps.map (itG s))) := by
        cases hx : isL x with
        | true => rw [clF_marks x hx _ ms [] h2]; rfl
        | false => rw [h1 hx]; rfl
      have := tail (some (x, ms)) (L ++ cur.toList.map toU) (by simp)
      rw [show (L ++ cur.toList.map toU) ++ [toU (x, ms)] = (L ++ cur.toList.map toU) ++ (some (x, ms)).toList.map toU from rfl, this, h6]
      simp
    cases hB : p.broken with
    | true =>
      obtain ⟨e1, e2, e3⟩ := hb1 hB
      have hL : isL (itG s p) = false := by unfold isL; rw [e1]; decide
      have hM : isM (itG s p) = false := by unfold isM; rw [e1]; decide
      refine new (itG s p) [] (fun _ => rfl) (by simp) (fun c _ => by rw [hM, Bool.and_false]) ?_ (by unfold apI; rw [hL]; rfl)
      unfold addU
      rw [show (pcG p).Broken = true from hB]
      simp only [if_true]
      have : toU (itG s p, []) = ⟨(itG s p).At, byte0 (itG s p).Text, -1, [], []⟩ := by unfold toU; rw [if_pos (by rw [e1]; omega)]
      rw [this, e3]; rfl
    | false =>
      obtain ⟨e1, e2⟩ := hb2 hB
      have h0 : 0 ≤ (itG s p).Rune := hv hB
      have hpr : (pcG p).Rune = (itG s p).Rune := by rw [e1]; rfl
      -- what the new unit is
      have hnew : ∃ x ms, apI (itG s p) = x :: ms ∧ (isL x = false → ms = []) ∧ (∀ m ∈ ms, isM m = true) ∧ isL x = isL (itG s p) ∧ isM x = isM (itG s p) ∧
          (if letter (pcG p).Rune then (parts (pcG p).Rune).tail.foldl markU ⟨(pcG p).At, 0, (parts (pcG p).Rune).headD 0, [], []⟩ else ⟨(pcG p).At, 0, (pcG p).Rune, [], []⟩) = toU (x, ms) := by
        rw [hpr]
        cases hL : isL (itG s p) with
        | false =>
          have hL' : letter (itG s p).Rune = false := hL
          refine ⟨itG s p, [], by unfold apI; rw [hL]; rfl, fun _ => rfl, by simp, hL, rfl, ?_⟩
          rw [hL']
          unfold toU
          rw [if_neg (show ¬ (itG s p, ([] : List Itm)).1.Rune < 0 by show ¬ (itG s p).Rune < 0; omega)]
          rfl
        | true =>
          have hL' : letter (itG s p).Rune = true := hL
          obtain ⟨b, ms, hq, hb, _, hms, _⟩ := parts_shape hL'
          have hb0 := (letter_rng b hb).1
          refine ⟨⟨b, Utf8.encode b, (itG s p).At⟩, ms.map fun r => ⟨r, Utf8.encode r, (itG s p).At⟩, by unfold apI; rw [hL, hq]; rfl, (fun h => by rw [show isL (⟨b, Utf8.encode b, (itG s p).At⟩ : Itm) = true from hb] at h; cases h), ?_, hb, ?_, ?_⟩
          · intro m hm
            obtain ⟨r, hr, rfl⟩ := List.mem_map.1 hm
            exact hms r hr
          · have hM1 : isM (itG s p) = false := by
              cases e : isM (itG s p) with
              | false => rfl
              | true => have := mrk_not_letter (show mrk (itG s p).Rune = true from e); rw [hL'] at this; cases this
            have hM2 : isM (⟨b, Utf8.encode b, (itG s p).At⟩ : Itm) = false := by
              cases e : isM (⟨b, Utf8.encode b, (itG s p).At⟩ : Itm) with
              | false => rfl
              | true => have := mrk_not_letter (show mrk b = true from e); rw [hb] at this; cases this
            rw [hM1, hM2]
          · rw [hL', hq]
            have := marks_toU ⟨b, Utf8.encode b, (itG s p).At⟩ hb0 (ms.map fun r => ⟨r, Utf8.encode r, (itG s p).At⟩) []
            have hm : (ms.map fun r => (⟨r, Utf8.encode r, (itG s p).At⟩ : Itm)).map (·.Rune) = ms := by rw [List.map_map]; simp [Function.comp_def]
            rw [hm] at this
            rw [List.nil_append] at this
            rw [← this]
            have ht : toU (⟨b, Utf8.encode b, (itG s p).At⟩, []) = ⟨(itG s p).At, 0, b, [], []⟩ := by
              unfold toU; rw [if_neg (show ¬ b < 0 by omega)]; rfl
            rw [ht]; rfl
      obtain ⟨x, ms, ha, hm1, hm2, hm3, hm4, hnew⟩ := hnew
      cases cur with
      | none =>
        have hL := hcur rfl
        subst hL
        refine new x ms hm1 hm2 (fun c h => by cases h) ?_ ha
        unfold addU
        rw [show (pcG p).Broken = false from hB]
        simp only [Bool.false_eq_true, if_false, Option.toList_none, List.map_nil, List.append_nil, List.getLast?_nil]
        rw [hnew]
      | some c =>
        have hlast : (L ++ [toU c]).getLast? = some (toU c) := by simp
        cases hk : (isL c.1 && isM x) with
        | false =>
          refine new x ms hm1 hm2 (fun c' h => by cases h; exact hk) ?_ ha
          show addU s (L ++ [toU c]) (pcG p) = (L ++ [toU c]) ++ [toU (x, ms)]
          unfold addU
          rw [show (pcG p).Broken = false from hB, hlast]
          simp only [Bool.false_eq_true, if_false]
          rw [toU_letter, show mrk (pcG p).Rune = isM x by rw [hm4, hpr]; rfl, hk, hnew]
          simp
        | true =>
          have hk' := hk
          rw [Bool.and_eq_true] at hk'
          have hMx : isM (itG s p) = true := by rw [← hm4]; exact hk'.2
          have hLx : isL (itG s p) = false := mrk_not_letter hMx
          have hax : apI (itG s p) = [itG s p] := by unfold apI; rw [hLx]; rfl
          rw [hax, List.singleton_append]
          have hadd : addU s (L ++ (some c).toList.map toU) (pcG p) = L ++ (some (c.1, c.2 ++ [itG s p])).toList.map toU := by
            show addU s (L ++ [toU c]) (pcG p) = L ++ [toU (c.1, c.2 ++ [itG s p])]
            unfold addU
            rw [show (pcG p).Broken = false from hB, hlast]
            simp only [Bool.false_eq_true, if_false]
            rw [toU_letter, show mrk (pcG p).Rune = isM x by rw [hm4, hpr]; rfl, hk]
            simp only [if_true]
            have h0c : 0 ≤ c.1.Rune := (letter_rng _ hk'.1).1
            rw [hpr, mark_toU c.1 h0c c.2 (itG s p)]
            simp
          rw [hadd, tail _ _ (by simp)]
          congr 2
          show _ = clF (some c) (itG s p :: apL (ps.map (itG s)))
          show _ = (if isL c.1 && isM (itG s p) then clF (some (c.1, c.2 ++ [itG s p])) (apL (ps.map (itG s))) else _)
          rw [hk'.1, hMx]; rfl
/-- The clusters of a text. -/
def clus (s : ByteArray) : List (Itm × List Itm) := cl (apL (itemsP s))
theorem units_v (s : ByteArray) (hs : s.size ≤ 65536) : fold_units_v s = some ((clus s).map toU) := by
  rw [units_fold s hs]
  have := units_cl s (pcs s.data.toList) none [] (fun p hp => hp) (fun _ => rfl)
  simp only [Option.toList_none, List.map_nil, List.append_nil, List.nil_append] at this
  rw [this]; rfl
end Go.Proofs.Ytlamcpgnmeileaa
namespace Go.Proofs.Ytlamcpgnmeileaa
open Go.RowKit Go.Lib
set_option linter.unusedVariables false
set_option linter.unusedSimpArgs false
def fold_written_plain_s1 (l1 : List Gfold_unit) (j1 : ByteArray → Option ByteArray) (ag1 : ByteArray → Int → Option ByteArray) (b4 : ByteArray) (x3 : Int) : Option ByteArray := bcond (decide ((x3 : Int) < (l1.length : Int))) ( joinK (fun (j2 : ByteArray → Option ByteArray) => andThen (getO l1 x3) fun (x4 : Gfold_unit) => bcond (decide ((x4.base : Int) < 0)) ( grd (b4.size + 1 ≤ 140737488355328) <| grd (∀ x ∈ ([x4.broken] : List Int), U8 x) <| j2 (b4 ++ (bytesOf [x4.broken]))
) ( andThen (fold_plain_v x4) fun (r1 : ByteArray) => grd (b4.size + r1.size ≤ 140737488355328) <| j2 (b4 ++ r1)
)
) (fun (b5 : ByteArray) => grd (I64 (x3 + 1)) <| ag1 b5 (x3 + 1)
)
) ( j1 b4
)
def fold_written_plain_v (l1 : List Gfold_unit) : Option ByteArray := joinK (fun (j1 : ByteArray → Option ByteArray) => loopG (fun _ _ => none) (fold_written_plain_s1 l1 j1) fuel ByteArray.empty 0
) (fun (b1 : ByteArray) => some b1
)
set_option maxRecDepth 100000 in
set_option maxHeartbeats 4000000 in
theorem fold_written_plain_fn {vvl1 vl1 : Value} {Zl1 : List (Gfold_unit × Hd × Hd)} {kl1 : Nat} {zl1 : List (Gfold_unit × Hd × Hd)} {l1 : List Gfold_unit} (hwl1 : Vw vvl1 Zl1 5 kl1 vl1 zl1) (hzl1 : zl1.map Prod.fst = l1) {r : ByteArray} (h : fold_written_plain_v l1 = some r) : Fn Try.prog 25 [vl1, .func (.func 26) #[] #[]] [vec encN_Gfold_unit 46 5 vvl1 Zl1, own nest_Gfold_unit Zl1] (fun _b : Unit => .string r) (fun _b => [vec encN_Gfold_unit 46 5 vvl1 Zl1, own nest_Gfold_unit Zl1]) := by
 unfold fold_written_plain_v at h
 refine Fn.intro Try.func25 rfl Try.ntmps25 (by simp) ?_
 intro w0 K
 obtain ⟨j1, hj1, h⟩ := joinE h
 refine TC.cutN (β := ByteArray × Value) 2 rfl (fun b => j1 b.1 = some r) (fun b => []) (fun b => [(5, b.2)]) (fun b => [vec encN_Gfold_unit 46 5 vvl1 Zl1, own nest_Gfold_unit Zl1, byt 5 b.2 b.1]) (fun cut => ?_) ?_
 ·
  refine TC.seq (TC.region (TO.assign rfl dc rfl (TO.nil (TX.next (TC.seq (TC.region (TO.assign rfl dc rfl (TO.nil (TX.next (cut (TC.seq (TC.region (TO.move rfl dc rfl ?_)))))))))))))
  refine TO.lenVwZ hzl1 hwl1 rfl dc rfl Try.underlying42 (TO.move rfl dc rfl (TO.nil (TX.next (TC.block (TC.newByt (e := 5) ?_)))))
  show TC _ _ _ _ _ _ _ _ _ [vec encN_Gfold_unit 46 5 vvl1 Zl1, own nest_Gfold_unit Zl1, byt 5 (.slice none 0 0) ByteArray.empty]
  refine TC.loopD (β := Nat × ByteArray × Int × Value) (fun b => loopG (fun _ _ => none) (fold_written_plain_s1 l1 j1) b.1 b.2.1 b.2.2.1 = some r) (fun b => []) (fun b => [(1, .func (.func 26) #[] #[]), (5, b.2.2.2), (8, vl1), (9, .int .i64 (l1.length : Int)), (10, .int .i64 b.2.2.1)]) (fun b => [vec encN_Gfold_unit 46 5 vvl1 Zl1, own nest_Gfold_unit Zl1, byt 5 b.2.2.2 b.2.1]) (fun b => b.1) (fuel, ByteArray.empty, 0, (.slice none 0 0)) h rfl (Sbs.cons rfl (Sbs.cons rfl (Sbs.cons rfl (Sbs.cons rfl (Sbs.cons rfl (Sbs.nil)))))) (Splits.of [0, 1, 2] kr rfl) ?_
  rintro ⟨n1, b4, x3, v4⟩ h
  cases n1 with
  | zero => exact noneE h
  | succ n1 =>
   obtain ⟨ag1, hag1⟩ : ∃ ag, ag = loopG (fun _ _ => none) (fold_written_plain_s1 l1 j1) n1 := ⟨_, rfl⟩
   have h : fold_written_plain_s1 l1 j1 ag1 b4 x3 = some r := by rw [hag1]; exact h
   unfold fold_written_plain_s1 at h
   show TC _ _ _ _ _ ([]) _ _ [(1, .func (.func 26) #[] #[]), (5, v4), (8, vl1), (9, .int .i64 (l1.length : Int)), (10, .int .i64 x3)] [vec encN_Gfold_unit 46 5 vvl1 Zl1, own nest_Gfold_unit Zl1, byt 5 v4 b4]
   refine TC.seq (TC.region (TO.bin rfl dc rfl rfl bin_lss (TO.nil (TX.next (TC.seq ?_)))))
   refine TC.condB rfl (fun hb1 => ?_) (fun hb1 => ?_)
   ·
    have h := condT hb1 h
    refine TC.skip (TX.next ?_)
    obtain ⟨j2, hj2, h⟩ := joinE h
    refine TC.cutN (β := ByteArray × Value) 0 rfl (fun b => j2 b.1 = some r) (fun b => []) (fun b => [(1, .func (.func 26) #[] #[]), (5, b.2), (8, vl1), (9, .int .i64 (l1.length : Int)), (10, .int .i64 x3)]) (fun b => [vec encN_Gfold_unit 46 5 vvl1 Zl1, own nest_Gfold_unit Zl1, byt 5 b.2 b.1]) (fun cut => ?_) ?_
    ·
     refine cut (TC.block (TC.seq (TC.region ?_)))
     obtain ⟨x4, hq1, h⟩ := andE h
     obtain ⟨⟨eh1, eh2⟩, eq1⟩ := getO_z hzl1 hq1
     refine TO.indexVw hwl1 eq1 Try.underlying42 sz_46 rfl dc rfl rfl rfl (TO.loadsVec (i := kl1 + (x3 : Int).toNat) (j := 0) (k := 0) (q := (x4, (eh1, eh2))) (cs := [.int .i64 x4.at_, .int .u8 x4.broken, .int .i32 x4.base, eh1.v, eh2.v]) rw_46 encN_Gfold_unit_len rfl dc rfl rfl (Vw.get hwl1 eq1) rfl rfl rfl ?_)
     refine TO.alloc zr_46 rfl dc (fun b6 => ?_)
     refine TO.stores (k := 3) (vs := [.int .i64 x4.at_, .int .u8 x4.broken, .int .i32 x4.base, eh1.v, eh2.v]) (l' := [.int .i64 x4.at_, .int .u8 x4.broken, .int .i32 x4.base, eh1.v, eh2.v]) sz_46 rfl rfl rfl rfl rfl (show _ ≤ _ by simp) rfl rfl ?_
     show TO _ _ _ _ _ _ _ _ _ _ [vec encN_Gfold_unit 46 5 vvl1 Zl1, own nest_Gfold_unit Zl1, byt 5 v4 b4, cells b6 [.int .i64 x4.at_, .int .u8 x4.broken, .int .i32 x4.base, eh1.v, eh2.v] 46]
     refine TO.nil (TX.next (TC.seq (TC.region (TO.fieldAddr fl_46_2 rfl dc rfl (show _ = 2 from rfl) (TO.load (k := 3) sc_21 rfl dc rfl rfl rfl (TO.bin rfl dc rfl rfl bin_lss (TO.nil (TX.next ?_))))))))
     refine TC.condB rfl (fun hb2 => ?_) (fun hb2 => ?_)
     ·
      have h := condT hb2 h
      refine TC.region (TO.move rfl dc rfl (TO.fieldAddr fl_46_1 rfl dc rfl (show _ = 1 from rfl) (TO.load (k := 3) sc_5 rfl dc rfl rfl rfl ?_)))
      refine TO.buildSlice (cs := [.int .u8 x4.broken]) (te := 5) (ps := [(0, .tmp 19)]) rfl dc rfl (fun _ => by kernel_rfl) (fun b7 => ?_)
      obtain ⟨hg1, h⟩ := grdE h
      obtain ⟨hg2, h⟩ := grdE h
      refine TO.appendByt (k := 2) (k2 := 4) (ys := (bytesOf [x4.broken])) Try.underlying82 by_5 rfl dc rfl rfl rfl rfl (strCells_of hg2) rfl hg1 (fun v6 => ?_)
      show TO _ _ _ _ _ _ _ _ _ _ [vec encN_Gfold_unit 46 5 vvl1 Zl1, own nest_Gfold_unit Zl1, byt 5 v6 (b4 ++ (bytesOf [x4.broken])), cells b6 [.int .i64 x4.at_, .int .u8 x4.broken, .int .i32 x4.base, eh1.v, eh2.v] 46, cells b7 [.int .u8 x4.broken] 5]
      refine TO.assign rfl dc rfl (TO.nil (TX.blockNormal ?_))
      exact TX.meetD (b4 ++ (bytesOf [x4.broken]), v6) h rfl (Sbs.cons rfl (Sbs.cons rfl (Sbs.cons rfl (Sbs.cons rfl (Sbs.cons rfl (Sbs.nil)))))) (Splits.of [0, 1, 2] kr rfl)
     ·
      have h := condF hb2 h
      refine TC.region (TO.move rfl dc rfl (TO.move rfl dc rfl (TO.loads (k := 3) (cs := [.int .i64 x4.at_, .int .u8 x4.broken, .int .i32 x4.base, eh1.v, eh2.v]) rw_46 rfl dc rfl rfl rfl rfl ?_)))
      refine TO.unfold1 (k := 1) rfl (pullE (Vw.get hwl1 eq1)) (fun _ _ => ?_)
      show TO _ _ _ _ _ _ _ _ _ _ [vec encN_Gfold_unit 46 5 vvl1 Zl1, own nest_Gfold_unit (Zl1.eraseIdx (kl1 + (x3 : Int).toNat)), byt 5 v4 b4, cells b6 [.int .i64 x4.at_, .int .u8 x4.broken, .int .i32 x4.base, eh1.v, eh2.v] 46, vec (encI (.i32)) 21 1 eh1.v x4.low, vec (encI (.i32)) 21 1 eh2.v x4.high]
      obtain ⟨r1, hq2, h⟩ := andE h
      refine TO.callK (v := .string r1) (vs := [.agg #[.int .i64 x4.at_, .int .u8 x4.broken, .int .i32 x4.base, eh1.v, eh2.v]]) rfl dc rfl rfl rfl en_26 (fold_plain_fn (u1 := x4) (u1_h0 := eh1) (u1_h1 := eh2) hq2) [4, 5] kr rfl ?_
      obtain ⟨hg3, h⟩ := grdE h
      refine TO.appendStr (k := 2) Try.underlying82 Try.underlying9 by_5 rfl dc rfl rfl rfl hg3 (fun v7 => ?_)
      refine TO.assign rfl dc rfl (TO.nil (TX.blockNormal (TX.fold1 (k := 1) rfl (Splits.of [4, 5] kr rfl) rfl (pushE (nest := nest_Gfold_unit) (Vw.get hwl1 eq1) rfl) ?_)))
      show TX _ _ _ _ _ _ _ [vec encN_Gfold_unit 46 5 vvl1 Zl1, own nest_Gfold_unit Zl1, byt 5 v7 (b4 ++ r1), cells b6 [.int .i64 x4.at_, .int .u8 x4.broken, .int .i32 x4.base, eh1.v, eh2.v] 46, emp, emp]
      exact TX.meetD (b4 ++ r1, v7) h rfl (Sbs.cons rfl (Sbs.cons rfl (Sbs.cons rfl (Sbs.cons rfl (Sbs.cons rfl (Sbs.nil)))))) (Splits.of [0, 1, 2] kr rfl)
    ·
     rintro ⟨b5, v5⟩ h
     rw [hj2] at h
     show TC _ _ _ _ _ ([]) _ _ [(1, .func (.func 26) #[] #[]), (5, v5), (8, vl1), (9, .int .i64 (l1.length : Int)), (10, .int .i64 x3)] [vec encN_Gfold_unit 46 5 vvl1 Zl1, own nest_Gfold_unit Zl1, byt 5 v5 b5]
     refine TC.region ?_
     obtain ⟨hg4, h⟩ := grdE h
     refine TO.bin rfl dc rfl rfl (bin_add (r := x3 + 1) (IntWalk.i64_in _ hg4)) (TO.move rfl dc rfl (TO.nil ?_))
     subst hag1
     exact TX.againD (n1, b5, x3 + 1, v5) h (Nat.lt_succ_self _) rfl (Sbs.cons rfl (Sbs.cons rfl (Sbs.cons rfl (Sbs.cons rfl (Sbs.cons rfl (Sbs.nil)))))) (Splits.of [0, 1, 2] kr rfl)
   ·
    have h := condF hb1 h
    refine TC.exit (TX.thenExit (TX.thenExit (TX.blockHere ?_)))
    exact TX.meetD (b4, v4) h rfl (Sbs.cons rfl (Sbs.nil)) (Splits.of [0, 1, 2] kr rfl)
 ·
  rintro ⟨b1, v1⟩ h
  rw [hj1] at h
  show TC _ _ _ _ _ ([]) _ _ [(5, v1)] [vec encN_Gfold_unit 46 5 vvl1 Zl1, own nest_Gfold_unit Zl1, byt 5 v1 b1]
  refine TC.seq (TC.region (TO.move rfl dc rfl (TO.bytStr (k := 2) rfl dc rfl rfl Try.underlying82 Try.underlying5 Try.underlying9 (TO.assign rfl dc rfl (TO.nil (TX.next (TC.ret ?_)))))))
  cases h
  exact TX.fin (rs := [.tmp 4]) () (.inl rfl) Try.results25 (.cons (.tmp rfl) .nil) rfl (Splits.of [0, 1] kr rfl)
end Go.Proofs.Ytlamcpgnmeileaa
namespace Go.Proofs.Ytlamcpgnmeileaa
open Go.RowKit Go.Lib
set_option linter.unusedVariables false
set_option linter.unusedSimpArgs false
def fold_Fold_v (s1 : ByteArray) : Option ByteArray := andThen (fold_units_v s1) fun (r1 : (List Gfold_unit)) => andThen (fold_written_plain_v r1) fun (r2 : ByteArray) => some r2
set_option maxRecDepth 100000 in
set_option maxHeartbeats 4000000 in
theorem fold_Fold_fn {s1 : ByteArray} {r : ByteArray} (h : fold_Fold_v s1 = some r) : FnP Try.prog 10 [.string s1] (.string r) := by
 unfold fold_Fold_v at h
 refine FnP.intro Try.func10 rfl Try.ntmps10 (by simp) ?_
 intro w0 K
 refine TC.seq (TC.region (TO.assign rfl dc rfl (TO.nil (TX.next (TC.seq (TC.region (TO.move rfl dc rfl ?_)))))))
 obtain ⟨r1, hq1, h⟩ := andE h
 refine TO.call (vs := [.string s1]) rfl dc rfl rfl rfl en_24 (fold_units_fn hq1) Splits.nil ?_
 rintro v1
 show TO _ _ _ _ _ _ _ _ _ _ [vecN encN_Gfold_unit nest_Gfold_unit 46 5 v1 r1]
 refine TO.weakenL (L' := [vecN encN_Gfold_unit nest_Gfold_unit 46 5 v1 r1]) (Splits.of [0] kr rfl) ?_
 refine TO.nameHdN (k := 0) rfl (fun hd1 he1 => ?_)
 subst he1
 refine TO.unfold1 (k := 0) rfl openE (fun zs1 hz1 => ?_)
 show TO _ _ _ _ _ _ _ _ _ _ [vec encN_Gfold_unit 46 5 hd1.v zs1, own nest_Gfold_unit zs1]
 refine TO.vecVw (k := 0) rfl (fun hw1 => ?_)
 obtain ⟨r2, hq2, h⟩ := andE h
 refine TO.callK (v := .string r2) (vs := [hd1.v, .func (.func 26) #[] #[]]) rfl dc rfl rfl rfl en_25 (fold_written_plain_fn hw1 hz1 hq2) [0, 1] kr rfl (TO.assign rfl dc rfl (TO.nil (TX.next (TC.ret ?_))))
 cases h
 exact TX.fin (rs := [.tmp 2]) () (.inl rfl) Try.results10 (.cons (.tmp rfl) .nil) rfl Splits.nil
end Go.Proofs.Ytlamcpgnmeileaa
namespace Go.Proofs.Ytlamcpgnmeileaa
open Go.RowKit Go.Lib
set_option linter.unusedVariables false
set_option linter.unusedSimpArgs false
/-! ### Texts laid together -/
section
variable {α β : Type}
def J (f : α → ByteArray) (l : List α) : ByteArray := l.foldl (fun s x => s ++ f x) ByteArray.empty
theorem J_acc (f : α → ByteArray) : ∀ (l : List α) (b : ByteArray), l.foldl (fun s x => s ++ f x) b = b ++ J f l
  | [], b => by simp [J]
  | x :: l, b => by
    unfold J
    rw [List.foldl_cons, J_acc f l, List.foldl_cons, J_acc f l (ByteArray.empty ++ f x), ByteArray.empty_append, ByteArray.append_assoc]
theorem J_cons (f : α → ByteArray) (x : α) (l : List α) : J f (x :: l) = f x ++ J f l := by
  show (l.foldl _ (ByteArray.empty ++ f x)) = _
  rw [J_acc, ByteArray.empty_append]
theorem J_map (f : β → ByteArray) (g : α → β) : ∀ l : List α, J f (l.map g) = J (fun x => f (g x)) l
  | [] => rfl
  | x :: l => by rw [List.map_cons, J_cons, J_cons, J_map f g l]
theorem J_congr {f g : α → ByteArray} : ∀ {l : List α}, (∀ x ∈ l, f x = g x) → J f l = J g l
  | [], _ => rfl
  | x :: l, h => by rw [J_cons, J_cons, h x (List.mem_cons_self ..), J_congr (fun y hy => h y (List.mem_cons_of_mem _ hy))]
theorem J_size (f : α → ByteArray) (m : Nat) : ∀ {l : List α}, (∀ x ∈ l, (f x).size ≤ m) → (J f l).size ≤ l.length * m
  | [], _ => by simp [J]
  | x :: l, h => by
    rw [J_cons, ByteArray.size_append, List.length_cons, Nat.add_mul, Nat.one_mul]
    have := J_size f m (fun y hy => h y (List.mem_cons_of_mem _ hy))
    have := h x (List.mem_cons_self ..)
    omega
end
theorem strOf_J (l : List Int) : strOf l = J Utf8.encode l := rfl
theorem enc_size4 (r : Int) : (Utf8.encode r).size ≤ 4 := by
  rw [encode_size]; exact (encodeRune_len r).2
def wr (of : Gfold_unit → ByteArray) (u : Gfold_unit) : ByteArray := if u.base < 0 then bytesOf [u.broken] else of u
theorem wr_plain (of : Gfold_unit → ByteArray) (l : List Gfold_unit) (hl : l.length ≤ 1048576) (h : ∀ u ∈ l, u.base < 0 ∧ U8 u.broken ∨ 0 ≤ u.base ∧ fold_plain_v u = some (of u) ∧ (of u).size ≤ 1048576) : fold_written_plain_v l = some (J (wr of) l) := by
  unfold fold_written_plain_v
  refine joinI ((loop1 (xs := l) (f := fun b u => b ++ wr of u) (J := some) (fun k b => b.size ≤ k * 1048576) ?_ ?_ ?_ (big_fuel (by omega)) (by decide)).trans rfl)
  · intro ag k u b hu hb
    have hk := lp_lt' hu
    unfold fold_written_plain_s1
    refine condTI (lp_lt hu) (joinI (thenI (lp_get hu) ?_))
    rcases h u (List.mem_of_getElem? hu) with ⟨h1, h2⟩ | ⟨h1, h2, h3⟩
    · exact condTI (decide_eq_true h1) (grdI (by omega) (grdI (by simpa using h2) (grdI (lp_i64 (by omega)) (by simp only [wr, if_pos h1]))))
    · exact condFI (decide_eq_false (by omega)) (thenI h2 (grdI (by omega) (grdI (lp_i64 (by omega)) (by simp only [wr, if_neg (show ¬ u.base < 0 by omega)]))))
  · intro k u b hu hb
    have hw : (wr of u).size ≤ 1048576 := by
      rcases h u (List.mem_of_getElem? hu) with ⟨h1, h2⟩ | ⟨h1, h2, h3⟩
      · unfold wr; rw [if_pos h1, bytesOf_size]; simp
      · unfold wr; rw [if_neg (by omega)]; exact h3
    rw [ByteArray.size_append]; omega
  · intro ag b _; unfold fold_written_plain_s1; exact condFI lp_ge rfl
/-! ### Items in order -/
def okT (x : Itm) : Prop := I32 x.Rune ∧ ((x.Rune < 0 ∧ x.Text.size = 1) ∨ (0 ≤ x.Rune ∧ x.Text = Utf8.encode x.Rune))
theorem okT_item {s : ByteArray} : ∀ x ∈ itemsP s, okT x := by
  intro x hx
  unfold itemsP at hx
  obtain ⟨p, hp, rfl⟩ := List.mem_map.1 hx
  obtain ⟨h1, h2⟩ := item_of hp
  obtain ⟨g1, g2, hok⟩ := pcs_pos s.data.toList p hp
  have hv := hok.valid
  cases hb : p.broken with
  | true => obtain ⟨e1, e2, _⟩ := h1 hb; exact ⟨by rw [e1]; exact ⟨by omega, by omega⟩, .inl ⟨by omega, e2⟩⟩
  | false =>
    obtain ⟨e1, e2⟩ := h2 hb
    refine ⟨by rw [e1]; exact ⟨by omega, by omega⟩, .inr ⟨by omega, by rw [e2, e1]⟩⟩
theorem okT_ap {l : List Itm} (h : ∀ x ∈ l, okT x) : ∀ x ∈ apL l, okT x := by
  intro y hy
  unfold apL at hy
  obtain ⟨x, hx, hy⟩ := List.mem_flatMap.1 hy
  unfold apI at hy
  split at hy
  · rename_i hL
    obtain ⟨r, hr, rfl⟩ := List.mem_map.1 hy
    obtain ⟨b, ms, hq, hb, _, hms, _⟩ := parts_shape (show letter x.Rune = true from hL)
    have h0 : 0 ≤ r := by
      rw [hq] at hr
      rcases List.mem_cons.1 hr with rfl | hr
      · exact (letter_rng _ hb).1
      · have := hms r hr; unfold mrk at this; simp at this; omega
    exact ⟨parts_i32 (h x hx).1 r hr, .inr ⟨h0, rfl⟩⟩
  · simp at hy; subst hy; exact h _ hx
theorem clF_mem : ∀ (xs : List Itm) (cur : Option (Itm × List Itm)) (c : Itm × List Itm), c ∈ clF cur xs → (∀ d, cur = some d → isL d.1 = false → d.2 = []) → ((c.1 ∈ xs ∨ ∃ d, cur = some d ∧ c.1 = d.1) ∧ (∀ m ∈ c.2, (isM m = true ∧ m ∈ xs) ∨ ∃ d, cur = some d ∧ m ∈ d.2) ∧ (isL c.1 = false → c.2 = []))
  | [], none, c, h, _ => by cases h
  | [], some d, c, h, hd => by
    simp [clF] at h; subst h
    exact ⟨.inr ⟨c, rfl, rfl⟩, fun m hm => .inr ⟨c, rfl, hm⟩, hd c rfl⟩
  | x :: xs, none, c, h, _ => by
    obtain ⟨h1, h2, h3⟩ := clF_mem xs (some (x, [])) c h (fun d hd _ => by cases hd; rfl)
    refine ⟨.inl ?_, fun m hm => .inl ?_, h3⟩
    · rcases h1 with h1 | ⟨d, hd, h1⟩
      · exact List.mem_cons_of_mem _ h1
      · cases hd; rw [h1]; exact List.mem_cons_self ..
    · rcases h2 m hm with ⟨a, b⟩ | ⟨d, hd, h2⟩
      · exact ⟨a, List.mem_cons_of_mem _ b⟩
      · cases hd; cases h2
  | x :: xs, some d, c, h, hd => by
    have h' : c ∈ (if isL d.1 && isM x then clF (some (d.1, d.2 ++ [x])) xs else d :: clF (some (x, [])) xs) := h
    cases hk : (isL d.1 && isM x) with
    | true =>
      rw [hk] at h'
      rw [Bool.and_eq_true] at hk
      obtain ⟨h1, h2, h3⟩ := clF_mem xs (some (d.1, d.2 ++ [x])) c h' (fun e he hl => by cases he; rw [hk.1] at hl; cases hl)
      refine ⟨?_, fun m hm => ?_, h3⟩
      · rcases h1 with h1 | ⟨e, he, h1⟩
        · exact .inl (List.mem_cons_of_mem _ h1)
        · cases he; exact .inr ⟨d, rfl, h1⟩
      · rcases h2 m hm with ⟨a, b⟩ | ⟨e, he, h2⟩
        · exact .inl ⟨a, List.mem_cons_of_mem _ b⟩
        · cases he
          rcases List.mem_append.1 h2 with h2 | h2
          · exact .inr ⟨d, rfl, h2⟩
          · simp at h2; subst h2; exact .inl ⟨hk.2, List.mem_cons_self ..⟩
    | false =>
      rw [hk] at h'
      rcases List.mem_cons.1 h' with rfl | h'
      · exact ⟨.inr ⟨c, rfl, rfl⟩, fun m hm => .inr ⟨c, rfl, hm⟩, hd c rfl⟩
      · obtain ⟨h1, h2, h3⟩ := clF_mem xs (some (x, [])) c h' (fun e he _ => by cases he; rfl)
        refine ⟨.inl ?_, fun m hm => .inl ?_, h3⟩
        · rcases h1 with h1 | ⟨e, he, h1⟩
          · exact List.mem_cons_of_mem _ h1
          · cases he; rw [h1]; exact List.mem_cons_self ..
        · rcases h2 m hm with ⟨a, b⟩ | ⟨e, he, h2⟩
          · exact ⟨a, List.mem_cons_of_mem _ b⟩
          · cases he; cases h2
theorem cl_mem {xs : List Itm} {c : Itm × List Itm} (h : c ∈ cl xs) : c.1 ∈ xs ∧ (∀ m ∈ c.2, isM m = true ∧ m ∈ xs) ∧ (isL c.1 = false → c.2 = []) := by
  obtain ⟨h1, h2, h3⟩ := clF_mem xs none c h (fun d hd => by cases hd)
  refine ⟨?_, fun m hm => ?_, h3⟩
  · rcases h1 with h1 | ⟨d, hd, _⟩
    · exact h1
    · cases hd
  · rcases h2 m hm with h2 | ⟨d, hd, _⟩
    · exact h2
    · cases hd
theorem clF_len : ∀ (xs : List Itm) (cur : Option (Itm × List Itm)), (clF cur xs).length ≤ xs.length + cur.toList.length ∧ ∀ c ∈ clF cur xs, c.2.length ≤ xs.length + (cur.toList.map (·.2.length)).sum
  | [], none => by simp [clF]
  | [], some d => by simp [clF]
  | x :: xs, none => by
    have := clF_len xs (some (x, []))
    refine ⟨?_, fun c hc => ?_⟩
    · have h1 := this.1; show (clF (some (x, [])) xs).length ≤ _; simp at h1 ⊢; omega
    · have h1 := this.2 c hc; simp at h1 ⊢; omega
  | x :: xs, some d => by
    have a := clF_len xs (some (d.1, d.2 ++ [x]))
    have b := clF_len xs (some (x, []))
    show (if isL d.1 && isM x then clF (some (d.1, d.2 ++ [x])) xs else d :: clF (some (x, [])) xs).length ≤ _ ∧ _
    show _ ∧ ∀ c ∈ (if isL d.1 && isM x then clF (some (d.1, d.2 ++ [x])) xs else d :: clF (some (x, [])) xs), _
    split
    · refine ⟨by have := a.1; simp at this ⊢; omega, fun c hc => by have := a.2 c hc; simp at this ⊢; omega⟩
    · refine ⟨by have := b.1; simp at this ⊢; omega, fun c hc => ?_⟩
      rcases List.mem_cons.1 hc with rfl | hc
      · simp
      · have := b.2 c hc; simp at this ⊢; omega
theorem cl_len (xs : List Itm) : (cl xs).length ≤ xs.length ∧ ∀ c ∈ cl xs, c.2.length ≤ xs.length := by
  have := clF_len xs none
  simpa [cl] using this
theorem clus_ok {s : ByteArray} (hs : s.size ≤ 65536) : (clus s).length ≤ 196608 ∧ ∀ c ∈ clus s, okT c.1 ∧ (∀ m ∈ c.2, isM m = true ∧ okT m) ∧ (isL c.1 = false → c.2 = []) ∧ c.2.length ≤ 196608 := by
  have h1 := cl_len (apL (itemsP s))
  have h2 := apL_len (itemsP s)
  have h3 : (itemsP s).length ≤ s.size := by unfold itemsP; simpa using pcs_count_le s
  have hok := okT_ap (okT_item (s := s))
  refine ⟨by unfold clus; omega, fun c hc => ?_⟩
  obtain ⟨g1, g2, g3⟩ := cl_mem hc
  exact ⟨hok _ g1, fun m hm => ⟨(g2 m hm).1, hok _ (g2 m hm).2⟩, g3, by have := h1.2 c hc; omega⟩
theorem toU_cases (c : Itm × List Itm) (h : okT c.1) : (toU c).base < 0 ∧ U8 (toU c).broken ∧ c.1.Rune < 0 ∧ bytesOf [(toU c).broken] = c.1.Text ∨ 0 ≤ (toU c).base ∧ 0 ≤ c.1.Rune ∧ c.1.Text = Utf8.encode c.1.Rune ∧ toU c = ⟨c.1.At, 0, c.1.Rune, (loI c.2).map (·.Rune), (hiI c.2).map (·.Rune)⟩ := by
  rcases h.2 with ⟨h1, h2⟩ | ⟨h1, h2⟩
  · left
    have e : toU c = ⟨c.1.At, byte0 c.1.Text, -1, [], []⟩ := by unfold toU; rw [if_pos h1]
    rw [e]
    refine ⟨by show (-1 : Int) < 0; omega, ?_, h1, ?_⟩
    · show U8 (byte0 c.1.Text); unfold byte0; constructor
      · omega
      · have := (c.1.Text.data.toList.headD 0).toNat_lt; omega
    · show bytesOf [byte0 c.1.Text] = _
      apply ByteArray.ext; apply Array.toList_inj.1
      have hl : c.1.Text.data.toList.length = 1 := by rw [Array.length_toList]; exact h2
      cases hq : c.1.Text.data.toList with
      | nil => rw [hq] at hl; cases hl
      | cons b l =>
        rw [hq] at hl
        have : l = [] := List.eq_nil_of_length_eq_zero (by simpa using hl)
        subst this
        unfold bytesOf byte0
        rw [hq]; simp
  · right
    have e : toU c = ⟨c.1.At, 0, c.1.Rune, (loI c.2).map (·.Rune), (hiI c.2).map (·.Rune)⟩ := by unfold toU; rw [if_neg (by omega)]
    rw [e]
    exact ⟨h1, h1, h2, rfl⟩
end Go.Proofs.Ytlamcpgnmeileaa
namespace Go.Proofs.Ytlamcpgnmeileaa
open Go.RowKit Go.Lib
set_option linter.unusedVariables false
set_option linter.unusedSimpArgs false
/-! ### Plain letters -/
def plT : List (Int × List UInt8) := [(223, [115, 115]), (230, [97, 101]), (248, [111]), (240, [100]), (254, [116, 104]), (273, [100]), (295, [104]), (305, [105]), (307, [105, 106]), (312, [113]), (320, [108]), (322, [108]), (329, [110]), (331, [110, 103]), (339, [111, 101]), (359, [116]), (383, [115]), (962, [207, 131])]
def plainR (r : Int) : ByteArray := match getM r plT with | some b => ⟨b.toArray⟩ | none => Utf8.encode r
theorem plainR_size (r : Int) : (plainR r).size ≤ 4 := by
  unfold plainR
  split
  · rename_i b hb
    have h : ∀ p ∈ plT, p.2.length ≤ 4 := by decide
    have := h _ (getM_mem hb)
    show (b.toArray).size ≤ 4; simpa using this
  · exact enc_size4 r
/-- Folded, one item. -/
def foldI (x : Itm) : Itm := if isL x then ⟨x.Rune, plainR (lower x.Rune), x.At⟩ else x
end Go.Proofs.Ytlamcpgnmeileaa
namespace Go.Proofs.Ytlamcpgnmeileaa
open Go.RowKit Go.Lib
set_option linter.unusedVariables false
set_option linter.unusedSimpArgs false
def plS (sm : Int) (j1 : Option ByteArray) (ag1 : Int → Bool → Nat → Option ByteArray) (from3 : Int) (head3 : Bool) (m3 : Nat) : Option ByteArray := bcond (decide (m3 < (pcs str_f9f7e721.data.toList).length)) ( andThen ((pcs str_f9f7e721.data.toList)[m3]?) fun (p1 : Pc) => joinK (fun (j2 : Int → Option ByteArray) => bcond (((p1.r : Int) : Int) == 32) ( bcond (decide ((0 : Int) ≤ from3)) ( grd (0 ≤ (from3 : Int) ∧ (from3 : Int) ≤ (p1.i : Int) ∧ ((p1.i : Int) : Int) ≤ (str_f9f7e721.size : Int)) <| some (cutB str_f9f7e721 from3 (p1.i : Int))
) ( bcond (((p1.r : Int) : Int) == 32) ( j2 from3
) ( bcond (head3) ( bcond (((p1.r : Int) : Int) == sm) ( grd (I64 ((p1.i : Int) + ((Utf8.encode (p1.r : Int)).size : Int))) <| j2 ((p1.i : Int) + ((Utf8.encode (p1.r : Int)).size : Int))
) ( j2 from3
)
) ( j2 from3
)
)
)
) ( bcond (((p1.r : Int) : Int) == 32) ( j2 from3
) ( bcond (head3) ( bcond (((p1.r : Int) : Int) == sm) ( grd (I64 ((p1.i : Int) + ((Utf8.encode (p1.r : Int)).size : Int))) <| j2 ((p1.i : Int) + ((Utf8.encode (p1.r : Int)).size : Int))
) ( j2 from3
)
) ( j2 from3
)
)
)
) (fun (from4 : Int) => ag1 from4 (((p1.r : Int) : Int) == 32) (m3 + 1)
)
) ( j1
)
def othP : List Pc := pcs str_f9f7e721.data.toList
def plL (sm : Int) : Option ByteArray := loopG (fun _ _ _ => none) (plS sm (some (Utf8.encode sm))) fuel (-1) true 0
def hds : List Pc → Bool → List Int
  | [], _ => []
  | p :: ps, h => (if (p.r == 32) then [] else if h then [(p.r : Int)] else []) ++ hds ps (p.r == 32)
set_option maxRecDepth 100000 in
theorem hds_eq : hds othP true = plT.map Prod.fst := by decide +kernel
set_option maxRecDepth 100000 in
theorem plL_keys : (plT.all fun p => decide (plL p.1 = some (plainR p.1))) = true := by decide +kernel
theorem plL_none (sm : Int) (J : Option ByteArray) : ∀ (n m : Nat) (h : Bool), m ≤ othP.length → othP.length - m < n → sm ∉ hds (othP.drop m) h → loopG (fun _ _ _ => none) (plS sm J) n (-1) h m = J := by
  intro n
  induction n with
  | zero => intro m h _ hn; omega
  | succ n ih =>
    intro m h hm hn hs
    rw [loopI]
    generalize loopG (fun _ _ _ => none) (plS sm J) n = ag at ih ⊢
    unfold plS
    by_cases hlt : m < othP.length
    · have hx : othP[m]? = some othP[m] := List.getElem?_eq_getElem hlt
      rw [List.drop_eq_getElem_cons hlt] at hs
      generalize othP[m] = p at hx hs
      unfold hds at hs
      rw [List.mem_append, not_or] at hs
      have e : ((p.r : Int) == 32) = (p.r == 32) := by rw [Bool.eq_iff_iff]; simp; omega
      refine condTI (decide_eq_true hlt) (thenI hx (joinI ?_))
      have nx : ag (-1) ((p.r : Int) == 32) (m + 1) = J := ih (m + 1) _ (by omega) (by omega) (by rw [e]; exact hs.2)
      cases h32 : ((p.r : Int) == 32) with
      | true =>
        rw [h32] at nx
        exact condTI rfl (condFI (by decide) (condTI rfl nx))
      | false =>
        rw [h32] at nx
        refine condFI rfl (condFI rfl ?_)
        cases h with
        | false => exact condFI rfl nx
        | true =>
          have h1 := hs.1
          rw [← e, h32] at h1
          refine condTI rfl (condFI ?_ nx)
          rw [beq_eq_false_iff_ne]
          intro e2
          exact h1 (by simp [e2])
    · exact condFI (decide_eq_false hlt) rfl
theorem plL_v (sm : Int) : plL sm = some (plainR sm) := by
  by_cases h : sm ∈ plT.map Prod.fst
  · obtain ⟨p, hp, rfl⟩ := List.mem_map.1 h
    exact of_decide_eq_true (List.all_eq_true.1 plL_keys p hp)
  · have : plL sm = some (Utf8.encode sm) := plL_none sm _ fuel 0 true (Nat.zero_le _) (by
      have : othP.length ≤ 100000 := by decide +kernel
      unfold fuel; omega) (by rw [List.drop_zero, hds_eq]; exact h)
    rw [this]
    unfold plainR
    cases hg : getM sm plT with
    | none => rfl
    | some b => exact absurd (List.mem_map.2 ⟨_, getM_mem hg, rfl⟩) h
theorem plain_v (u : Gfold_unit) (hu : I32 u.base) : fold_plain_v u = some (if letter u.base then plainR (lower u.base) else Utf8.encode u.base) := by
  unfold fold_plain_v
  refine thenI (letter_v u hu) ?_
  cases hL : letter u.base with
  | false => exact condTI rfl rfl
  | true => exact condFI rfl (joinI (grdI hu (plL_v (lower u.base))))
/-! ### Fold, Bare, Apart -/
def foldC (c : Itm × List Itm) : ByteArray := (foldI c.1).Text
def foldS (s : ByteArray) : ByteArray := J foldC (clus s)
theorem wr_of (of : Gfold_unit → ByteArray) (g : Itm × List Itm → ByteArray) (s : ByteArray) (hs : s.size ≤ 65536) (h : ∀ c ∈ clus s, 0 ≤ c.1.Rune → of (toU c) = g c) (hneg : ∀ c ∈ clus s, c.1.Rune < 0 → g c = c.1.Text) : J (wr of) ((clus s).map toU) = J g (clus s) := by
  rw [J_map]
  refine J_congr fun c hc => ?_
  obtain ⟨h1, h2, h3, _⟩ := (clus_ok hs).2 c hc
  unfold wr
  rcases toU_cases c h1 with ⟨g1, _, g3, g4⟩ | ⟨g1, g2, g3, g4⟩
  · rw [if_pos g1, g4, hneg c hc g3]
  · rw [if_neg (by omega), h c hc g2]
theorem not_letter_neg {x : Itm} (h : x.Rune < 0) : isL x = false := by
  cases e : isL x with
  | false => rfl
  | true => have := (letter_rng x.Rune e).1; omega
theorem foldC_eq (c : Itm × List Itm) (h : okT c.1) : (0 ≤ c.1.Rune → (if letter (toU c).base then plainR (lower (toU c).base) else Utf8.encode (toU c).base) = foldC c) ∧ (c.1.Rune < 0 → foldC c = c.1.Text) := by
  constructor
  · intro h0
    have hb := toU_base c h0
    rw [hb]
    unfold foldC foldI isL
    rcases h.2 with ⟨h1, _⟩ | ⟨_, h2⟩
    · omega
    · cases letter c.1.Rune with
      | true => rfl
      | false => simp [h2]
  · intro h0
    unfold foldC foldI; rw [not_letter_neg h0]; rfl
theorem fold_v (s : ByteArray) (hs : s.size ≤ 65536) : fold_Fold_v s = some (foldS s) := by
  unfold fold_Fold_v
  obtain ⟨hl, hc⟩ := clus_ok hs
  refine thenI (units_v s hs) (thenI (wr_plain (fun u => if letter u.base then plainR (lower u.base) else Utf8.encode u.base) _ (by rw [List.length_map]; omega) ?_) ?_)
  · intro u hu
    obtain ⟨c, hcm, rfl⟩ := List.mem_map.1 hu
    obtain ⟨h1, _⟩ := hc c hcm
    rcases toU_cases c h1 with ⟨g1, g2, _⟩ | ⟨g1, g2, g3, g4⟩
    · exact .inl ⟨g1, g2⟩
    · refine .inr ⟨g1, plain_v _ (by rw [toU_base c g2]; exact h1.1), ?_⟩
      split
      · have := plainR_size (lower (toU c).base); omega
      · have := enc_size4 (toU c).base; omega
  · rw [wr_of _ foldC s hs (fun c hcm h0 => (foldC_eq c (hc c hcm).1).1 h0) (fun c hcm h0 => (foldC_eq c (hc c hcm).1).2 h0)]; rfl
theorem okT_size {x : Itm} (h : okT x) : x.Text.size ≤ 4 := by
  rcases h.2 with ⟨_, h⟩ | ⟨_, h⟩
  · omega
  · rw [h]; exact enc_size4 _
theorem foldI_size {x : Itm} (h : okT x) : (foldI x).Text.size ≤ 4 := by
  unfold foldI
  split
  · exact plainR_size _
  · exact okT_size h
end Go.Proofs.Ytlamcpgnmeileaa
namespace Go.Proofs.Ytlamcpgnmeileaa
open Go.RowKit Go.Lib
set_option linter.unusedVariables false
set_option linter.unusedSimpArgs false
def strip (x : Itm) : Itm := ⟨x.Rune, x.Text, 0⟩
def stripC (c : Itm × List Itm) : Itm × List Itm := (strip c.1, c.2.map strip)
theorem isL_strip (x : Itm) : isL (strip x) = isL x := rfl
theorem isM_strip (x : Itm) : isM (strip x) = isM x := rfl
theorem clF_strip : ∀ (xs : List Itm) (cur : Option (Itm × List Itm)), clF (cur.map stripC) (xs.map strip) = (clF cur xs).map stripC
  | [], none => rfl
  | [], some c => rfl
  | x :: xs, none => clF_strip xs (some (x, []))
  | x :: xs, some c => by
    show (if isL (strip c.1) && isM (strip x) then clF (some (strip c.1, c.2.map strip ++ [strip x])) (xs.map strip) else stripC c :: clF (some (strip x, [])) (xs.map strip)) = (if isL c.1 && isM x then clF (some (c.1, c.2 ++ [x])) xs else c :: clF (some (x, [])) xs).map stripC
    rw [isL_strip, isM_strip]
    have h1 := clF_strip xs (some (c.1, c.2 ++ [x]))
    have h2 := clF_strip xs (some (x, []))
    simp only [Option.map_some, stripC, List.map_append, List.map_cons, List.map_nil] at h1 h2
    split
    · exact h1
    · rw [List.map_cons, ← h2]
theorem cl_strip (xs : List Itm) : cl (xs.map strip) = (cl xs).map stripC := clF_strip xs none
theorem apI_strip (x : Itm) : apI (strip x) = (apI x).map strip := by
  unfold apI
  rw [isL_strip]
  split
  · rw [List.map_map]; rfl
  · rfl
theorem apL_strip (xs : List Itm) : apL (xs.map strip) = (apL xs).map strip := by
  unfold apL
  induction xs with
  | nil => rfl
  | cons x xs ih => rw [List.map_cons, List.flatMap_cons, List.flatMap_cons, List.map_append, ih, apI_strip]
theorem foldC_strip (c : Itm × List Itm) : foldC (stripC c) = foldC c := by
  unfold foldC foldI stripC
  rw [isL_strip]
  split <;> rfl
/-- A token as an item. -/
def tokI (t : Tok) : Itm := ⟨if t.broken then -1 else (t.r : Int), ⟨t.bs.toArray⟩, 0⟩
def clT (ts : List Tok) : List (Itm × List Itm) := cl (apL (ts.map tokI))
theorem items_place (s : ByteArray) : ∀ (ts pre : List Tok), s.data.toList = flat (pre ++ ts) → ((place (flat pre).length ts).map (itG s)).map strip = ts.map tokI
  | [], pre, _ => rfl
  | t :: ts, pre, h => by
    have e : (flat pre).length + t.bs.length = (flat (pre ++ [t])).length := by rw [flat_append, List.length_append]; simp [flat]
    show strip (itG s ⟨(flat pre).length, t.bs.length, t.r⟩) :: ((place ((flat pre).length + t.bs.length) ts).map (itG s)).map strip = _
    rw [e, items_place s ts (pre ++ [t]) (by rw [h]; simp), List.map_cons]
    congr 1
    unfold strip itG tokI
    have hb : (⟨(flat pre).length, t.bs.length, t.r⟩ : Pc).broken = t.broken := rfl
    rw [hb]
    have ht : s.extract (flat pre).length ((flat pre).length + t.bs.length) = ⟨t.bs.toArray⟩ := by
      apply ByteArray.ext; apply Array.toList_inj.1
      rw [Lib.extract_data, h, flat_append, flat_cons]
      simp
    simp only [ht]
theorem items_toks (s : ByteArray) : (itemsP s).map strip = (toks s.data.toList).map tokI := by
  unfold itemsP pcs
  rw [pcs_place]
  have := items_place s (toks s.data.toList) [] (by rw [List.nil_append, flat_toks])
  exact this
theorem clus_strip (s : ByteArray) : (clus s).map stripC = clT (toks s.data.toList) := by
  unfold clT clus
  rw [← items_toks, apL_strip, cl_strip]
/-- The tokens of a text of runes. -/
def tokR (r : Int) : Tok := ⟨r.toNat, encodeRune r⟩
theorem tokR_valid {r : Int} (h : vr r) : (tokR r).valid := by
  unfold vr at h
  refine ⟨?_, ?_⟩
  · show r.toNat < 55296 ∨ _; simp only [tokR]; omega
  · show encodeRune r = encodeRune ((r.toNat : Nat) : Int)
    rw [show ((r.toNat : Nat) : Int) = r by omega]
end Go.Proofs.Ytlamcpgnmeileaa
namespace Go.Proofs.Ytlamcpgnmeileaa
open Go.RowKit Go.Lib
set_option linter.unusedVariables false
set_option linter.unusedSimpArgs false
end Go.Proofs.Ytlamcpgnmeileaa
namespace Go.Proofs.Ytlamcpgnmeileaa
open Go.RowKit Go.Lib
set_option linter.unusedVariables false
set_option linter.unusedSimpArgs false
end Go.Proofs.Ytlamcpgnmeileaa
namespace Go.Proofs.Ytlamcpgnmeileaa
open Go.RowKit Go.Lib
set_option linter.unusedVariables false
set_option linter.unusedSimpArgs false
end Go.Proofs.Ytlamcpgnmeileaa
namespace Go.Proofs.Ytlamcpgnmeileaa
open Go.RowKit Go.Lib
set_option linter.unusedVariables false
set_option linter.unusedSimpArgs false

end Go.Proofs.Ytlamcpgnmeileaa
namespace Go.Proofs.Ytlamcpgnmeileaa
open Go.RowKit Go.Lib
set_option linter.unusedVariables false
set_option linter.unusedSimpArgs false
end Go.Proofs.Ytlamcpgnmeileaa
namespace Go.Proofs.Ytlamcpgnmeileaa
open Go.RowKit Go.Lib
set_option linter.unusedVariables false
set_option linter.unusedSimpArgs false
end Go.Proofs.Ytlamcpgnmeileaa
namespace Go.Proofs.Ytlamcpgnmeileaa
open Go.RowKit Go.Lib
set_option linter.unusedVariables false
set_option linter.unusedSimpArgs false
end Go.Proofs.Ytlamcpgnmeileaa
namespace Go.Proofs.Ytlamcpgnmeileaa
open Go.RowKit Go.Lib
set_option linter.unusedVariables false
set_option linter.unusedSimpArgs false
end Go.Proofs.Ytlamcpgnmeileaa
namespace Go.Proofs.Ytlamcpgnmeileaa
open Go.RowKit Go.Lib
set_option linter.unusedVariables false
set_option linter.unusedSimpArgs false

end Go.Proofs.Ytlamcpgnmeileaa
namespace Go.Proofs.Ytlamcpgnmeileaa
open Go.RowKit Go.Lib
set_option linter.unusedVariables false
set_option linter.unusedSimpArgs false
section
variable {R X A B C : Type} {xs : List X}
end
end Go.Proofs.Ytlamcpgnmeileaa
namespace Go.Proofs.Ytlamcpgnmeileaa
open Go.RowKit Go.Lib
set_option linter.unusedVariables false
set_option linter.unusedSimpArgs false
end Go.Proofs.Ytlamcpgnmeileaa
namespace Go.Proofs.Ytlamcpgnmeileaa
open Go.RowKit Go.Lib
set_option linter.unusedVariables false
set_option linter.unusedSimpArgs false
end Go.Proofs.Ytlamcpgnmeileaa
namespace Go.Proofs.Ytlamcpgnmeileaa
open Go.RowKit Go.Lib
set_option linter.unusedVariables false
set_option linter.unusedSimpArgs false

end Go.Proofs.Ytlamcpgnmeileaa
namespace Go.Proofs.Ytlamcpgnmeileaa
open Go.RowKit Go.Lib
set_option linter.unusedVariables false
set_option linter.unusedSimpArgs false
def okTok (t : Tok) : Prop := t.valid ∨ t.broken = true
def itT (x : Itm) : Tok := ⟨if x.Rune < 0 then 65533 else x.Rune.toNat, x.Text.data.toList⟩
theorem itT_tok {t : Tok} (h : okTok t) : itT (tokI t) = t := by
  unfold itT tokI
  rcases h with h | h
  · rw [valid_not_broken h]
    cases t; simp; intro h; omega
  · rw [h]
    have : t.r = 65533 := by unfold Tok.broken at h; simp at h; exact h.1
    cases t; simp at this; subst this; simp
def LM (t : Tok) : Prop := letter (t.r : Int) = true ∨ mrk (t.r : Int) = true
/-- A group of tokens and its cluster. -/
def grpOk (g : List Tok × (Itm × List Itm)) : Prop :=
  (isL g.2.1 = true ∧ g.1 ≠ [] ∧ (∀ t ∈ g.1, t.valid ∧ LM t) ∧ (∀ m ∈ g.2.2, isM m = true) ∧ getM g.2.1.Rune tabS = none) ∨ (isL g.2.1 = false ∧ g.2.2 = [] ∧ ∃ t, g.1 = [t] ∧ okTok t ∧ g.2.1 = tokI t)
theorem tok_mark {t : Tok} (h : okTok t) (hm : isM (tokI t) = true) : t.valid ∧ mrk (t.r : Int) = true := by
  rcases h with h | h
  · refine ⟨h, ?_⟩
    unfold isM tokI at hm
    rw [valid_not_broken h] at hm; exact hm
  · unfold isM tokI at hm
    rw [h] at hm; exact absurd (show mrk (-1) = true from hm) (by decide)
/-- What a token becomes. -/
theorem apI_tok {t : Tok} (h : okTok t) : ∃ x ms, apI (tokI t) = x :: ms ∧ grpOk ([t], (x, ms)) ∧ (∀ m ∈ ms, isM m = true) ∧ (isL x = false → ms = []) ∧ isM x = isM (tokI t) := by
  cases hL : isL (tokI t) with
  | false =>
    exact ⟨tokI t, [], by unfold apI; rw [hL]; rfl, .inr ⟨hL, rfl, t, rfl, h, rfl⟩, by simp, fun _ => rfl, rfl⟩
  | true =>
    have hL' : letter (tokI t).Rune = true := hL
    obtain ⟨b, ms, hq, hb, hn, hms, _⟩ := parts_shape hL'
    have hv : t.valid := by
      rcases h with h | h
      · exact h
      · unfold tokI at hL'; rw [h] at hL'; exact absurd (show letter (-1) = true from hL') (by decide)
    have hlt : letter (t.r : Int) = true := by unfold tokI at hL'; rw [valid_not_broken hv] at hL'; exact hL'
    have hM1 : isM (tokI t) = false := by
      cases e : isM (tokI t) with
      | false => rfl
      | true => have := mrk_not_letter (show mrk (tokI t).Rune = true from e); rw [hL'] at this; cases this
    have hM2 : isM (⟨b, Utf8.encode b, (tokI t).At⟩ : Itm) = false := by
      cases e : isM (⟨b, Utf8.encode b, (tokI t).At⟩ : Itm) with
      | false => rfl
      | true => have := mrk_not_letter (show mrk b = true from e); rw [hb] at this; cases this
    have hmm : ∀ m ∈ ms.map (fun r => (⟨r, Utf8.encode r, (tokI t).At⟩ : Itm)), isM m = true := fun m hm => by
      obtain ⟨r, hr, rfl⟩ := List.mem_map.1 hm; exact hms r hr
    exact ⟨⟨b, Utf8.encode b, (tokI t).At⟩, ms.map fun r => ⟨r, Utf8.encode r, (tokI t).At⟩, by unfold apI; rw [hL, hq]; rfl, .inl ⟨hb, by simp, fun u hu => by simp at hu; subst hu; exact ⟨hv, .inl hlt⟩, hmm, hn⟩, hmm,
      (fun e => by rw [show isL (⟨b, Utf8.encode b, (tokI t).At⟩ : Itm) = true from hb] at e; cases e), by rw [hM1, hM2]⟩
theorem groupsF : ∀ (ts gs : List Tok) (c : Itm × List Itm), (∀ t ∈ ts, okTok t) → grpOk (gs, c) → ∃ G : List (List Tok × (Itm × List Itm)), gs ++ ts = G.flatMap (·.1) ∧ clF (some c) (apL (ts.map tokI)) = G.map (·.2) ∧ ∀ g ∈ G, grpOk g
  | [], gs, c, _, hc => ⟨[(gs, c)], by simp, by simp [apL, clF], by simpa using hc⟩
  | t :: ts, gs, c, hok, hc => by
    have ht := hok t (List.mem_cons_self ..)
    have hts := fun u hu => hok u (List.mem_cons_of_mem _ hu)
    have hap : apL ((t :: ts).map tokI) = apI (tokI t) ++ apL (ts.map tokI) := by unfold apL; rw [List.map_cons, List.flatMap_cons]
    obtain ⟨x, ms, h1, h2, h3, h4, h5⟩ := apI_tok ht
    rw [hap]
    cases hk : (isL c.1 && isM (tokI t)) with
    | true =>
      rw [Bool.and_eq_true] at hk
      have hL : isL (tokI t) = false := mrk_not_letter (show mrk (tokI t).Rune = true from hk.2)
      have ha : apI (tokI t) = [tokI t] := by unfold apI; rw [hL]; rfl
      obtain ⟨hv, hm⟩ := tok_mark ht hk.2
      have hc' : grpOk (gs ++ [t], (c.1, c.2 ++ [tokI t])) := by
        rcases hc with ⟨g1, g2, g3, g4, g5⟩ | ⟨g1, _⟩
        · refine .inl ⟨g1, by simp, fun u hu => ?_, fun m hm2 => ?_, g5⟩
          · rcases List.mem_append.1 hu with hu | hu
            · exact g3 u hu
            · simp at hu; subst hu; exact ⟨hv, .inr hm⟩
          · rcases List.mem_append.1 hm2 with hm2 | hm2
            · exact g4 m hm2
            · simp at hm2; subst hm2; exact hk.2
        · rw [hk.1] at g1; cases g1
      obtain ⟨G, e1, e2, e3⟩ := groupsF ts (gs ++ [t]) (c.1, c.2 ++ [tokI t]) hts hc'
      refine ⟨G, by rw [← e1]; simp, ?_, e3⟩
      rw [ha, ← e2, List.singleton_append]
      show (if isL c.1 && isM (tokI t) then clF (some (c.1, c.2 ++ [tokI t])) (apL (ts.map tokI)) else _) = _
      rw [hk.1, hk.2]; rfl
    | false =>
      obtain ⟨G, e1, e2, e3⟩ := groupsF ts [t] (x, ms) hts h2
      refine ⟨(gs, c) :: G, by rw [List.flatMap_cons, ← e1]; simp, ?_, fun g hg => ?_⟩
      · rw [h1, List.cons_append, List.map_cons, ← e2]
        show (if isL c.1 && isM x then _ else c :: clF (some (x, [])) (ms ++ apL (ts.map tokI))) = _
        rw [h5, hk]
        have h6 : clF (some (x, [])) (ms ++ apL (ts.map tokI)) = clF (some (x, ms)) (apL (ts.map tokI)) := by
          cases hx : isL x with
          | true => rw [clF_marks x hx _ ms [] h3]; rfl
          | false => rw [h4 hx]; rfl
        rw [← h6]; rfl
      · rcases List.mem_cons.1 hg with rfl | hg
        · exact hc
        · exact e3 g hg
theorem groups (ts : List Tok) (hok : ∀ t ∈ ts, okTok t) : ∃ G : List (List Tok × (Itm × List Itm)), ts = G.flatMap (·.1) ∧ clT ts = G.map (·.2) ∧ ∀ g ∈ G, grpOk g := by
  cases ts with
  | nil => exact ⟨[], rfl, rfl, by simp⟩
  | cons t ts =>
    obtain ⟨x, ms, h1, h2, h3, h4, h5⟩ := apI_tok (hok t (List.mem_cons_self ..))
    obtain ⟨G, e1, e2, e3⟩ := groupsF ts [t] (x, ms) (fun u hu => hok u (List.mem_cons_of_mem _ hu)) h2
    refine ⟨G, by rw [← e1]; rfl, ?_, e3⟩
    unfold clT
    have hap : apL ((t :: ts).map tokI) = apI (tokI t) ++ apL (ts.map tokI) := by unfold apL; rw [List.map_cons, List.flatMap_cons]
    rw [hap, h1, ← e2]
    show clF (some (x, [])) (ms ++ apL (ts.map tokI)) = _
    cases hx : isL x with
    | true => rw [clF_marks x hx _ ms [] h3]; rfl
    | false => rw [h4 hx]; rfl
/-- How a form lays out a cluster. -/
structure OutOk (out : Itm × List Itm → List Tok) : Prop where
  other : ∀ x, isL x = false → out (x, []) = [itT x]
  ne : ∀ c, isL c.1 = true → out c ≠ []
  val : ∀ c, isL c.1 = true → getM c.1.Rune tabS = none → (∀ m ∈ c.2, isM m = true) → ∀ t ∈ out c, t.valid ∧ LM t
theorem out_sub {out : Itm × List Itm → List Tok} (ho : OutOk out) : ∀ (G : List (List Tok × (Itm × List Itm))), (∀ g ∈ G, grpOk g) → Sub (G.flatMap (·.1)) ((G.map (·.2)).flatMap out)
  | [], _ => Sub.nil
  | g :: G, h => by
    have ih := out_sub ho G (fun x hx => h x (List.mem_cons_of_mem _ hx))
    rw [List.flatMap_cons, List.map_cons, List.flatMap_cons]
    rcases h g (List.mem_cons_self ..) with ⟨g1, g2, g3, g4, g5⟩ | ⟨g1, g2, t, g3, g4, g5⟩
    · exact Sub.val g2 (ho.ne _ g1) (fun t ht => (g3 t ht).1) (fun t ht => (ho.val _ g1 g5 g4 t ht).1) ih
    · have e : out g.2 = [t] := by
        rw [show g.2 = (g.2.1, []) from Prod.ext rfl g2, ho.other _ g1, g5, itT_tok g4]
      rw [g3, e]
      rcases g4 with g4 | g4
      · exact Sub.one g4 (by simp) (by simpa using g4) ih
      · exact Sub.brk g4 ih
/-- The tokens of a form. -/
theorem out_toks {out : Itm × List Itm → List Tok} (ho : OutOk out) {s x : ByteArray} (hx : x.data.toList = flat ((clT (toks s.data.toList)).flatMap out)) : toks x.data.toList = (clT (toks s.data.toList)).flatMap out := by
  obtain ⟨G, e1, e2, e3⟩ := groups (toks s.data.toList) (toks_ok _)
  rw [hx, e2]
  have := (out_sub ho G e3).good (by rw [← e1]; exact good_toks _)
  exact this
end Go.Proofs.Ytlamcpgnmeileaa
namespace Go.Proofs.Ytlamcpgnmeileaa
open Go.RowKit Go.Lib
set_option linter.unusedVariables false
set_option linter.unusedSimpArgs false
theorem size_listN (s : ByteArray) : s.data.toList.length = s.size := by rw [Array.length_toList]; rfl
end Go.Proofs.Ytlamcpgnmeileaa
namespace Go.Proofs.Ytlamcpgnmeileaa
open Go.RowKit Go.Lib
set_option linter.unusedVariables false
set_option linter.unusedSimpArgs false
/-- A form that lays runes out for a letter and its marks. -/
def mkO (g : Itm × List Itm → List Int) (c : Itm × List Itm) : List Tok := if isL c.1 then (g c).map tokR else [itT c.1]
theorem strOf_flat (rs : List Int) : (strOf rs).data.toList = flat (rs.map tokR) := by
  rw [strOf_J]
  induction rs with
  | nil => rfl
  | cons r rs ih =>
    rw [J_cons, List.map_cons, flat_cons, ← ih]
    have : (Utf8.encode r).data.toList = encodeRune r := encode_list r
    show (Utf8.encode r ++ J Utf8.encode rs).data.toList = encodeRune r ++ _
    rw [← this]; simp
theorem letter_vr {r : Int} (h : letter r = true) : vr r := by have := letter_rng r h; unfold vr; omega
theorem mrk_vr {r : Int} (h : mrk r = true) : vr r := by unfold mrk at h; simp at h; unfold vr; omega
theorem tokR_LM {r : Int} (h : letter r = true ∨ mrk r = true) : (tokR r).valid ∧ LM (tokR r) := by
  have hv : vr r := by rcases h with h | h; exact letter_vr h; exact mrk_vr h
  refine ⟨tokR_valid hv, ?_⟩
  unfold LM
  have : (((tokR r).r : Nat) : Int) = r := by show ((r.toNat : Nat) : Int) = r; unfold vr at hv; omega
  rw [this]; exact h
theorem mkO_ok {g : Itm × List Itm → List Int} (h0 : ∀ c, isL c.1 = true → g c ≠ []) (h : ∀ c, isL c.1 = true → getM c.1.Rune tabS = none → (∀ m ∈ c.2, isM m = true) → ∀ r ∈ g c, letter r = true ∨ mrk r = true) : OutOk (mkO g) where
  other x hx := by unfold mkO; rw [hx]; rfl
  ne c hc := by unfold mkO; rw [hc]; simpa using h0 c hc
  val c hc hn hm t ht := by
    unfold mkO at ht; rw [hc] at ht
    obtain ⟨r, hr, rfl⟩ := List.mem_map.1 (show t ∈ (g c).map tokR from ht)
    exact tokR_LM (h c hc hn hm r hr)
theorem flat_J (f : Itm × List Itm → ByteArray) (out : Itm × List Itm → List Tok) : ∀ l : List (Itm × List Itm), (∀ c ∈ l, (f c).data.toList = flat (out c)) → (J f l).data.toList = flat (l.flatMap out)
  | [], _ => rfl
  | c :: l, h => by
    rw [J_cons, List.flatMap_cons, flat_append, ← flat_J f out l (fun d hd => h d (List.mem_cons_of_mem _ hd)), ← h c (List.mem_cons_self ..)]
    simp
theorem okT_strip {x : Itm} (h : okT x) : okT (strip x) := h
/-- The bytes of a form. -/
theorem form_bytes {f : Itm × List Itm → ByteArray} {g : Itm × List Itm → List Int} (hf : ∀ c, f (stripC c) = f c)
    (h1 : ∀ c, isL c.1 = true → okT c.1 → (∀ m ∈ c.2, isM m = true ∧ okT m) → f c = strOf (g c)) (h2 : ∀ c, isL c.1 = false → c.2 = [] → f c = c.1.Text)
    (s : ByteArray) (hs : s.size ≤ 65536) : (J f (clus s)).data.toList = flat ((clT (toks s.data.toList)).flatMap (mkO g)) := by
  have e : J f (clus s) = J f (clT (toks s.data.toList)) := by
    rw [← clus_strip, J_map]; exact J_congr fun c _ => (hf c).symm
  rw [e]
  refine flat_J f _ _ fun c hc => ?_
  rw [← clus_strip] at hc
  obtain ⟨d, hd, rfl⟩ := List.mem_map.1 hc
  obtain ⟨o1, o2, o3, _⟩ := (clus_ok hs).2 d hd
  unfold mkO
  cases hL : isL (stripC d).1 with
  | true =>
    rw [h1 _ hL (okT_strip o1) (fun m hm => by obtain ⟨y, hy, rfl⟩ := List.mem_map.1 (show m ∈ d.2.map strip from hm); exact ⟨(o2 y hy).1, okT_strip (o2 y hy).2⟩), strOf_flat]; rfl
  | false =>
    rw [h2 _ hL (by show d.2.map strip = []; rw [o3 hL]; rfl)]
    show _ = flat [itT (stripC d).1]
    simp [flat, itT]
def gF (c : Itm × List Itm) : List Int := runesOf (plainR (lower c.1.Rune))
/-! ### Fold -/
def foldLet (r : Int) : Bool := !letter r || (decide (plainR (lower r) = strOf (runesOf (plainR (lower r)))) && !(runesOf (plainR (lower r))).isEmpty &&
  ((getM r tabS).isSome || (runesOf (plainR (lower r))).all fun x => letter x && !great x && (getM x tabS).isNone && decide (plainR x = Utf8.encode x) && decide (lower x = x)))
set_option maxRecDepth 100000 in
theorem foldLets : ((List.range 1120).all fun n => foldLet (n : Int)) = true := by decide +kernel
theorem foldLet_of {r : Int} (h : letter r = true) : plainR (lower r) = strOf (runesOf (plainR (lower r))) ∧ runesOf (plainR (lower r)) ≠ [] ∧ (getM r tabS = none → ∀ x ∈ runesOf (plainR (lower r)), letter x = true ∧ great x = false ∧ getM x tabS = none ∧ plainR x = Utf8.encode x ∧ lower x = x) := by
  have hr := letter_rng r h
  have := List.all_eq_true.1 foldLets r.toNat (List.mem_range.2 (by omega))
  rw [show ((r.toNat : Nat) : Int) = r by omega] at this
  unfold foldLet at this
  rw [h] at this
  simp only [Bool.not_true, Bool.false_or, Bool.and_eq_true, decide_eq_true_eq, Bool.or_eq_true] at this
  obtain ⟨⟨h1, h2⟩, h3⟩ := this
  refine ⟨h1, ?_, fun hn x hx => ?_⟩
  · intro e; rw [e] at h2; cases h2
  · rw [hn] at h3
    rcases h3 with h3 | h3
    · cases h3
    · have := List.all_eq_true.1 h3 x hx
      simp only [Bool.and_eq_true, decide_eq_true_eq, Bool.not_eq_true', Option.isNone_iff_eq_none] at this
      obtain ⟨⟨⟨⟨a, b⟩, c⟩, d⟩, e⟩ := this
      exact ⟨a, b, c, d, e⟩
theorem gF_ok : OutOk (mkO gF) := mkO_ok (fun c hc => (foldLet_of hc).2.1) (fun c hc hn hm r hr => .inl ((foldLet_of hc).2.2 hn r hr).1)
theorem foldS_bytes (s : ByteArray) (hs : s.size ≤ 65536) : (foldS s).data.toList = flat ((clT (toks s.data.toList)).flatMap (mkO gF)) := by
  refine form_bytes foldC_strip (fun c hL h1 h2 => ?_) (fun c hL h2 => ?_) s hs
  · unfold foldC foldI gF
    rw [hL]; exact (foldLet_of hL).1
  · unfold foldC foldI; rw [hL]; rfl
end Go.Proofs.Ytlamcpgnmeileaa
namespace Go.Proofs.Ytlamcpgnmeileaa
open Go.RowKit Go.Lib
set_option linter.unusedVariables false
set_option linter.unusedSimpArgs false
def clOk (c : Itm × List Itm) : Prop := (isL c.1 = true ∧ (∀ m ∈ c.2, isM m = true) ∧ getM c.1.Rune tabS = none) ∨ (isL c.1 = false ∧ c.2 = [] ∧ ∃ t, okTok t ∧ c.1 = tokI t)
theorem clT_clOk {ts : List Tok} (hok : ∀ t ∈ ts, okTok t) : ∀ c ∈ clT ts, clOk c := by
  obtain ⟨G, e1, e2, e3⟩ := groups ts hok
  intro c hc
  rw [e2] at hc
  obtain ⟨g, hg, rfl⟩ := List.mem_map.1 hc
  rcases e3 g hg with ⟨g1, g2, g3, g4, g5⟩ | ⟨g1, g2, t, g3, g4, g5⟩
  · exact .inl ⟨g1, g4, g5⟩
  · exact .inr ⟨g1, g2, t, g4, g5⟩
theorem apL_cons (x : Itm) (xs : List Itm) : apL (x :: xs) = apI x ++ apL xs := by unfold apL; rw [List.flatMap_cons]
/-! ### A letter and its marks, as runes -/
theorem mrk_letter {r : Int} (h : letter r = true) : mrk r = false := by
  cases e : mrk r with
  | false => rfl
  | true => have := mrk_not_letter e; rw [h] at this; cases this
end Go.Proofs.Ytlamcpgnmeileaa
namespace Go.Proofs.Ytlamcpgnmeileaa
open Go.RowKit Go.Lib
set_option linter.unusedVariables false
set_option linter.unusedSimpArgs false

end Go.Proofs.Ytlamcpgnmeileaa
namespace Go.Proofs.Ytlamcpgnmeileaa
open Go.RowKit Go.Lib
set_option linter.unusedVariables false
set_option linter.unusedSimpArgs false

end Go.Proofs.Ytlamcpgnmeileaa
namespace Go.Proofs.Ytlamcpgnmeileaa
open Go.RowKit Go.Lib
set_option linter.unusedVariables false
set_option linter.unusedSimpArgs false
theorem foldS_size (s : ByteArray) (hs : s.size ≤ 65536) : (foldS s).size ≤ 786432 := by
  obtain ⟨hl, hc⟩ := clus_ok hs
  have := J_size foldC 4 (l := clus s) (fun c hcm => foldI_size (hc c hcm).1)
  unfold foldS; omega
end Go.Proofs.Ytlamcpgnmeileaa
