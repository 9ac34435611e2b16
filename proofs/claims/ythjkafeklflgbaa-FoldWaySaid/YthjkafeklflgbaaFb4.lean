/-
  Texts laid together: LfG, LfP, LfT, Qt, PlB, Qa, Qb, Qc, Qd, LfR, Qr. Nothing is assumed.
-/
import Derived.Test.YthjkafeklflgbaaFb3
namespace Go.Proofs.Ythjkafeklflgbaa
open Go.RowKit Go.Lib
set_option linter.unusedVariables false
set_option linter.unusedSimpArgs false
def str_f9f7e721 : ByteArray := ⟨(List.toArray (List.append [195, 159, 115, 115, 32, 195, 166, 97, 101, 32, 195, 184, 111, 32, 195, 176, 100, 32, 195, 190, 116, 104, 32, 196, 145, 100, 32, 196, 167, 104, 32, 196, 177, 105, 32, 196, 179, 105, 106] [32, 196, 184, 113, 32, 197, 128, 108, 32, 197, 130, 108, 32, 197, 137, 110, 32, 197, 139, 110, 103, 32, 197, 147, 111, 101, 32, 197, 167, 116, 32, 197, 191, 115, 32, 207, 130, 207, 131, 32]))⟩
def fold_Low_v (r1 : Int) : Option Bool := joinK (fun (j1 : Bool → Option Bool) => bcond (decide ((790 : Int) ≤ r1)) ( bcond (decide ((r1 : Int) ≤ 793)) ( j1 (decide ((r1 : Int) ≤ 793))
) ( bcond (decide ((796 : Int) ≤ r1)) ( bcond (decide ((r1 : Int) ≤ 800)) ( j1 (decide ((r1 : Int) ≤ 800))
) ( bcond (decide ((803 : Int) ≤ r1)) ( bcond (decide ((r1 : Int) ≤ 819)) ( j1 (decide ((r1 : Int) ≤ 819))
) ( bcond (decide ((825 : Int) ≤ r1)) ( bcond (decide ((r1 : Int) ≤ 828)) ( j1 (decide ((r1 : Int) ≤ 828))
) ( bcond (decide ((837 : Int) ≤ r1)) ( j1 (decide ((r1 : Int) ≤ 841))
) ( j1 false
)
)
) ( bcond (decide ((837 : Int) ≤ r1)) ( j1 (decide ((r1 : Int) ≤ 841))
) ( j1 false
)
)
)
) ( bcond (decide ((825 : Int) ≤ r1)) ( bcond (decide ((r1 : Int) ≤ 828)) ( j1 (decide ((r1 : Int) ≤ 828))
) ( bcond (decide ((837 : Int) ≤ r1)) ( j1 (decide ((r1 : Int) ≤ 841))
) ( j1 false
)
)
) ( bcond (decide ((837 : Int) ≤ r1)) ( j1 (decide ((r1 : Int) ≤ 841))
) ( j1 false
)
)
)
)
) ( bcond (decide ((803 : Int) ≤ r1)) ( bcond (decide ((r1 : Int) ≤ 819)) ( j1 (decide ((r1 : Int) ≤ 819))
) ( bcond (decide ((825 : Int) ≤ r1)) ( bcond (decide ((r1 : Int) ≤ 828)) ( j1 (decide ((r1 : Int) ≤ 828))
) ( bcond (decide ((837 : Int) ≤ r1)) ( j1 (decide ((r1 : Int) ≤ 841))
) ( j1 false
)
)
) ( bcond (decide ((837 : Int) ≤ r1)) ( j1 (decide ((r1 : Int) ≤ 841))
) ( j1 false
)
)
)
) ( bcond (decide ((825 : Int) ≤ r1)) ( bcond (decide ((r1 : Int) ≤ 828)) ( j1 (decide ((r1 : Int) ≤ 828))
) ( bcond (decide ((837 : Int) ≤ r1)) ( j1 (decide ((r1 : Int) ≤ 841))
) ( j1 false
)
)
) ( bcond (decide ((837 : Int) ≤ r1)) ( j1 (decide ((r1 : Int) ≤ 841))
) ( j1 false
)
)
)
)
)
) ( bcond (decide ((796 : Int) ≤ r1)) ( bcond (decide ((r1 : Int) ≤ 800)) ( j1 (decide ((r1 : Int) ≤ 800))
) ( bcond (decide ((803 : Int) ≤ r1)) ( bcond (decide ((r1 : Int) ≤ 819)) ( j1 (decide ((r1 : Int) ≤ 819))
) ( bcond (decide ((825 : Int) ≤ r1)) ( bcond (decide ((r1 : Int) ≤ 828)) ( j1 (decide ((r1 : Int) ≤ 828))
) ( bcond (decide ((837 : Int) ≤ r1)) ( j1 (decide ((r1 : Int) ≤ 841))
) ( j1 false
)
)
) ( bcond (decide ((837 : Int) ≤ r1)) ( j1 (decide ((r1 : Int) ≤ 841))
) ( j1 false
)
)
)
) ( bcond (decide ((825 : Int) ≤ r1)) ( bcond (decide ((r1 : Int) ≤ 828)) ( j1 (decide ((r1 : Int) ≤ 828))
) ( bcond (decide ((837 : Int) ≤ r1)) ( j1 (decide ((r1 : Int) ≤ 841))
) ( j1 false
)
)
) ( bcond (decide ((837 : Int) ≤ r1)) ( j1 (decide ((r1 : Int) ≤ 841))
) ( j1 false
)
)
)
)
) ( bcond (decide ((803 : Int) ≤ r1)) ( bcond (decide ((r1 : Int) ≤ 819)) ( j1 (decide ((r1 : Int) ≤ 819))
) ( bcond (decide ((825 : Int) ≤ r1)) ( bcond (decide ((r1 : Int) ≤ 828)) ( j1 (decide ((r1 : Int) ≤ 828))
) ( bcond (decide ((837 : Int) ≤ r1)) ( j1 (decide ((r1 : Int) ≤ 841))
) ( j1 false
)
)
) ( bcond (decide ((837 : Int) ≤ r1)) ( j1 (decide ((r1 : Int) ≤ 841))
) ( j1 false
)
)
)
) ( bcond (decide ((825 : Int) ≤ r1)) ( bcond (decide ((r1 : Int) ≤ 828)) ( j1 (decide ((r1 : Int) ≤ 828))
) ( bcond (decide ((837 : Int) ≤ r1)) ( j1 (decide ((r1 : Int) ≤ 841))
) ( j1 false
)
)
) ( bcond (decide ((837 : Int) ≤ r1)) ( j1 (decide ((r1 : Int) ≤ 841))
) ( j1 false
)
)
)
)
)
) (fun (x1 : Bool) => bcond (x1) ( some true
) ( joinK (fun (j2 : Bool → Option Bool) => bcond (decide ((845 : Int) ≤ r1)) ( bcond (decide ((r1 : Int) ≤ 846)) ( j2 (decide ((r1 : Int) ≤ 846))
) ( bcond (decide ((851 : Int) ≤ r1)) ( bcond (decide ((r1 : Int) ≤ 854)) ( j2 (decide ((r1 : Int) ≤ 854))
) ( bcond (decide ((857 : Int) ≤ r1)) ( j2 (decide ((r1 : Int) ≤ 858))
) ( j2 false
)
)
) ( bcond (decide ((857 : Int) ≤ r1)) ( j2 (decide ((r1 : Int) ≤ 858))
) ( j2 false
)
)
)
) ( bcond (decide ((851 : Int) ≤ r1)) ( bcond (decide ((r1 : Int) ≤ 854)) ( j2 (decide ((r1 : Int) ≤ 854))
) ( bcond (decide ((857 : Int) ≤ r1)) ( j2 (decide ((r1 : Int) ≤ 858))
) ( j2 false
)
)
) ( bcond (decide ((857 : Int) ≤ r1)) ( j2 (decide ((r1 : Int) ≤ 858))
) ( j2 false
)
)
)
) (fun (x2 : Bool) => bcond (x2) ( some true
) ( some false
)
)
)
)
set_option maxRecDepth 100000 in
set_option maxHeartbeats 4000000 in
theorem fold_Low_fn {r1 : Int} {r : Bool} (h : fold_Low_v r1 = some r) : FnP Try.prog 35 [.int .i32 r1] (.bool r) := by
 unfold fold_Low_v at h
 refine FnP.intro Try.func35 rfl Try.ntmps35 (by simp) ?_
 intro w0 K
 refine TC.seq (TC.region (TO.assign rfl dc rfl (TO.nil (TX.next (TC.seq (TC.block ?_))))))
 obtain ⟨j1, hj1, h⟩ := joinE h
 refine TC.cutN (β := Bool) 0 rfl (fun b => j1 b = some r) (fun b => []) (fun b => [(0, .int .i32 r1), (3, .bool b)]) (fun b => []) (fun cut => ?_) ?_
 ·
  refine cut (TC.seq (TC.region (TO.move rfl dc rfl (TO.bin rfl dc rfl rfl bin_geq (TO.move rfl dc rfl ?_)))))
  refine TO.split (s := 6) rfl (fun hb1 => ?_) (fun hb1 => ?_)
  ·
   have h := condT hb1 h
   refine TO.move rfl dc rfl (TO.bin rfl dc rfl rfl bin_leq (TO.pick (b := true) rfl dc rfl rfl (TO.assign rfl dc rfl (TO.nil (TX.next ?_)))))
   refine TC.condB rfl (fun hb2 => ?_) (fun hb2 => ?_)
   ·
    have h := condT hb2 h
    refine TC.skip ?_
    exact TX.meetD (decide ((r1 : Int) ≤ 793)) h rfl (Sbs.cons rfl (Sbs.cons rfl (Sbs.nil))) Splits.nil
   ·
    have h := condF hb2 h
    refine TC.seq (TC.region (TO.move rfl dc rfl (TO.bin rfl dc rfl rfl bin_geq (TO.move rfl dc rfl ?_))))
    refine TO.split (s := 12) rfl (fun hb3 => ?_) (fun hb3 => ?_)
    ·
     have h := condT hb3 h
     refine TO.move rfl dc rfl (TO.bin rfl dc rfl rfl bin_leq (TO.pick (b := true) rfl dc rfl rfl (TO.assign rfl dc rfl (TO.nil (TX.next ?_)))))
     refine TC.condB rfl (fun hb4 => ?_) (fun hb4 => ?_)
     ·
      have h := condT hb4 h
      refine TC.skip ?_
      exact TX.meetD (decide ((r1 : Int) ≤ 800)) h rfl (Sbs.cons rfl (Sbs.cons rfl (Sbs.nil))) Splits.nil
     ·
      have h := condF hb4 h
      refine TC.seq (TC.region (TO.move rfl dc rfl (TO.bin rfl dc rfl rfl bin_geq (TO.move rfl dc rfl ?_))))
      refine TO.split (s := 18) rfl (fun hb5 => ?_) (fun hb5 => ?_)
      ·
       have h := condT hb5 h
       refine TO.move rfl dc rfl (TO.bin rfl dc rfl rfl bin_leq (TO.pick (b := true) rfl dc rfl rfl (TO.assign rfl dc rfl (TO.nil (TX.next ?_)))))
       refine TC.condB rfl (fun hb6 => ?_) (fun hb6 => ?_)
       ·
        have h := condT hb6 h
        refine TC.skip ?_
        exact TX.meetD (decide ((r1 : Int) ≤ 819)) h rfl (Sbs.cons rfl (Sbs.cons rfl (Sbs.nil))) Splits.nil
       ·
        have h := condF hb6 h
        refine TC.seq (TC.region (TO.move rfl dc rfl (TO.bin rfl dc rfl rfl bin_geq (TO.move rfl dc rfl ?_))))
        refine TO.split (s := 24) rfl (fun hb7 => ?_) (fun hb7 => ?_)
        ·
         have h := condT hb7 h
         refine TO.move rfl dc rfl (TO.bin rfl dc rfl rfl bin_leq (TO.pick (b := true) rfl dc rfl rfl (TO.assign rfl dc rfl (TO.nil (TX.next ?_)))))
         refine TC.condB rfl (fun hb8 => ?_) (fun hb8 => ?_)
         ·
          have h := condT hb8 h
          refine TC.skip ?_
          exact TX.meetD (decide ((r1 : Int) ≤ 828)) h rfl (Sbs.cons rfl (Sbs.cons rfl (Sbs.nil))) Splits.nil
         ·
          have h := condF hb8 h
          refine TC.region (TO.move rfl dc rfl (TO.bin rfl dc rfl rfl bin_geq (TO.move rfl dc rfl ?_)))
          refine TO.split (s := 30) rfl (fun hb9 => ?_) (fun hb9 => ?_)
          ·
           have h := condT hb9 h
           refine TO.move rfl dc rfl (TO.bin rfl dc rfl rfl bin_leq (TO.pick (b := true) rfl dc rfl rfl (TO.assign rfl dc rfl (TO.nil ?_))))
           exact TX.meetD (decide ((r1 : Int) ≤ 841)) h rfl (Sbs.cons rfl (Sbs.cons rfl (Sbs.nil))) Splits.nil
          ·
           have h := condF hb9 h
           refine TO.skip rfl dc (TO.skip rfl dc (TO.pick (b := false) rfl dc rfl rfl (TO.assign rfl dc rfl (TO.nil ?_))))
           exact TX.meetD false h rfl (Sbs.cons rfl (Sbs.cons rfl (Sbs.nil))) Splits.nil
        ·
         have h := condF hb7 h
         refine TO.skip rfl dc (TO.skip rfl dc (TO.pick (b := false) rfl dc rfl rfl (TO.assign rfl dc rfl (TO.nil (TX.next (TC.condF rfl (TC.region (TO.move rfl dc rfl (TO.bin rfl dc rfl rfl bin_geq (TO.move rfl dc rfl ?_))))))))))
         refine TO.split (s := 30) rfl (fun hb10 => ?_) (fun hb10 => ?_)
         ·
          have h := condT hb10 h
          refine TO.move rfl dc rfl (TO.bin rfl dc rfl rfl bin_leq (TO.pick (b := true) rfl dc rfl rfl (TO.assign rfl dc rfl (TO.nil ?_))))
          exact TX.meetD (decide ((r1 : Int) ≤ 841)) h rfl (Sbs.cons rfl (Sbs.cons rfl (Sbs.nil))) Splits.nil
         ·
          have h := condF hb10 h
          refine TO.skip rfl dc (TO.skip rfl dc (TO.pick (b := false) rfl dc rfl rfl (TO.assign rfl dc rfl (TO.nil ?_))))
          exact TX.meetD false h rfl (Sbs.cons rfl (Sbs.cons rfl (Sbs.nil))) Splits.nil
      ·
       have h := condF hb5 h
       refine TO.skip rfl dc (TO.skip rfl dc (TO.pick (b := false) rfl dc rfl rfl (TO.assign rfl dc rfl (TO.nil (TX.next (TC.condF rfl (TC.seq (TC.region (TO.move rfl dc rfl (TO.bin rfl dc rfl rfl bin_geq (TO.move rfl dc rfl ?_)))))))))))
       refine TO.split (s := 24) rfl (fun hb11 => ?_) (fun hb11 => ?_)
       ·
        have h := condT hb11 h
        refine TO.move rfl dc rfl (TO.bin rfl dc rfl rfl bin_leq (TO.pick (b := true) rfl dc rfl rfl (TO.assign rfl dc rfl (TO.nil (TX.next ?_)))))
        refine TC.condB rfl (fun hb12 => ?_) (fun hb12 => ?_)
        ·
         have h := condT hb12 h
         refine TC.skip ?_
         exact TX.meetD (decide ((r1 : Int) ≤ 828)) h rfl (Sbs.cons rfl (Sbs.cons rfl (Sbs.nil))) Splits.nil
        ·
         have h := condF hb12 h
         refine TC.region (TO.move rfl dc rfl (TO.bin rfl dc rfl rfl bin_geq (TO.move rfl dc rfl ?_)))
         refine TO.split (s := 30) rfl (fun hb13 => ?_) (fun hb13 => ?_)
         ·
          have h := condT hb13 h
          refine TO.move rfl dc rfl (TO.bin rfl dc rfl rfl bin_leq (TO.pick (b := true) rfl dc rfl rfl (TO.assign rfl dc rfl (TO.nil ?_))))
          exact TX.meetD (decide ((r1 : Int) ≤ 841)) h rfl (Sbs.cons rfl (Sbs.cons rfl (Sbs.nil))) Splits.nil
         ·
          have h := condF hb13 h
          refine TO.skip rfl dc (TO.skip rfl dc (TO.pick (b := false) rfl dc rfl rfl (TO.assign rfl dc rfl (TO.nil ?_))))
          exact TX.meetD false h rfl (Sbs.cons rfl (Sbs.cons rfl (Sbs.nil))) Splits.nil
       ·
        have h := condF hb11 h
        refine TO.skip rfl dc (TO.skip rfl dc (TO.pick (b := false) rfl dc rfl rfl (TO.assign rfl dc rfl (TO.nil (TX.next (TC.condF rfl (TC.region (TO.move rfl dc rfl (TO.bin rfl dc rfl rfl bin_geq (TO.move rfl dc rfl ?_))))))))))
        refine TO.split (s := 30) rfl (fun hb14 => ?_) (fun hb14 => ?_)
        ·
         have h := condT hb14 h
         refine TO.move rfl dc rfl (TO.bin rfl dc rfl rfl bin_leq (TO.pick (b := true) rfl dc rfl rfl (TO.assign rfl dc rfl (TO.nil ?_))))
         exact TX.meetD (decide ((r1 : Int) ≤ 841)) h rfl (Sbs.cons rfl (Sbs.cons rfl (Sbs.nil))) Splits.nil
        ·
         have h := condF hb14 h
         refine TO.skip rfl dc (TO.skip rfl dc (TO.pick (b := false) rfl dc rfl rfl (TO.assign rfl dc rfl (TO.nil ?_))))
         exact TX.meetD false h rfl (Sbs.cons rfl (Sbs.cons rfl (Sbs.nil))) Splits.nil
    ·
     have h := condF hb3 h
     refine TO.skip rfl dc (TO.skip rfl dc (TO.pick (b := false) rfl dc rfl rfl (TO.assign rfl dc rfl (TO.nil (TX.next (TC.condF rfl (TC.seq (TC.region (TO.move rfl dc rfl (TO.bin rfl dc rfl rfl bin_geq (TO.move rfl dc rfl ?_)))))))))))
     refine TO.split (s := 18) rfl (fun hb15 => ?_) (fun hb15 => ?_)
     ·
      have h := condT hb15 h
      refine TO.move rfl dc rfl (TO.bin rfl dc rfl rfl bin_leq (TO.pick (b := true) rfl dc rfl rfl (TO.assign rfl dc rfl (TO.nil (TX.next ?_)))))
      refine TC.condB rfl (fun hb16 => ?_) (fun hb16 => ?_)
      ·
       have h := condT hb16 h
       refine TC.skip ?_
       exact TX.meetD (decide ((r1 : Int) ≤ 819)) h rfl (Sbs.cons rfl (Sbs.cons rfl (Sbs.nil))) Splits.nil
      ·
       have h := condF hb16 h
       refine TC.seq (TC.region (TO.move rfl dc rfl (TO.bin rfl dc rfl rfl bin_geq (TO.move rfl dc rfl ?_))))
       refine TO.split (s := 24) rfl (fun hb17 => ?_) (fun hb17 => ?_)
       ·
        have h := condT hb17 h
        refine TO.move rfl dc rfl (TO.bin rfl dc rfl rfl bin_leq (TO.pick (b := true) rfl dc rfl rfl (TO.assign rfl dc rfl (TO.nil (TX.next ?_)))))
        refine TC.condB rfl (fun hb18 => ?_) (fun hb18 => ?_)
        ·
         have h := condT hb18 h
         refine TC.skip ?_
         exact TX.meetD (decide ((r1 : Int) ≤ 828)) h rfl (Sbs.cons rfl (Sbs.cons rfl (Sbs.nil))) Splits.nil
        ·
         have h := condF hb18 h
         refine TC.region (TO.move rfl dc rfl (TO.bin rfl dc rfl rfl bin_geq (TO.move rfl dc rfl ?_)))
         refine TO.split (s := 30) rfl (fun hb19 => ?_) (fun hb19 => ?_)
         ·
          have h := condT hb19 h
          refine TO.move rfl dc rfl (TO.bin rfl dc rfl rfl bin_leq (TO.pick (b := true) rfl dc rfl rfl (TO.assign rfl dc rfl (TO.nil ?_))))
          exact TX.meetD (decide ((r1 : Int) ≤ 841)) h rfl (Sbs.cons rfl (Sbs.cons rfl (Sbs.nil))) Splits.nil
         ·
          have h := condF hb19 h
          refine TO.skip rfl dc (TO.skip rfl dc (TO.pick (b := false) rfl dc rfl rfl (TO.assign rfl dc rfl (TO.nil ?_))))
          exact TX.meetD false h rfl (Sbs.cons rfl (Sbs.cons rfl (Sbs.nil))) Splits.nil
       ·
        have h := condF hb17 h
        refine TO.skip rfl dc (TO.skip rfl dc (TO.pick (b := false) rfl dc rfl rfl (TO.assign rfl dc rfl (TO.nil (TX.next (TC.condF rfl (TC.region (TO.move rfl dc rfl (TO.bin rfl dc rfl rfl bin_geq (TO.move rfl dc rfl ?_))))))))))
        refine TO.split (s := 30) rfl (fun hb20 => ?_) (fun hb20 => ?_)
        ·
         have h := condT hb20 h
         refine TO.move rfl dc rfl (TO.bin rfl dc rfl rfl bin_leq (TO.pick (b := true) rfl dc rfl rfl (TO.assign rfl dc rfl (TO.nil ?_))))
         exact TX.meetD (decide ((r1 : Int) ≤ 841)) h rfl (Sbs.cons rfl (Sbs.cons rfl (Sbs.nil))) Splits.nil
        ·
         have h := condF hb20 h
         refine TO.skip rfl dc (TO.skip rfl dc (TO.pick (b := false) rfl dc rfl rfl (TO.assign rfl dc rfl (TO.nil ?_))))
         exact TX.meetD false h rfl (Sbs.cons rfl (Sbs.cons rfl (Sbs.nil))) Splits.nil
     ·
      have h := condF hb15 h
      refine TO.skip rfl dc (TO.skip rfl dc (TO.pick (b := false) rfl dc rfl rfl (TO.assign rfl dc rfl (TO.nil (TX.next (TC.condF rfl (TC.seq (TC.region (TO.move rfl dc rfl (TO.bin rfl dc rfl rfl bin_geq (TO.move rfl dc rfl ?_)))))))))))
      refine TO.split (s := 24) rfl (fun hb21 => ?_) (fun hb21 => ?_)
      ·
       have h := condT hb21 h
       refine TO.move rfl dc rfl (TO.bin rfl dc rfl rfl bin_leq (TO.pick (b := true) rfl dc rfl rfl (TO.assign rfl dc rfl (TO.nil (TX.next ?_)))))
       refine TC.condB rfl (fun hb22 => ?_) (fun hb22 => ?_)
       ·
        have h := condT hb22 h
        refine TC.skip ?_
        exact TX.meetD (decide ((r1 : Int) ≤ 828)) h rfl (Sbs.cons rfl (Sbs.cons rfl (Sbs.nil))) Splits.nil
       ·
        have h := condF hb22 h
        refine TC.region (TO.move rfl dc rfl (TO.bin rfl dc rfl rfl bin_geq (TO.move rfl dc rfl ?_)))
        refine TO.split (s := 30) rfl (fun hb23 => ?_) (fun hb23 => ?_)
        ·
         have h := condT hb23 h
         refine TO.move rfl dc rfl (TO.bin rfl dc rfl rfl bin_leq (TO.pick (b := true) rfl dc rfl rfl (TO.assign rfl dc rfl (TO.nil ?_))))
         exact TX.meetD (decide ((r1 : Int) ≤ 841)) h rfl (Sbs.cons rfl (Sbs.cons rfl (Sbs.nil))) Splits.nil
        ·
         have h := condF hb23 h
         refine TO.skip rfl dc (TO.skip rfl dc (TO.pick (b := false) rfl dc rfl rfl (TO.assign rfl dc rfl (TO.nil ?_))))
         exact TX.meetD false h rfl (Sbs.cons rfl (Sbs.cons rfl (Sbs.nil))) Splits.nil
      ·
       have h := condF hb21 h
       refine TO.skip rfl dc (TO.skip rfl dc (TO.pick (b := false) rfl dc rfl rfl (TO.assign rfl dc rfl (TO.nil (TX.next (TC.condF rfl (TC.region (TO.move rfl dc rfl (TO.bin rfl dc rfl rfl bin_geq (TO.move rfl dc rfl ?_))))))))))
       refine TO.split (s := 30) rfl (fun hb24 => ?_) (fun hb24 => ?_)
       ·
        have h := condT hb24 h
        refine TO.move rfl dc rfl (TO.bin rfl dc rfl rfl bin_leq (TO.pick (b := true) rfl dc rfl rfl (TO.assign rfl dc rfl (TO.nil ?_))))
        exact TX.meetD (decide ((r1 : Int) ≤ 841)) h rfl (Sbs.cons rfl (Sbs.cons rfl (Sbs.nil))) Splits.nil
       ·
        have h := condF hb24 h
        refine TO.skip rfl dc (TO.skip rfl dc (TO.pick (b := false) rfl dc rfl rfl (TO.assign rfl dc rfl (TO.nil ?_))))
        exact TX.meetD false h rfl (Sbs.cons rfl (Sbs.cons rfl (Sbs.nil))) Splits.nil
  ·
   have h := condF hb1 h
   refine TO.skip rfl dc (TO.skip rfl dc (TO.pick (b := false) rfl dc rfl rfl (TO.assign rfl dc rfl (TO.nil (TX.next (TC.condF rfl (TC.seq (TC.region (TO.move rfl dc rfl (TO.bin rfl dc rfl rfl bin_geq (TO.move rfl dc rfl ?_)))))))))))
   refine TO.split (s := 12) rfl (fun hb25 => ?_) (fun hb25 => ?_)
   ·
    have h := condT hb25 h
    refine TO.move rfl dc rfl (TO.bin rfl dc rfl rfl bin_leq (TO.pick (b := true) rfl dc rfl rfl (TO.assign rfl dc rfl (TO.nil (TX.next ?_)))))
    refine TC.condB rfl (fun hb26 => ?_) (fun hb26 => ?_)
    ·
     have h := condT hb26 h
     refine TC.skip ?_
     exact TX.meetD (decide ((r1 : Int) ≤ 800)) h rfl (Sbs.cons rfl (Sbs.cons rfl (Sbs.nil))) Splits.nil
    ·
     have h := condF hb26 h
     refine TC.seq (TC.region (TO.move rfl dc rfl (TO.bin rfl dc rfl rfl bin_geq (TO.move rfl dc rfl ?_))))
     refine TO.split (s := 18) rfl (fun hb27 => ?_) (fun hb27 => ?_)
     ·
      have h := condT hb27 h
      refine TO.move rfl dc rfl (TO.bin rfl dc rfl rfl bin_leq (TO.pick (b := true) rfl dc rfl rfl (TO.assign rfl dc rfl (TO.nil (TX.next ?_)))))
      refine TC.condB rfl (fun hb28 => ?_) (fun hb28 => ?_)
      ·
       have h := condT hb28 h
       refine TC.skip ?_
       exact TX.meetD (decide ((r1 : Int) ≤ 819)) h rfl (Sbs.cons rfl (Sbs.cons rfl (Sbs.nil))) Splits.nil
      ·
       have h := condF hb28 h
       refine TC.seq (TC.region (TO.move rfl dc rfl (TO.bin rfl dc rfl rfl bin_geq (TO.move rfl dc rfl ?_))))
       refine TO.split (s := 24) rfl (fun hb29 => ?_) (fun hb29 => ?_)
       ·
        have h := condT hb29 h
        refine TO.move rfl dc rfl (TO.bin rfl dc rfl rfl bin_leq (TO.pick (b := true) rfl dc rfl rfl (TO.assign rfl dc rfl (TO.nil (TX.next ?_)))))
        refine TC.condB rfl (fun hb30 => ?_) (fun hb30 => ?_)
        ·
         have h := condT hb30 h
         refine TC.skip ?_
         exact TX.meetD (decide ((r1 : Int) ≤ 828)) h rfl (Sbs.cons rfl (Sbs.cons rfl (Sbs.nil))) Splits.nil
        ·
         have h := condF hb30 h
         refine TC.region (TO.move rfl dc rfl (TO.bin rfl dc rfl rfl bin_geq (TO.move rfl dc rfl ?_)))
         refine TO.split (s := 30) rfl (fun hb31 => ?_) (fun hb31 => ?_)
         ·
          have h := condT hb31 h
          refine TO.move rfl dc rfl (TO.bin rfl dc rfl rfl bin_leq (TO.pick (b := true) rfl dc rfl rfl (TO.assign rfl dc rfl (TO.nil ?_))))
          exact TX.meetD (decide ((r1 : Int) ≤ 841)) h rfl (Sbs.cons rfl (Sbs.cons rfl (Sbs.nil))) Splits.nil
         ·
          have h := condF hb31 h
          refine TO.skip rfl dc (TO.skip rfl dc (TO.pick (b := false) rfl dc rfl rfl (TO.assign rfl dc rfl (TO.nil ?_))))
          exact TX.meetD false h rfl (Sbs.cons rfl (Sbs.cons rfl (Sbs.nil))) Splits.nil
       ·
        have h := condF hb29 h
        refine TO.skip rfl dc (TO.skip rfl dc (TO.pick (b := false) rfl dc rfl rfl (TO.assign rfl dc rfl (TO.nil (TX.next (TC.condF rfl (TC.region (TO.move rfl dc rfl (TO.bin rfl dc rfl rfl bin_geq (TO.move rfl dc rfl ?_))))))))))
        refine TO.split (s := 30) rfl (fun hb32 => ?_) (fun hb32 => ?_)
        ·
         have h := condT hb32 h
         refine TO.move rfl dc rfl (TO.bin rfl dc rfl rfl bin_leq (TO.pick (b := true) rfl dc rfl rfl (TO.assign rfl dc rfl (TO.nil ?_))))
         exact TX.meetD (decide ((r1 : Int) ≤ 841)) h rfl (Sbs.cons rfl (Sbs.cons rfl (Sbs.nil))) Splits.nil
        ·
         have h := condF hb32 h
         refine TO.skip rfl dc (TO.skip rfl dc (TO.pick (b := false) rfl dc rfl rfl (TO.assign rfl dc rfl (TO.nil ?_))))
         exact TX.meetD false h rfl (Sbs.cons rfl (Sbs.cons rfl (Sbs.nil))) Splits.nil
     ·
      have h := condF hb27 h
      refine TO.skip rfl dc (TO.skip rfl dc (TO.pick (b := false) rfl dc rfl rfl (TO.assign rfl dc rfl (TO.nil (TX.next (TC.condF rfl (TC.seq (TC.region (TO.move rfl dc rfl (TO.bin rfl dc rfl rfl bin_geq (TO.move rfl dc rfl ?_)))))))))))
      refine TO.split (s := 24) rfl (fun hb33 => ?_) (fun hb33 => ?_)
      ·
       have h := condT hb33 h
       refine TO.move rfl dc rfl (TO.bin rfl dc rfl rfl bin_leq (TO.pick (b := true) rfl dc rfl rfl (TO.assign rfl dc rfl (TO.nil (TX.next ?_)))))
       refine TC.condB rfl (fun hb34 => ?_) (fun hb34 => ?_)
       ·
        have h := condT hb34 h
        refine TC.skip ?_
        exact TX.meetD (decide ((r1 : Int) ≤ 828)) h rfl (Sbs.cons rfl (Sbs.cons rfl (Sbs.nil))) Splits.nil
       ·
        have h := condF hb34 h
        refine TC.region (TO.move rfl dc rfl (TO.bin rfl dc rfl rfl bin_geq (TO.move rfl dc rfl ?_)))
        refine TO.split (s := 30) rfl (fun hb35 => ?_) (fun hb35 => ?_)
        ·
         have h := condT hb35 h
         refine TO.move rfl dc rfl (TO.bin rfl dc rfl rfl bin_leq (TO.pick (b := true) rfl dc rfl rfl (TO.assign rfl dc rfl (TO.nil ?_))))
         exact TX.meetD (decide ((r1 : Int) ≤ 841)) h rfl (Sbs.cons rfl (Sbs.cons rfl (Sbs.nil))) Splits.nil
        ·
         have h := condF hb35 h
         refine TO.skip rfl dc (TO.skip rfl dc (TO.pick (b := false) rfl dc rfl rfl (TO.assign rfl dc rfl (TO.nil ?_))))
         exact TX.meetD false h rfl (Sbs.cons rfl (Sbs.cons rfl (Sbs.nil))) Splits.nil
      ·
       have h := condF hb33 h
       refine TO.skip rfl dc (TO.skip rfl dc (TO.pick (b := false) rfl dc rfl rfl (TO.assign rfl dc rfl (TO.nil (TX.next (TC.condF rfl (TC.region (TO.move rfl dc rfl (TO.bin rfl dc rfl rfl bin_geq (TO.move rfl dc rfl ?_))))))))))
       refine TO.split (s := 30) rfl (fun hb36 => ?_) (fun hb36 => ?_)
       ·
        have h := condT hb36 h
        refine TO.move rfl dc rfl (TO.bin rfl dc rfl rfl bin_leq (TO.pick (b := true) rfl dc rfl rfl (TO.assign rfl dc rfl (TO.nil ?_))))
        exact TX.meetD (decide ((r1 : Int) ≤ 841)) h rfl (Sbs.cons rfl (Sbs.cons rfl (Sbs.nil))) Splits.nil
       ·
        have h := condF hb36 h
        refine TO.skip rfl dc (TO.skip rfl dc (TO.pick (b := false) rfl dc rfl rfl (TO.assign rfl dc rfl (TO.nil ?_))))
        exact TX.meetD false h rfl (Sbs.cons rfl (Sbs.cons rfl (Sbs.nil))) Splits.nil
   ·
    have h := condF hb25 h
    refine TO.skip rfl dc (TO.skip rfl dc (TO.pick (b := false) rfl dc rfl rfl (TO.assign rfl dc rfl (TO.nil (TX.next (TC.condF rfl (TC.seq (TC.region (TO.move rfl dc rfl (TO.bin rfl dc rfl rfl bin_geq (TO.move rfl dc rfl ?_)))))))))))
    refine TO.split (s := 18) rfl (fun hb37 => ?_) (fun hb37 => ?_)
    ·
     have h := condT hb37 h
     refine TO.move rfl dc rfl (TO.bin rfl dc rfl rfl bin_leq (TO.pick (b := true) rfl dc rfl rfl (TO.assign rfl dc rfl (TO.nil (TX.next ?_)))))
     refine TC.condB rfl (fun hb38 => ?_) (fun hb38 => ?_)
     ·
      have h := condT hb38 h
      refine TC.skip ?_
      exact TX.meetD (decide ((r1 : Int) ≤ 819)) h rfl (Sbs.cons rfl (Sbs.cons rfl (Sbs.nil))) Splits.nil
     ·
      have h := condF hb38 h
      refine TC.seq (TC.region (TO.move rfl dc rfl (TO.bin rfl dc rfl rfl bin_geq (TO.move rfl dc rfl ?_))))
      refine TO.split (s := 24) rfl (fun hb39 => ?_) (fun hb39 => ?_)
      ·
       have h := condT hb39 h
       refine TO.move rfl dc rfl (TO.bin rfl dc rfl rfl bin_leq (TO.pick (b := true) rfl dc rfl rfl (TO.assign rfl dc rfl (TO.nil (TX.next ?_)))))
       refine TC.condB rfl (fun hb40 => ?_) (fun hb40 => ?_)
       ·
        have h := condT hb40 h
        refine TC.skip ?_
        exact TX.meetD (decide ((r1 : Int) ≤ 828)) h rfl (Sbs.cons rfl (Sbs.cons rfl (Sbs.nil))) Splits.nil
       ·
        have h := condF hb40 h
        refine TC.region (TO.move rfl dc rfl (TO.bin rfl dc rfl rfl bin_geq (TO.move rfl dc rfl ?_)))
        refine TO.split (s := 30) rfl (fun hb41 => ?_) (fun hb41 => ?_)
        ·
         have h := condT hb41 h
         refine TO.move rfl dc rfl (TO.bin rfl dc rfl rfl bin_leq (TO.pick (b := true) rfl dc rfl rfl (TO.assign rfl dc rfl (TO.nil ?_))))
         exact TX.meetD (decide ((r1 : Int) ≤ 841)) h rfl (Sbs.cons rfl (Sbs.cons rfl (Sbs.nil))) Splits.nil
        ·
         have h := condF hb41 h
         refine TO.skip rfl dc (TO.skip rfl dc (TO.pick (b := false) rfl dc rfl rfl (TO.assign rfl dc rfl (TO.nil ?_))))
         exact TX.meetD false h rfl (Sbs.cons rfl (Sbs.cons rfl (Sbs.nil))) Splits.nil
      ·
       have h := condF hb39 h
       refine TO.skip rfl dc (TO.skip rfl dc (TO.pick (b := false) rfl dc rfl rfl (TO.assign rfl dc rfl (TO.nil (TX.next (TC.condF rfl (TC.region (TO.move rfl dc rfl (TO.bin rfl dc rfl rfl bin_geq (TO.move rfl dc rfl ?_))))))))))
       refine TO.split (s := 30) rfl (fun hb42 => ?_) (fun hb42 => ?_)
       ·
        have h := condT hb42 h
        refine TO.move rfl dc rfl (TO.bin rfl dc rfl rfl bin_leq (TO.pick (b := true) rfl dc rfl rfl (TO.assign rfl dc rfl (TO.nil ?_))))
        exact TX.meetD (decide ((r1 : Int) ≤ 841)) h rfl (Sbs.cons rfl (Sbs.cons rfl (Sbs.nil))) Splits.nil
       ·
        have h := condF hb42 h
        refine TO.skip rfl dc (TO.skip rfl dc (TO.pick (b := false) rfl dc rfl rfl (TO.assign rfl dc rfl (TO.nil ?_))))
        exact TX.meetD false h rfl (Sbs.cons rfl (Sbs.cons rfl (Sbs.nil))) Splits.nil
    ·
     have h := condF hb37 h
     refine TO.skip rfl dc (TO.skip rfl dc (TO.pick (b := false) rfl dc rfl rfl (TO.assign rfl dc rfl (TO.nil (TX.next (TC.condF rfl (TC.seq (TC.region (TO.move rfl dc rfl (TO.bin rfl dc rfl rfl bin_geq (TO.move rfl dc rfl ?_)))))))))))
     refine TO.split (s := 24) rfl (fun hb43 => ?_) (fun hb43 => ?_)
     ·
      have h := condT hb43 h
      refine TO.move rfl dc rfl (TO.bin rfl dc rfl rfl bin_leq (TO.pick (b := true) rfl dc rfl rfl (TO.assign rfl dc rfl (TO.nil (TX.next ?_)))))
      refine TC.condB rfl (fun hb44 => ?_) (fun hb44 => ?_)
      ·
       have h := condT hb44 h
       refine TC.skip ?_
       exact TX.meetD (decide ((r1 : Int) ≤ 828)) h rfl (Sbs.cons rfl (Sbs.cons rfl (Sbs.nil))) Splits.nil
      ·
       have h := condF hb44 h
       refine TC.region (TO.move rfl dc rfl (TO.bin rfl dc rfl rfl bin_geq (TO.move rfl dc rfl ?_)))
       refine TO.split (s := 30) rfl (fun hb45 => ?_) (fun hb45 => ?_)
       ·
        have h := condT hb45 h
        refine TO.move rfl dc rfl (TO.bin rfl dc rfl rfl bin_leq (TO.pick (b := true) rfl dc rfl rfl (TO.assign rfl dc rfl (TO.nil ?_))))
        exact TX.meetD (decide ((r1 : Int) ≤ 841)) h rfl (Sbs.cons rfl (Sbs.cons rfl (Sbs.nil))) Splits.nil
       ·
        have h := condF hb45 h
        refine TO.skip rfl dc (TO.skip rfl dc (TO.pick (b := false) rfl dc rfl rfl (TO.assign rfl dc rfl (TO.nil ?_))))
        exact TX.meetD false h rfl (Sbs.cons rfl (Sbs.cons rfl (Sbs.nil))) Splits.nil
     ·
      have h := condF hb43 h
      refine TO.skip rfl dc (TO.skip rfl dc (TO.pick (b := false) rfl dc rfl rfl (TO.assign rfl dc rfl (TO.nil (TX.next (TC.condF rfl (TC.region (TO.move rfl dc rfl (TO.bin rfl dc rfl rfl bin_geq (TO.move rfl dc rfl ?_))))))))))
      refine TO.split (s := 30) rfl (fun hb46 => ?_) (fun hb46 => ?_)
      ·
       have h := condT hb46 h
       refine TO.move rfl dc rfl (TO.bin rfl dc rfl rfl bin_leq (TO.pick (b := true) rfl dc rfl rfl (TO.assign rfl dc rfl (TO.nil ?_))))
       exact TX.meetD (decide ((r1 : Int) ≤ 841)) h rfl (Sbs.cons rfl (Sbs.cons rfl (Sbs.nil))) Splits.nil
      ·
       have h := condF hb46 h
       refine TO.skip rfl dc (TO.skip rfl dc (TO.pick (b := false) rfl dc rfl rfl (TO.assign rfl dc rfl (TO.nil ?_))))
       exact TX.meetD false h rfl (Sbs.cons rfl (Sbs.cons rfl (Sbs.nil))) Splits.nil
 ·
  rintro x1 h
  rw [hj1] at h
  show TC _ _ _ _ _ ([]) _ _ [(0, .int .i32 r1), (3, .bool x1)] []
  refine TC.condB rfl (fun hb47 => ?_) (fun hb47 => ?_)
  ·
   have h := condT hb47 h
   refine TC.seq (TC.region (TO.assign rfl dc rfl (TO.nil (TX.next (TC.ret (TX.blockRet (TX.thenRet ?_)))))))
   cases h
   exact TX.fin (rs := [.tmp 2]) () (.inl rfl) Try.results35 (.cons (.tmp rfl) .nil) rfl Splits.nil
  ·
   have h := condF hb47 h
   obtain ⟨j2, hj2, h⟩ := joinE h
   refine TC.cutN (β := Bool) 0 rfl (fun b => j2 b = some r) (fun b => []) (fun b => [(34, .bool b)]) (fun b => []) (fun cut => ?_) ?_
   ·
    refine cut (TC.seq (TC.region (TO.move rfl dc rfl (TO.bin rfl dc rfl rfl bin_geq (TO.move rfl dc rfl ?_)))))
    refine TO.split (s := 37) rfl (fun hb48 => ?_) (fun hb48 => ?_)
    ·
     have h := condT hb48 h
     refine TO.move rfl dc rfl (TO.bin rfl dc rfl rfl bin_leq (TO.pick (b := true) rfl dc rfl rfl (TO.assign rfl dc rfl (TO.nil (TX.next ?_)))))
     refine TC.condB rfl (fun hb49 => ?_) (fun hb49 => ?_)
     ·
      have h := condT hb49 h
      refine TC.skip ?_
      exact TX.meetD (decide ((r1 : Int) ≤ 846)) h rfl (Sbs.cons rfl (Sbs.nil)) Splits.nil
     ·
      have h := condF hb49 h
      refine TC.seq (TC.region (TO.move rfl dc rfl (TO.bin rfl dc rfl rfl bin_geq (TO.move rfl dc rfl ?_))))
      refine TO.split (s := 43) rfl (fun hb50 => ?_) (fun hb50 => ?_)
      ·
       have h := condT hb50 h
       refine TO.move rfl dc rfl (TO.bin rfl dc rfl rfl bin_leq (TO.pick (b := true) rfl dc rfl rfl (TO.assign rfl dc rfl (TO.nil (TX.next ?_)))))
       refine TC.condB rfl (fun hb51 => ?_) (fun hb51 => ?_)
       ·
        have h := condT hb51 h
        refine TC.skip ?_
        exact TX.meetD (decide ((r1 : Int) ≤ 854)) h rfl (Sbs.cons rfl (Sbs.nil)) Splits.nil
       ·
        have h := condF hb51 h
        refine TC.region (TO.move rfl dc rfl (TO.bin rfl dc rfl rfl bin_geq (TO.move rfl dc rfl ?_)))
        refine TO.split (s := 49) rfl (fun hb52 => ?_) (fun hb52 => ?_)
        ·
         have h := condT hb52 h
         refine TO.move rfl dc rfl (TO.bin rfl dc rfl rfl bin_leq (TO.pick (b := true) rfl dc rfl rfl (TO.assign rfl dc rfl (TO.nil ?_))))
         exact TX.meetD (decide ((r1 : Int) ≤ 858)) h rfl (Sbs.cons rfl (Sbs.nil)) Splits.nil
        ·
         have h := condF hb52 h
         refine TO.skip rfl dc (TO.skip rfl dc (TO.pick (b := false) rfl dc rfl rfl (TO.assign rfl dc rfl (TO.nil ?_))))
         exact TX.meetD false h rfl (Sbs.cons rfl (Sbs.nil)) Splits.nil
      ·
       have h := condF hb50 h
       refine TO.skip rfl dc (TO.skip rfl dc (TO.pick (b := false) rfl dc rfl rfl (TO.assign rfl dc rfl (TO.nil (TX.next (TC.condF rfl (TC.region (TO.move rfl dc rfl (TO.bin rfl dc rfl rfl bin_geq (TO.move rfl dc rfl ?_))))))))))
       refine TO.split (s := 49) rfl (fun hb53 => ?_) (fun hb53 => ?_)
       ·
        have h := condT hb53 h
        refine TO.move rfl dc rfl (TO.bin rfl dc rfl rfl bin_leq (TO.pick (b := true) rfl dc rfl rfl (TO.assign rfl dc rfl (TO.nil ?_))))
        exact TX.meetD (decide ((r1 : Int) ≤ 858)) h rfl (Sbs.cons rfl (Sbs.nil)) Splits.nil
       ·
        have h := condF hb53 h
        refine TO.skip rfl dc (TO.skip rfl dc (TO.pick (b := false) rfl dc rfl rfl (TO.assign rfl dc rfl (TO.nil ?_))))
        exact TX.meetD false h rfl (Sbs.cons rfl (Sbs.nil)) Splits.nil
    ·
     have h := condF hb48 h
     refine TO.skip rfl dc (TO.skip rfl dc (TO.pick (b := false) rfl dc rfl rfl (TO.assign rfl dc rfl (TO.nil (TX.next (TC.condF rfl (TC.seq (TC.region (TO.move rfl dc rfl (TO.bin rfl dc rfl rfl bin_geq (TO.move rfl dc rfl ?_)))))))))))
     refine TO.split (s := 43) rfl (fun hb54 => ?_) (fun hb54 => ?_)
     ·
      have h := condT hb54 h
      refine TO.move rfl dc rfl (TO.bin rfl dc rfl rfl bin_leq (TO.pick (b := true) rfl dc rfl rfl (TO.assign rfl dc rfl (TO.nil (TX.next ?_)))))
      refine TC.condB rfl (fun hb55 => ?_) (fun hb55 => ?_)
      ·
       have h := condT hb55 h
       refine TC.skip ?_
       exact TX.meetD (decide ((r1 : Int) ≤ 854)) h rfl (Sbs.cons rfl (Sbs.nil)) Splits.nil
      ·
       have h := condF hb55 h
       refine TC.region (TO.move rfl dc rfl (TO.bin rfl dc rfl rfl bin_geq (TO.move rfl dc rfl ?_)))
       refine TO.split (s := 49) rfl (fun hb56 => ?_) (fun hb56 => ?_)
       ·
        have h := condT hb56 h
        refine TO.move rfl dc rfl (TO.bin rfl dc rfl rfl bin_leq (TO.pick (b := true) rfl dc rfl rfl (TO.assign rfl dc rfl (TO.nil ?_))))
        exact TX.meetD (decide ((r1 : Int) ≤ 858)) h rfl (Sbs.cons rfl (Sbs.nil)) Splits.nil
       ·
        have h := condF hb56 h
        refine TO.skip rfl dc (TO.skip rfl dc (TO.pick (b := false) rfl dc rfl rfl (TO.assign rfl dc rfl (TO.nil ?_))))
        exact TX.meetD false h rfl (Sbs.cons rfl (Sbs.nil)) Splits.nil
     ·
      have h := condF hb54 h
      refine TO.skip rfl dc (TO.skip rfl dc (TO.pick (b := false) rfl dc rfl rfl (TO.assign rfl dc rfl (TO.nil (TX.next (TC.condF rfl (TC.region (TO.move rfl dc rfl (TO.bin rfl dc rfl rfl bin_geq (TO.move rfl dc rfl ?_))))))))))
      refine TO.split (s := 49) rfl (fun hb57 => ?_) (fun hb57 => ?_)
      ·
       have h := condT hb57 h
       refine TO.move rfl dc rfl (TO.bin rfl dc rfl rfl bin_leq (TO.pick (b := true) rfl dc rfl rfl (TO.assign rfl dc rfl (TO.nil ?_))))
       exact TX.meetD (decide ((r1 : Int) ≤ 858)) h rfl (Sbs.cons rfl (Sbs.nil)) Splits.nil
      ·
       have h := condF hb57 h
       refine TO.skip rfl dc (TO.skip rfl dc (TO.pick (b := false) rfl dc rfl rfl (TO.assign rfl dc rfl (TO.nil ?_))))
       exact TX.meetD false h rfl (Sbs.cons rfl (Sbs.nil)) Splits.nil
   ·
    rintro x2 h
    rw [hj2] at h
    show TC _ _ _ _ _ ([]) _ _ [(34, .bool x2)] []
    refine TC.condB rfl (fun hb58 => ?_) (fun hb58 => ?_)
    ·
     have h := condT hb58 h
     refine TC.seq (TC.region (TO.assign rfl dc rfl (TO.nil (TX.next (TC.ret (TX.blockRet (TX.thenRet ?_)))))))
     cases h
     exact TX.fin (rs := [.tmp 2]) () (.inl rfl) Try.results35 (.cons (.tmp rfl) .nil) rfl Splits.nil
    ·
     have h := condF hb58 h
     refine TC.skip (TX.blockNormal (TX.next (TC.seq (TC.region (TO.assign rfl dc rfl (TO.nil (TX.next (TC.ret ?_))))))))
     cases h
     exact TX.fin (rs := [.tmp 2]) () (.inl rfl) Try.results35 (.cons (.tmp rfl) .nil) rfl Splits.nil
def fold_unit_letter_v (u1 : Gfold_unit) : Option Bool := bcond (decide ((0 : Int) ≤ u1.base)) ( grd (I32 u1.base) <| some (((kind u1.base) : Int) == 1)
) ( some false
)
set_option maxRecDepth 100000 in
set_option maxHeartbeats 4000000 in
theorem fold_unit_letter_fn {u1 : Gfold_unit} {u1_h0 u1_h1 : Hd} {r : Bool} (h : fold_unit_letter_v u1 = some r) : Fn Try.prog 52 [.agg #[.int .i64 u1.at_, .int .u8 u1.broken, .int .i32 u1.base, u1_h0.v, u1_h1.v]] [vec (encI (.i32)) 21 1 u1_h0.v u1.low, vec (encI (.i32)) 21 1 u1_h1.v u1.high] (fun _b : Unit => .bool r) (fun _b => [vec (encI (.i32)) 21 1 u1_h0.v u1.low, vec (encI (.i32)) 21 1 u1_h1.v u1.high]) := by
 unfold fold_unit_letter_v at h
 refine Fn.intro Try.func52 rfl Try.ntmps52 (by simp) ?_
 intro w0 K
 refine TC.seq (TC.region ?_)
 refine TO.box rfl dc rfl (fun b1 => ?_)
 refine TO.assign rfl dc rfl (TO.nil (TX.next (TC.seq (TC.region (TO.fieldAddr fl_73_2 rfl dc rfl (show _ = 2 from rfl) (TO.load (k := 2) sc_21 rfl dc rfl rfl rfl (TO.bin rfl dc rfl rfl bin_geq (TO.move rfl dc rfl ?_))))))))
 refine TO.split (s := 6) rfl (fun hb1 => ?_) (fun hb1 => ?_)
 ·
  have h := condT hb1 h
  refine TO.fieldAddr fl_73_2 rfl dc rfl (show _ = 2 from rfl) (TO.load (k := 2) sc_21 rfl dc rfl rfl rfl ?_)
  obtain ⟨hg1, h⟩ := grdE h
  refine TO.callP (v := .int .i64 (kind u1.base)) (vs := [.int .i32 u1.base]) rfl dc rfl rfl rfl en_30 (FnP.of_same fun w => kind_any u1.base w hg1.1 hg1.2) ?_
  refine TO.bin rfl dc rfl rfl bin_eql (TO.pick (b := true) rfl dc rfl rfl (TO.assign rfl dc rfl (TO.nil (TX.next (TC.ret ?_)))))
  cases h
  exact TX.fin (rs := [.tmp 2]) () (.inl rfl) Try.results52 (.cons (.tmp rfl) .nil) rfl (Splits.of [0, 1] kr rfl)
 ·
  have h := condF hb1 h
  refine TO.skip rfl dc (TO.skip rfl dc (TO.skip rfl dc (TO.skip rfl dc (TO.pick (b := false) rfl dc rfl rfl (TO.assign rfl dc rfl (TO.nil (TX.next (TC.ret ?_))))))))
  cases h
  exact TX.fin (rs := [.tmp 2]) () (.inl rfl) Try.results52 (.cons (.tmp rfl) .nil) rfl (Splits.of [0, 1] kr rfl)
def fold_unit_mark_v (u1 : Gfold_unit) (r1 : Int) : Option Gfold_unit := andThen (fold_Low_v r1) fun (r2 : Bool) => bcond (r2) ( grd (u1.low.length + 1 ≤ 2147483648) <| some (⟨(⟨u1.at_, u1.broken, u1.base, u1.low ++ [r1], u1.high⟩ : Gfold_unit).at_, (⟨u1.at_, u1.broken, u1.base, u1.low ++ [r1], u1.high⟩ : Gfold_unit).broken, (⟨u1.at_, u1.broken, u1.base, u1.low ++ [r1], u1.high⟩ : Gfold_unit).base, u1.low ++ [r1], u1.high⟩ : Gfold_unit)
) ( grd (u1.high.length + 1 ≤ 2147483648) <| some (⟨(⟨u1.at_, u1.broken, u1.base, u1.low, u1.high ++ [r1]⟩ : Gfold_unit).at_, (⟨u1.at_, u1.broken, u1.base, u1.low, u1.high ++ [r1]⟩ : Gfold_unit).broken, (⟨u1.at_, u1.broken, u1.base, u1.low, u1.high ++ [r1]⟩ : Gfold_unit).base, u1.low, u1.high ++ [r1]⟩ : Gfold_unit)
)
set_option maxRecDepth 100000 in
set_option maxHeartbeats 4000000 in
theorem fold_unit_mark_fn {vu1 : Value} {zu1 : List (Gfold_unit × Hd × Hd)} {iu1 : Nat} {u1 : Gfold_unit} {u1_h0 u1_h1 : Hd} (hiu1 : zu1[iu1]? = some (u1, (u1_h0, u1_h1))) {r1 : Int} {r : Gfold_unit} (h : fold_unit_mark_v u1 r1 = some r) : Fn Try.prog 68 [.pointer (some ⟨vblk vu1, iu1 * 5, none⟩), .int .i32 r1] [vec encN_Gfold_unit 73 5 vu1 zu1, vec (encI (.i32)) 21 1 u1_h0.v u1.low, vec (encI (.i32)) 21 1 u1_h1.v u1.high] (fun b : Hd × Hd => .tuple #[]) (fun b => [vec encN_Gfold_unit 73 5 vu1 (zu1.set iu1 (r, (b.1, b.2))), vec (encI (.i32)) 21 1 b.1.v r.low, vec (encI (.i32)) 21 1 b.2.v r.high]) := by
 unfold fold_unit_mark_v at h
 refine Fn.intro Try.func68 rfl Try.ntmps68 (by simp) ?_
 intro w0 K
 refine TC.seq (TC.region (TO.move rfl dc rfl ?_))
 obtain ⟨r2, hq1, h⟩ := andE h
 refine TO.callP (v := .bool r2) (vs := [.int .i32 r1]) rfl dc rfl rfl rfl en_35 (fold_Low_fn hq1) (TO.nil (TX.next ?_))
 refine TC.condB rfl (fun hb1 => ?_) (fun hb1 => ?_)
 ·
  have h := condT hb1 h
  refine TC.region (TO.move rfl dc rfl (TO.move rfl dc rfl (TO.nilCheck rfl dc rfl (TO.fieldAddr fl_73_3 rfl dc rfl (show _ = iu1 * 5 + 3 from rfl) (TO.loadVec (i := iu1) (j := 3) (k := 0) (q := (u1, (u1_h0, u1_h1))) sc_25 encN_Gfold_unit_len rfl dc rfl rfl hiu1 rfl dc rfl (TO.move rfl dc rfl ?_))))))
  refine TO.buildSlice (cs := [.int .i32 r1]) (te := 21) (ps := [(0, .tmp 11)]) rfl dc rfl (fun _ => by kernel_rfl) (fun b1 => ?_)
  obtain ⟨hg1, h⟩ := grdE h
  refine TO.appendVec (k := 1) (k2 := 3) (ys := [r1]) Try.underlying25 el_21 encI_len encI_one rfl dc rfl rfl rfl rfl rfl rfl hg1 (fun v1 => ?_)
  refine TO.nameHd (k := 1) rfl (fun hd1 he1 => ?_)
  subst he1
  show TO _ _ _ _ _ _ _ _ _ _ [vec encN_Gfold_unit 73 5 vu1 zu1, vec (encI (.i32)) 21 1 hd1.v (u1.low ++ [r1]), vec (encI (.i32)) 21 1 u1_h1.v u1.high, cells b1 [.int .i32 r1] 21]
  refine TO.nilCheck rfl dc rfl (TO.fieldAddr fl_73_3 rfl dc rfl (show _ = iu1 * 5 + 3 from rfl) ?_)
  refine TO.storeVec (i := iu1) (j := 3) (k := 0) (q := (u1, (u1_h0, u1_h1))) (q' := ((⟨u1.at_, u1.broken, u1.base, u1.low ++ [r1], u1.high⟩ : Gfold_unit), (hd1, u1_h1))) sz_25 encN_Gfold_unit_len rfl rfl rfl rfl hiu1 rfl dc rfl (fun _ _ => rfl) ?_
  show TO _ _ _ _ _ _ _ _ _ _ [vec encN_Gfold_unit 73 5 vu1 (zu1.set iu1 ((⟨u1.at_, u1.broken, u1.base, u1.low ++ [r1], u1.high⟩ : Gfold_unit), (hd1, u1_h1))), vec (encI (.i32)) 21 1 hd1.v (u1.low ++ [r1]), vec (encI (.i32)) 21 1 u1_h1.v u1.high, cells b1 [.int .i32 r1] 21]
  refine TO.nil (TX.ent (k := 0) rfl (vec_setE rfl (q1 := ((⟨u1.at_, u1.broken, u1.base, u1.low ++ [r1], u1.high⟩ : Gfold_unit), (hd1, u1_h1))) (q2 := ((⟨(⟨u1.at_, u1.broken, u1.base, u1.low ++ [r1], u1.high⟩ : Gfold_unit).at_, (⟨u1.at_, u1.broken, u1.base, u1.low ++ [r1], u1.high⟩ : Gfold_unit).broken, (⟨u1.at_, u1.broken, u1.base, u1.low ++ [r1], u1.high⟩ : Gfold_unit).base, u1.low ++ [r1], u1.high⟩ : Gfold_unit), (hd1, u1_h1))) encN_Gfold_unit_len rfl) ?_)
  show TX _ _ _ _ _ _ _ [vec encN_Gfold_unit 73 5 vu1 (zu1.set iu1 ((⟨(⟨u1.at_, u1.broken, u1.base, u1.low ++ [r1], u1.high⟩ : Gfold_unit).at_, (⟨u1.at_, u1.broken, u1.base, u1.low ++ [r1], u1.high⟩ : Gfold_unit).broken, (⟨u1.at_, u1.broken, u1.base, u1.low ++ [r1], u1.high⟩ : Gfold_unit).base, u1.low ++ [r1], u1.high⟩ : Gfold_unit), (hd1, u1_h1))), vec (encI (.i32)) 21 1 hd1.v (u1.low ++ [r1]), vec (encI (.i32)) 21 1 u1_h1.v u1.high, cells b1 [.int .i32 r1] 21]
  cases h
  exact TX.fin (rs := []) (hd1, u1_h1) (.inr rfl) Try.results68 .nil rfl (Splits.of [0, 1, 2] kr rfl)
 ·
  have h := condF hb1 h
  refine TC.region (TO.move rfl dc rfl (TO.move rfl dc rfl (TO.nilCheck rfl dc rfl (TO.fieldAddr fl_73_4 rfl dc rfl (show _ = iu1 * 5 + 4 from rfl) (TO.loadVec (i := iu1) (j := 4) (k := 0) (q := (u1, (u1_h0, u1_h1))) sc_25 encN_Gfold_unit_len rfl dc rfl rfl hiu1 rfl dc rfl (TO.move rfl dc rfl ?_))))))
  refine TO.buildSlice (cs := [.int .i32 r1]) (te := 21) (ps := [(0, .tmp 21)]) rfl dc rfl (fun _ => by kernel_rfl) (fun b2 => ?_)
  obtain ⟨hg2, h⟩ := grdE h
  refine TO.appendVec (k := 2) (k2 := 3) (ys := [r1]) Try.underlying25 el_21 encI_len encI_one rfl dc rfl rfl rfl rfl rfl rfl hg2 (fun v2 => ?_)
  refine TO.nameHd (k := 2) rfl (fun hd2 he2 => ?_)
  subst he2
  show TO _ _ _ _ _ _ _ _ _ _ [vec encN_Gfold_unit 73 5 vu1 zu1, vec (encI (.i32)) 21 1 u1_h0.v u1.low, vec (encI (.i32)) 21 1 hd2.v (u1.high ++ [r1]), cells b2 [.int .i32 r1] 21]
  refine TO.nilCheck rfl dc rfl (TO.fieldAddr fl_73_4 rfl dc rfl (show _ = iu1 * 5 + 4 from rfl) ?_)
  refine TO.storeVec (i := iu1) (j := 4) (k := 0) (q := (u1, (u1_h0, u1_h1))) (q' := ((⟨u1.at_, u1.broken, u1.base, u1.low, u1.high ++ [r1]⟩ : Gfold_unit), (u1_h0, hd2))) sz_25 encN_Gfold_unit_len rfl rfl rfl rfl hiu1 rfl dc rfl (fun _ _ => rfl) ?_
  show TO _ _ _ _ _ _ _ _ _ _ [vec encN_Gfold_unit 73 5 vu1 (zu1.set iu1 ((⟨u1.at_, u1.broken, u1.base, u1.low, u1.high ++ [r1]⟩ : Gfold_unit), (u1_h0, hd2))), vec (encI (.i32)) 21 1 u1_h0.v u1.low, vec (encI (.i32)) 21 1 hd2.v (u1.high ++ [r1]), cells b2 [.int .i32 r1] 21]
  refine TO.nil (TX.ent (k := 0) rfl (vec_setE rfl (q1 := ((⟨u1.at_, u1.broken, u1.base, u1.low, u1.high ++ [r1]⟩ : Gfold_unit), (u1_h0, hd2))) (q2 := ((⟨(⟨u1.at_, u1.broken, u1.base, u1.low, u1.high ++ [r1]⟩ : Gfold_unit).at_, (⟨u1.at_, u1.broken, u1.base, u1.low, u1.high ++ [r1]⟩ : Gfold_unit).broken, (⟨u1.at_, u1.broken, u1.base, u1.low, u1.high ++ [r1]⟩ : Gfold_unit).base, u1.low, u1.high ++ [r1]⟩ : Gfold_unit), (u1_h0, hd2))) encN_Gfold_unit_len rfl) ?_)
  show TX _ _ _ _ _ _ _ [vec encN_Gfold_unit 73 5 vu1 (zu1.set iu1 ((⟨(⟨u1.at_, u1.broken, u1.base, u1.low, u1.high ++ [r1]⟩ : Gfold_unit).at_, (⟨u1.at_, u1.broken, u1.base, u1.low, u1.high ++ [r1]⟩ : Gfold_unit).broken, (⟨u1.at_, u1.broken, u1.base, u1.low, u1.high ++ [r1]⟩ : Gfold_unit).base, u1.low, u1.high ++ [r1]⟩ : Gfold_unit), (u1_h0, hd2))), vec (encI (.i32)) 21 1 u1_h0.v u1.low, vec (encI (.i32)) 21 1 hd2.v (u1.high ++ [r1]), cells b2 [.int .i32 r1] 21]
  cases h
  exact TX.fin (rs := []) (u1_h0, hd2) (.inr rfl) Try.results68 .nil rfl (Splits.of [0, 1, 2] kr rfl)
def fold_parted_b (rcall : (List (Int × Gfold_pair)) → Int → Option (List Int)) (Msplit1 : List (Int × Gfold_pair)) (r1 : Int) : Option (List Int) := bcond (!((getM r1 Msplit1).isSome)) ( some ([r1] : List Int)
) ( andThen (rcall Msplit1 (((getM r1 Msplit1).getD (⟨0, 0⟩ : Gfold_pair)).e0)) fun (r2 : (List Int)) => grd (r2.length + 1 ≤ 2147483648) <| some (r2 ++ [((getM r1 Msplit1).getD (⟨0, 0⟩ : Gfold_pair)).e1])
)
def fold_parted_v (Msplit1 : List (Int × Gfold_pair)) (r1 : Int) : Option (List Int) := loopG (fun _ _ => none) fold_parted_b fuel Msplit1 r1
set_option maxRecDepth 100000 in
set_option maxHeartbeats 4000000 in
theorem fold_parted_fb (n : Nat) : ∀ {bsplit1 : Nat} {Msplit1 : List (Int × Gfold_pair)} {r1 : Int} {r : (List Int)} (_ : loopG (fun _ _ => none) fold_parted_b n Msplit1 r1 = some r), Fn Try.prog 44 [.map (some bsplit1), .int .i32 r1] [mapA (fun n : Int => Value.int .i32 n) (fun p : Gfold_pair => Value.agg #[.int .i32 p.e0, .int .i32 p.e1]) bsplit1 Msplit1] (fun v0 : Value => v0) (fun v0 => [mapA (fun n : Int => Value.int .i32 n) (fun p : Gfold_pair => Value.agg #[.int .i32 p.e0, .int .i32 p.e1]) bsplit1 Msplit1, vec (encI (.i32)) 21 1 v0 r]) := by
 induction n with
 | zero => intro bsplit1 Msplit1 r1 r h; exact noneE h
 | succ n hrec =>
 intro bsplit1 Msplit1 r1 r h
 rw [loopG_succ] at h
 revert hrec h
 generalize loopG (fun _ _ => none) fold_parted_b n = rcall
 intro hrec h
 unfold fold_parted_b at h
 refine Fn.intro Try.func44 rfl Try.ntmps44 (by simp) ?_
 intro w0 K
 refine TC.seq (TC.region (TO.assign rfl dc rfl (TO.nil (TX.next (TC.seq (TC.region (TO.move rfl dc rfl (TO.move rfl dc rfl ?_))))))))
 refine TO.lookupOk (k := 0) (ek := (fun n : Int => Value.int .i32 n)) (ev' := (fun p : Gfold_pair => Value.agg #[.int .i32 p.e0, .int .i32 p.e1])) (kk := r1) (z0 := (⟨0, 0⟩ : Gfold_pair)) (KeyOk.int Try.underlying21) Try.underlying63 kr rfl dc rfl rfl rfl ?_
 refine TO.move rfl dc rfl (TO.extract rfl dc rfl rfl (TO.extract rfl dc rfl rfl ?_))
 refine TO.alloc zr_79 rfl dc (fun b1 => ?_)
 refine TO.stores (k := 1) (vs := [.int .i32 (((getM r1 Msplit1).getD (⟨0, 0⟩ : Gfold_pair)).e0), .int .i32 (((getM r1 Msplit1).getD (⟨0, 0⟩ : Gfold_pair)).e1)]) (l' := [.int .i32 (((getM r1 Msplit1).getD (⟨0, 0⟩ : Gfold_pair)).e0), .int .i32 (((getM r1 Msplit1).getD (⟨0, 0⟩ : Gfold_pair)).e1)]) sz_79 rfl rfl rfl rfl rfl (show _ ≤ _ by simp) rfl rfl ?_
 show TO _ _ _ _ _ _ _ _ _ _ [mapA (fun n : Int => Value.int .i32 n) (fun p : Gfold_pair => Value.agg #[.int .i32 p.e0, .int .i32 p.e1]) bsplit1 Msplit1, cells b1 [.int .i32 (((getM r1 Msplit1).getD (⟨0, 0⟩ : Gfold_pair)).e0), .int .i32 (((getM r1 Msplit1).getD (⟨0, 0⟩ : Gfold_pair)).e1)] 79]
 refine TO.assign rfl dc rfl (TO.nil (TX.next (TC.seq (TC.seq (TC.region (TO.move rfl dc rfl (TO.un rfl dc rfl un_not (TO.nil (TX.next ?_)))))))))
 refine TC.condB rfl (fun hb1 => ?_) (fun hb1 => ?_)
 ·
  have h := condT hb1 h
  refine TC.seq (TC.region (TO.move rfl dc rfl ?_))
  refine TO.buildSlice (cs := [.int .i32 r1]) (te := 21) (ps := [(0, .tmp 15)]) rfl dc rfl (fun _ => by kernel_rfl) (fun b2 => ?_)
  refine TO.assign rfl dc rfl (TO.nil (TX.next (TC.ret (TX.thenRet (TX.toVec ([r1] : List Int) (k := 2) rfl encI_len rfl (show 1 ≤ maxLen by decide) ?_)))))
  show TX _ _ _ _ _ _ _ [mapA (fun n : Int => Value.int .i32 n) (fun p : Gfold_pair => Value.agg #[.int .i32 p.e0, .int .i32 p.e1]) bsplit1 Msplit1, cells b1 [.int .i32 (((getM r1 Msplit1).getD (⟨0, 0⟩ : Gfold_pair)).e0), .int .i32 (((getM r1 Msplit1).getD (⟨0, 0⟩ : Gfold_pair)).e1)] 79, vec (encI (.i32)) 21 1 (.slice (some ⟨b2, 0, none⟩) 1 1) ([r1] : List Int)]
  cases h
  exact TX.fin (rs := [.tmp 4]) (.slice (some ⟨b2, 0, none⟩) 1 1) (.inl rfl) Try.results44 (.cons (.tmp rfl) .nil) rfl (Splits.of [0, 2] kr rfl)
 ·
  have h := condF hb1 h
  refine TC.skip (TX.next (TC.seq ?_))
  obtain ⟨r2, hq1, h⟩ := andE h
  obtain ⟨hg1, h⟩ := grdE h
  refine TC.pad 2 ?_
  show TC _ _ _ _ _ _ _ _ _ [mapA (fun n : Int => Value.int .i32 n) (fun p : Gfold_pair => Value.agg #[.int .i32 p.e0, .int .i32 p.e1]) bsplit1 Msplit1, cells b1 [.int .i32 (((getM r1 Msplit1).getD (⟨0, 0⟩ : Gfold_pair)).e0), .int .i32 (((getM r1 Msplit1).getD (⟨0, 0⟩ : Gfold_pair)).e1)] 79, emp, emp]
  refine let vals1 : (Value × Nat) → List (Nat × Nat × Value) := fun b => [(0, 17, .map (some bsplit1)), (1, 18, .pointer (some ⟨b1, 0, none⟩)), (2, 19, .int .i32 (((getM r1 Msplit1).getD (⟨0, 0⟩ : Gfold_pair)).e0)), (3, 20, b.1), (4, 21, .pointer (some ⟨b1, 1, none⟩)), (5, 22, .int .i32 (((getM r1 Msplit1).getD (⟨0, 0⟩ : Gfold_pair)).e1)), (6, 23, .slice (some ⟨b.2, 0, none⟩) 1 1)]; let LL1 : (Nat → Prop) → (Value × Nat) → List Asn := fun D b => [mapA (fun n : Int => Value.int .i32 n) (fun p : Gfold_pair => Value.agg #[.int .i32 p.e0, .int .i32 p.e1]) bsplit1 Msplit1, cells b1 [.int .i32 (((getM r1 Msplit1).getD (⟨0, 0⟩ : Gfold_pair)).e0), .int .i32 (((getM r1 Msplit1).getD (⟨0, 0⟩ : Gfold_pair)).e1)] 79, eD D emp [(3, vec (encI (.i32)) 21 1 b.1 r2)], eD D emp [(6, cells b.2 [.int .i32 (((getM r1 Msplit1).getD (⟨0, 0⟩ : Gfold_pair)).e1)] 21)]]; ?_
  refine TC.drawG (β := Value × Nat) 7 ((.slice none 0 0 : Value), (0 : Nat)) vals1 LL1 mixed kr kr dc (fun _ => rfl) (cons_eq rfl (cons_eq rfl (cons_eq eD_none (cons_eq eD_none rfl)))) (DrawG.cons ?_ (DrawG.cons ?_ (DrawG.cons ?_ (DrawG.cons ?_ (DrawG.cons ?_ (DrawG.cons ?_ (DrawG.cons ?_ DrawG.nil))))))) ?_
  ·
   intro D b hn hd hcl
   obtain ⟨v1, b3⟩ := b
   refine TO.rewL (L' := [mapA (fun n : Int => Value.int .i32 n) (fun p : Gfold_pair => Value.agg #[.int .i32 p.e0, .int .i32 p.e1]) bsplit1 Msplit1, cells b1 [.int .i32 (((getM r1 Msplit1).getD (⟨0, 0⟩ : Gfold_pair)).e0), .int .i32 (((getM r1 Msplit1).getD (⟨0, 0⟩ : Gfold_pair)).e1)] 79, emp, eD D emp [(6, cells b3 [.int .i32 (((getM r1 Msplit1).getD (⟨0, 0⟩ : Gfold_pair)).e1)] 21)]]) (cons_eq rfl (cons_eq rfl (cons_eq (eD_miss (fun hD => hn (hcl 3 _ rfl hD 0 dc)) eD_nil) (cons_eq rfl rfl)))) ?_
   refine TO.move rfl dc (dl_old (by rfl) rfl) ?_
   exact TX.valG (v1, b3) 0 (by rfl) (by rfl) rfl (dl_cons_eq (fun _ => rfl) (dl_cons_eq (fun _ => rfl) (dl_cons_eq (fun _ => rfl) (dl_cons_eq (fun _ => rfl) (dl_cons_eq (fun _ => rfl) (dl_cons_eq (fun _ => rfl) (dl_cons_eq (fun _ => rfl) rfl))))))) (cons_eq rfl (cons_eq rfl (cons_eq ((eD_skip (by rfl)).trans (eD_miss (fun hD => hn (hcl 3 _ rfl hD 0 dc)) eD_nil)) (cons_eq ((eD_skip (by rfl)).trans rfl) rfl))))
  ·
   intro D b hn hd hcl
   obtain ⟨v1, b3⟩ := b
   refine TO.rewL (L' := [mapA (fun n : Int => Value.int .i32 n) (fun p : Gfold_pair => Value.agg #[.int .i32 p.e0, .int .i32 p.e1]) bsplit1 Msplit1, cells b1 [.int .i32 (((getM r1 Msplit1).getD (⟨0, 0⟩ : Gfold_pair)).e0), .int .i32 (((getM r1 Msplit1).getD (⟨0, 0⟩ : Gfold_pair)).e1)] 79, emp, eD D emp [(6, cells b3 [.int .i32 (((getM r1 Msplit1).getD (⟨0, 0⟩ : Gfold_pair)).e1)] 21)]]) (cons_eq rfl (cons_eq rfl (cons_eq (eD_miss (fun hD => hn (hcl 2 _ rfl (hcl 3 _ rfl hD 2 dc) 1 dc)) eD_nil) (cons_eq rfl rfl)))) ?_
   refine TO.indexArr dc Try.underlying79 sz_21 rfl dc (dl_old (by rfl) rfl) rfl (show _ = 0 from rfl) ?_
   exact TX.valG (v1, b3) 1 (by rfl) (by rfl) rfl (dl_cons_eq (fun _ => rfl) (dl_cons_eq (fun _ => rfl) (dl_cons_eq (fun _ => rfl) (dl_cons_eq (fun _ => rfl) (dl_cons_eq (fun _ => rfl) (dl_cons_eq (fun _ => rfl) (dl_cons_eq (fun _ => rfl) rfl))))))) (cons_eq rfl (cons_eq rfl (cons_eq ((eD_skip (by rfl)).trans (eD_miss (fun hD => hn (hcl 2 _ rfl (hcl 3 _ rfl hD 2 dc) 1 dc)) eD_nil)) (cons_eq ((eD_skip (by rfl)).trans rfl) rfl))))
  ·
   intro D b hn hd hcl
   obtain ⟨v1, b3⟩ := b
   refine TO.rewL (L' := [mapA (fun n : Int => Value.int .i32 n) (fun p : Gfold_pair => Value.agg #[.int .i32 p.e0, .int .i32 p.e1]) bsplit1 Msplit1, cells b1 [.int .i32 (((getM r1 Msplit1).getD (⟨0, 0⟩ : Gfold_pair)).e0), .int .i32 (((getM r1 Msplit1).getD (⟨0, 0⟩ : Gfold_pair)).e1)] 79, emp, eD D emp [(6, cells b3 [.int .i32 (((getM r1 Msplit1).getD (⟨0, 0⟩ : Gfold_pair)).e1)] 21)]]) (cons_eq rfl (cons_eq rfl (cons_eq (eD_miss (fun hD => hn (hcl 3 _ rfl hD 2 dc)) eD_nil) (cons_eq rfl rfl)))) ?_
   refine TO.load (k := 1) sc_21 rfl dc (dl_lookup (m := 1) rfl rfl (hd 1 dc)) rfl rfl ?_
   exact TX.valG (v1, b3) 2 (by rfl) (by rfl) rfl (dl_cons_eq (fun _ => rfl) (dl_cons_eq (fun _ => rfl) (dl_cons_eq (fun _ => rfl) (dl_cons_eq (fun _ => rfl) (dl_cons_eq (fun _ => rfl) (dl_cons_eq (fun _ => rfl) (dl_cons_eq (fun _ => rfl) rfl))))))) (cons_eq rfl (cons_eq rfl (cons_eq ((eD_skip (by rfl)).trans (eD_miss (fun hD => hn (hcl 3 _ rfl hD 2 dc)) eD_nil)) (cons_eq ((eD_skip (by rfl)).trans rfl) rfl))))
  ·
   intro D b hn hd hcl
   obtain ⟨_, b3⟩ := b
   refine TO.rewL (L' := [mapA (fun n : Int => Value.int .i32 n) (fun p : Gfold_pair => Value.agg #[.int .i32 p.e0, .int .i32 p.e1]) bsplit1 Msplit1, cells b1 [.int .i32 (((getM r1 Msplit1).getD (⟨0, 0⟩ : Gfold_pair)).e0), .int .i32 (((getM r1 Msplit1).getD (⟨0, 0⟩ : Gfold_pair)).e1)] 79, emp, eD D emp [(6, cells b3 [.int .i32 (((getM r1 Msplit1).getD (⟨0, 0⟩ : Gfold_pair)).e1)] 21)]]) (cons_eq rfl (cons_eq rfl (cons_eq (eD_miss hn eD_nil) (cons_eq rfl rfl)))) ?_
   refine TO.call (vs := [.map (some bsplit1), .int .i32 (((getM r1 Msplit1).getD (⟨0, 0⟩ : Gfold_pair)).e0)]) rfl dc rfl (evL.cons (dl_lookup (m := 0) rfl rfl (hd 0 dc)) (evL.cons (dl_lookup (m := 2) rfl rfl (hd 2 dc)) evL.nil)) rfl en_44 (hrec hq1) (Splits.of [0] kr rfl) ?_
   rintro v1
   show TO _ _ _ _ _ _ _ _ _ _ [emp, cells b1 [.int .i32 (((getM r1 Msplit1).getD (⟨0, 0⟩ : Gfold_pair)).e0), .int .i32 (((getM r1 Msplit1).getD (⟨0, 0⟩ : Gfold_pair)).e1)] 79, emp, eD D emp [(6, cells b3 [.int .i32 (((getM r1 Msplit1).getD (⟨0, 0⟩ : Gfold_pair)).e1)] 21)], mapA (fun n : Int => Value.int .i32 n) (fun p : Gfold_pair => Value.agg #[.int .i32 p.e0, .int .i32 p.e1]) bsplit1 Msplit1, vec (encI (.i32)) 21 1 v1 r2]
   refine TO.weakenL (L' := [mapA (fun n : Int => Value.int .i32 n) (fun p : Gfold_pair => Value.agg #[.int .i32 p.e0, .int .i32 p.e1]) bsplit1 Msplit1, cells b1 [.int .i32 (((getM r1 Msplit1).getD (⟨0, 0⟩ : Gfold_pair)).e0), .int .i32 (((getM r1 Msplit1).getD (⟨0, 0⟩ : Gfold_pair)).e1)] 79, emp, eD D emp [(6, cells b3 [.int .i32 (((getM r1 Msplit1).getD (⟨0, 0⟩ : Gfold_pair)).e1)] 21)], vec (encI (.i32)) 21 1 v1 r2]) (Splits.of [4, 1, 2, 3, 5] kr rfl) ?_
   refine TO.place 2 rfl rfl ?_
   show TO _ _ _ _ _ _ _ _ _ _ [mapA (fun n : Int => Value.int .i32 n) (fun p : Gfold_pair => Value.agg #[.int .i32 p.e0, .int .i32 p.e1]) bsplit1 Msplit1, cells b1 [.int .i32 (((getM r1 Msplit1).getD (⟨0, 0⟩ : Gfold_pair)).e0), .int .i32 (((getM r1 Msplit1).getD (⟨0, 0⟩ : Gfold_pair)).e1)] 79, vec (encI (.i32)) 21 1 v1 r2, eD D emp [(6, cells b3 [.int .i32 (((getM r1 Msplit1).getD (⟨0, 0⟩ : Gfold_pair)).e1)] 21)]]
   exact TX.valG (v1, b3) 3 (by rfl) (by rfl) rfl (dl_cons_eq (fun _ => rfl) (dl_cons_eq (fun _ => rfl) (dl_cons_eq (fun _ => rfl) (dl_cons_eq (fun hD => absurd hD hn) (dl_cons_eq (fun _ => rfl) (dl_cons_eq (fun _ => rfl) (dl_cons_eq (fun _ => rfl) rfl))))))) (cons_eq rfl (cons_eq rfl (cons_eq (eD_hit (Or.inr rfl) rfl) (cons_eq ((eD_skip (by rfl)).trans rfl) rfl))))
  ·
   intro D b hn hd hcl
   obtain ⟨v1, b3⟩ := b
   refine TO.rewL (L' := [mapA (fun n : Int => Value.int .i32 n) (fun p : Gfold_pair => Value.agg #[.int .i32 p.e0, .int .i32 p.e1]) bsplit1 Msplit1, cells b1 [.int .i32 (((getM r1 Msplit1).getD (⟨0, 0⟩ : Gfold_pair)).e0), .int .i32 (((getM r1 Msplit1).getD (⟨0, 0⟩ : Gfold_pair)).e1)] 79, eD D emp [(3, vec (encI (.i32)) 21 1 v1 r2)], emp]) (cons_eq rfl (cons_eq rfl (cons_eq rfl (cons_eq (eD_miss (fun hD => hn (hcl 5 _ rfl (hcl 6 _ rfl hD 5 dc) 4 dc)) eD_nil) rfl)))) ?_
   refine TO.indexArr dc Try.underlying79 sz_21 rfl dc (dl_old (by rfl) rfl) rfl (show _ = 1 from rfl) ?_
   exact TX.valG (v1, b3) 4 (by rfl) (by rfl) rfl (dl_cons_eq (fun _ => rfl) (dl_cons_eq (fun _ => rfl) (dl_cons_eq (fun _ => rfl) (dl_cons_eq (fun _ => rfl) (dl_cons_eq (fun _ => rfl) (dl_cons_eq (fun _ => rfl) (dl_cons_eq (fun _ => rfl) rfl))))))) (cons_eq rfl (cons_eq rfl (cons_eq ((eD_skip (by rfl)).trans rfl) (cons_eq ((eD_skip (by rfl)).trans (eD_miss (fun hD => hn (hcl 5 _ rfl (hcl 6 _ rfl hD 5 dc) 4 dc)) eD_nil)) rfl))))
  ·
   intro D b hn hd hcl
   obtain ⟨v1, b3⟩ := b
   refine TO.rewL (L' := [mapA (fun n : Int => Value.int .i32 n) (fun p : Gfold_pair => Value.agg #[.int .i32 p.e0, .int .i32 p.e1]) bsplit1 Msplit1, cells b1 [.int .i32 (((getM r1 Msplit1).getD (⟨0, 0⟩ : Gfold_pair)).e0), .int .i32 (((getM r1 Msplit1).getD (⟨0, 0⟩ : Gfold_pair)).e1)] 79, eD D emp [(3, vec (encI (.i32)) 21 1 v1 r2)], emp]) (cons_eq rfl (cons_eq rfl (cons_eq rfl (cons_eq (eD_miss (fun hD => hn (hcl 6 _ rfl hD 5 dc)) eD_nil) rfl)))) ?_
   refine TO.load (k := 1) sc_21 rfl dc (dl_lookup (m := 4) rfl rfl (hd 4 dc)) rfl rfl ?_
   exact TX.valG (v1, b3) 5 (by rfl) (by rfl) rfl (dl_cons_eq (fun _ => rfl) (dl_cons_eq (fun _ => rfl) (dl_cons_eq (fun _ => rfl) (dl_cons_eq (fun _ => rfl) (dl_cons_eq (fun _ => rfl) (dl_cons_eq (fun _ => rfl) (dl_cons_eq (fun _ => rfl) rfl))))))) (cons_eq rfl (cons_eq rfl (cons_eq ((eD_skip (by rfl)).trans rfl) (cons_eq ((eD_skip (by rfl)).trans (eD_miss (fun hD => hn (hcl 6 _ rfl hD 5 dc)) eD_nil)) rfl))))
  ·
   intro D b hn hd hcl
   obtain ⟨v1, _⟩ := b
   refine TO.rewL (L' := [mapA (fun n : Int => Value.int .i32 n) (fun p : Gfold_pair => Value.agg #[.int .i32 p.e0, .int .i32 p.e1]) bsplit1 Msplit1, cells b1 [.int .i32 (((getM r1 Msplit1).getD (⟨0, 0⟩ : Gfold_pair)).e0), .int .i32 (((getM r1 Msplit1).getD (⟨0, 0⟩ : Gfold_pair)).e1)] 79, eD D emp [(3, vec (encI (.i32)) 21 1 v1 r2)], emp]) (cons_eq rfl (cons_eq rfl (cons_eq rfl (cons_eq (eD_miss hn eD_nil) rfl)))) ?_
   refine TO.buildSlice (cs := [.int .i32 (((getM r1 Msplit1).getD (⟨0, 0⟩ : Gfold_pair)).e1)]) (te := 21) (ps := [(0, .tmp 22)]) rfl dc (evP.cons (dl_lookup (m := 5) rfl rfl (hd 5 dc)) evP.nil) (fun _ => by kernel_rfl) (fun b3 => ?_)
   refine TO.place 3 rfl rfl ?_
   show TO _ _ _ _ _ _ _ _ _ _ [mapA (fun n : Int => Value.int .i32 n) (fun p : Gfold_pair => Value.agg #[.int .i32 p.e0, .int .i32 p.e1]) bsplit1 Msplit1, cells b1 [.int .i32 (((getM r1 Msplit1).getD (⟨0, 0⟩ : Gfold_pair)).e0), .int .i32 (((getM r1 Msplit1).getD (⟨0, 0⟩ : Gfold_pair)).e1)] 79, eD D emp [(3, vec (encI (.i32)) 21 1 v1 r2)], cells b3 [.int .i32 (((getM r1 Msplit1).getD (⟨0, 0⟩ : Gfold_pair)).e1)] 21]
   exact TX.valG (v1, b3) 6 (by rfl) (by rfl) rfl (dl_cons_eq (fun _ => rfl) (dl_cons_eq (fun _ => rfl) (dl_cons_eq (fun _ => rfl) (dl_cons_eq (fun _ => rfl) (dl_cons_eq (fun _ => rfl) (dl_cons_eq (fun _ => rfl) (dl_cons_eq (fun hD => absurd hD hn) rfl))))))) (cons_eq rfl (cons_eq rfl (cons_eq ((eD_skip (by rfl)).trans rfl) (cons_eq (eD_hit (Or.inr rfl) rfl) rfl))))
  intro D b hall
  obtain ⟨v1, b3⟩ := b
  refine TO.rewL (L' := [mapA (fun n : Int => Value.int .i32 n) (fun p : Gfold_pair => Value.agg #[.int .i32 p.e0, .int .i32 p.e1]) bsplit1 Msplit1, cells b1 [.int .i32 (((getM r1 Msplit1).getD (⟨0, 0⟩ : Gfold_pair)).e0), .int .i32 (((getM r1 Msplit1).getD (⟨0, 0⟩ : Gfold_pair)).e1)] 79, vec (encI (.i32)) 21 1 v1 r2, cells b3 [.int .i32 (((getM r1 Msplit1).getD (⟨0, 0⟩ : Gfold_pair)).e1)] 21]) (cons_eq rfl (cons_eq rfl (cons_eq (eD_hit (hall 3 dc) rfl) (cons_eq (eD_hit (hall 6 dc) rfl) rfl)))) ?_
  refine TO.appendVec (k := 2) (k2 := 3) (ys := [((getM r1 Msplit1).getD (⟨0, 0⟩ : Gfold_pair)).e1]) Try.underlying25 el_21 encI_len encI_one rfl dc rfl rfl rfl rfl rfl rfl hg1 (fun v2 => ?_)
  refine TO.assign rfl dc rfl (TO.nil (TX.next (TC.ret ?_)))
  cases h
  exact TX.fin (rs := [.tmp 4]) v2 (.inl rfl) Try.results44 (.cons (.tmp rfl) .nil) rfl (Splits.of [0, 2] kr rfl)
theorem fold_parted_fn {bsplit1 : Nat} {Msplit1 : List (Int × Gfold_pair)} {r1 : Int} {r : (List Int)} (h : fold_parted_v Msplit1 r1 = some r) : Fn Try.prog 44 [.map (some bsplit1), .int .i32 r1] [mapA (fun n : Int => Value.int .i32 n) (fun p : Gfold_pair => Value.agg #[.int .i32 p.e0, .int .i32 p.e1]) bsplit1 Msplit1] (fun v0 : Value => v0) (fun v0 => [mapA (fun n : Int => Value.int .i32 n) (fun p : Gfold_pair => Value.agg #[.int .i32 p.e0, .int .i32 p.e1]) bsplit1 Msplit1, vec (encI (.i32)) 21 1 v0 r]) := by
 unfold fold_parted_v at h
 exact fold_parted_fb fuel  h
def fold_Bare_1_v (u1 : Gfold_unit) : Option ByteArray := some (Utf8.encode u1.base)
set_option maxRecDepth 100000 in
set_option maxHeartbeats 4000000 in
theorem fold_Bare_1_fn {u1 : Gfold_unit} {u1_h0 u1_h1 : Hd} {r : ByteArray} (h : fold_Bare_1_v u1 = some r) : Fn Try.prog 56 [.agg #[.int .i64 u1.at_, .int .u8 u1.broken, .int .i32 u1.base, u1_h0.v, u1_h1.v]] [vec (encI (.i32)) 21 1 u1_h0.v u1.low, vec (encI (.i32)) 21 1 u1_h1.v u1.high] (fun _b : Unit => .string r) (fun _b => [vec (encI (.i32)) 21 1 u1_h0.v u1.low, vec (encI (.i32)) 21 1 u1_h1.v u1.high]) := by
 unfold fold_Bare_1_v at h
 refine Fn.intro Try.func56 rfl Try.ntmps56 (by simp) ?_
 intro w0 K
 refine TC.seq (TC.region ?_)
 refine TO.box rfl dc rfl (fun b1 => ?_)
 refine TO.assign rfl dc rfl (TO.nil (TX.next (TC.seq (TC.region (TO.fieldAddr fl_73_2 rfl dc rfl (show _ = 2 from rfl) (TO.load (k := 2) sc_21 rfl dc rfl rfl rfl (TO.conv rfl dc rfl (conv_rune Try.underlying21 Try.underlying9) (TO.assign rfl dc rfl (TO.nil (TX.next (TC.ret ?_)))))))))))
 cases h
 exact TX.fin (rs := [.tmp 2]) () (.inl rfl) Try.results56 (.cons (.tmp rfl) .nil) rfl (Splits.of [0, 1] kr rfl)
def fold_Apart_1_v (u1 : Gfold_unit) : Option ByteArray := grd ((Utf8.encode u1.base).size + (strOf u1.low).size ≤ 9223372036854775807) <| grd (((Utf8.encode u1.base) ++ (strOf u1.low)).size + (strOf u1.high).size ≤ 9223372036854775807) <| some (((Utf8.encode u1.base) ++ (strOf u1.low)) ++ (strOf u1.high))
set_option maxRecDepth 100000 in
set_option maxHeartbeats 4000000 in
theorem fold_Apart_1_fn {u1 : Gfold_unit} {u1_h0 u1_h1 : Hd} {r : ByteArray} (h : fold_Apart_1_v u1 = some r) : Fn Try.prog 48 [.agg #[.int .i64 u1.at_, .int .u8 u1.broken, .int .i32 u1.base, u1_h0.v, u1_h1.v]] [vec (encI (.i32)) 21 1 u1_h0.v u1.low, vec (encI (.i32)) 21 1 u1_h1.v u1.high] (fun _b : Unit => .string r) (fun _b => [vec (encI (.i32)) 21 1 u1_h0.v u1.low, vec (encI (.i32)) 21 1 u1_h1.v u1.high]) := by
 unfold fold_Apart_1_v at h
 refine Fn.intro Try.func48 rfl Try.ntmps48 (by simp) ?_
 intro w0 K
 refine TC.seq (TC.region ?_)
 refine TO.box rfl dc rfl (fun b1 => ?_)
 refine TO.assign rfl dc rfl (TO.nil (TX.next (TC.seq (TC.region (TO.fieldAddr fl_73_2 rfl dc rfl (show _ = 2 from rfl) (TO.load (k := 2) sc_21 rfl dc rfl rfl rfl (TO.conv rfl dc rfl (conv_rune Try.underlying21 Try.underlying9) (TO.fieldAddr fl_73_3 rfl dc rfl (show _ = 3 from rfl) (TO.load (k := 2) sc_25 rfl dc rfl rfl rfl (TO.runesStr (k := 0) rfl dc rfl rfl Try.underlying25 Try.underlying21 Try.underlying9 ?_))))))))))
 obtain ⟨hg1, h⟩ := grdE h
 refine TO.bin rfl dc rfl rfl (bin_sadd hg1) (TO.fieldAddr fl_73_4 rfl dc rfl (show _ = 4 from rfl) (TO.load (k := 2) sc_25 rfl dc rfl rfl rfl (TO.runesStr (k := 1) rfl dc rfl rfl Try.underlying25 Try.underlying21 Try.underlying9 ?_)))
 obtain ⟨hg2, h⟩ := grdE h
 refine TO.bin rfl dc rfl rfl (bin_sadd hg2) (TO.assign rfl dc rfl (TO.nil (TX.next (TC.ret ?_))))
 cases h
 exact TX.fin (rs := [.tmp 2]) () (.inl rfl) Try.results48 (.cons (.tmp rfl) .nil) rfl (Splits.of [0, 1] kr rfl)
def fold_plain_s1 (u1 : Gfold_unit) (j1 : Option ByteArray) (ag1 : Int → Bool → Nat → Option ByteArray) (from3 : Int) (head3 : Bool) (m3 : Nat) : Option ByteArray := bcond (decide (m3 < (pcs str_f9f7e721.data.toList).length)) ( andThen ((pcs str_f9f7e721.data.toList)[m3]?) fun (p1 : Pc) => joinK (fun (j2 : Int → Option ByteArray) => bcond (((p1.r : Int) : Int) == 32) ( bcond (decide ((0 : Int) ≤ from3)) ( grd (0 ≤ (from3 : Int) ∧ (from3 : Int) ≤ (p1.i : Int) ∧ ((p1.i : Int) : Int) ≤ (str_f9f7e721.size : Int)) <| some (cutB str_f9f7e721 from3 (p1.i : Int))
) ( bcond (((p1.r : Int) : Int) == 32) ( j2 from3
) ( bcond (head3) ( bcond (((p1.r : Int) : Int) == (lower u1.base)) ( grd (I64 ((p1.i : Int) + ((Utf8.encode (p1.r : Int)).size : Int))) <| j2 ((p1.i : Int) + ((Utf8.encode (p1.r : Int)).size : Int))
) ( j2 from3
)
) ( j2 from3
)
)
)
) ( bcond (((p1.r : Int) : Int) == 32) ( j2 from3
) ( bcond (head3) ( bcond (((p1.r : Int) : Int) == (lower u1.base)) ( grd (I64 ((p1.i : Int) + ((Utf8.encode (p1.r : Int)).size : Int))) <| j2 ((p1.i : Int) + ((Utf8.encode (p1.r : Int)).size : Int))
) ( j2 from3
)
) ( j2 from3
)
)
)
) (fun (from4 : Int) => ag1 from4 (((p1.r : Int) : Int) == 32) (m3 + 1)
)
) ( j1
)
def fold_plain_v (u1 : Gfold_unit) : Option ByteArray := andThen (fold_unit_letter_v u1) fun (r1 : Bool) => bcond (!r1) ( some (Utf8.encode u1.base)
) ( joinK (fun (j1 : Option ByteArray) => grd (I32 u1.base) <| loopG (fun _ _ _ => none) (fold_plain_s1 u1 j1) fuel (-1) true 0
) ( some (Utf8.encode (lower u1.base))
)
)
set_option maxRecDepth 100000 in
set_option maxHeartbeats 4000000 in
theorem fold_plain_fn {u1 : Gfold_unit} {u1_h0 u1_h1 : Hd} {r : ByteArray} (h : fold_plain_v u1 = some r) : Fn Try.prog 47 [.agg #[.int .i64 u1.at_, .int .u8 u1.broken, .int .i32 u1.base, u1_h0.v, u1_h1.v]] [vec (encI (.i32)) 21 1 u1_h0.v u1.low, vec (encI (.i32)) 21 1 u1_h1.v u1.high] (fun _b : Unit => .string r) (fun _b => [vec (encI (.i32)) 21 1 u1_h0.v u1.low, vec (encI (.i32)) 21 1 u1_h1.v u1.high]) := by
 unfold fold_plain_v at h
 refine Fn.intro Try.func47 rfl Try.ntmps47 (by simp) ?_
 intro w0 K
 refine TC.seq (TC.region ?_)
 refine TO.box rfl dc rfl (fun b1 => ?_)
 refine TO.assign rfl dc rfl (TO.nil (TX.next (TC.seq (TC.seq (TC.region (TO.loads (k := 2) (cs := [.int .i64 u1.at_, .int .u8 u1.broken, .int .i32 u1.base, u1_h0.v, u1_h1.v]) rw_73 rfl dc rfl rfl rfl rfl ?_))))))
 obtain ⟨r1, hq1, h⟩ := andE h
 refine TO.callK (v := .bool r1) (vs := [.agg #[.int .i64 u1.at_, .int .u8 u1.broken, .int .i32 u1.base, u1_h0.v, u1_h1.v]]) rfl dc rfl rfl rfl en_52 (fold_unit_letter_fn (u1 := u1) (u1_h0 := u1_h0) (u1_h1 := u1_h1) hq1) [0, 1] kr rfl (TO.un rfl dc rfl un_not (TO.nil (TX.next ?_)))
 refine TC.condB rfl (fun hb1 => ?_) (fun hb1 => ?_)
 ·
  have h := condT hb1 h
  refine TC.seq (TC.region (TO.fieldAddr fl_73_2 rfl dc rfl (show _ = 2 from rfl) (TO.load (k := 2) sc_21 rfl dc rfl rfl rfl (TO.conv rfl dc rfl (conv_rune Try.underlying21 Try.underlying9) (TO.assign rfl dc rfl (TO.nil (TX.next (TC.ret (TX.thenRet ?_)))))))))
  cases h
  exact TX.fin (rs := [.tmp 2]) () (.inl rfl) Try.results47 (.cons (.tmp rfl) .nil) rfl (Splits.of [0, 1] kr rfl)
 ·
  have h := condF hb1 h
  refine TC.skip (TX.next ?_)
  obtain ⟨j1, hj1, h⟩ := joinE h
  refine TC.cutN (β := Unit) 3 rfl (fun b => j1 = some r) (fun b => []) (fun b => [(3, .int .i32 (lower u1.base))]) (fun b => [vec (encI (.i32)) 21 1 u1_h0.v u1.low, vec (encI (.i32)) 21 1 u1_h1.v u1.high]) (fun cut => ?_) ?_
  ·
   refine TC.seq (TC.region (TO.fieldAddr fl_73_2 rfl dc rfl (show _ = 2 from rfl) (TO.load (k := 2) sc_21 rfl dc rfl rfl rfl ?_)))
   obtain ⟨hg1, h⟩ := grdE h
   refine TO.callP (v := .int .i32 (lower u1.base)) (vs := [.int .i32 u1.base]) rfl dc rfl rfl rfl en_69 (FnP.of_same fun w => lower_any u1.base w hg1.1 hg1.2) ?_
   refine TO.assign rfl dc rfl (TO.nil (TX.next (TC.seq (TC.region (TO.assign rfl dc rfl (TO.nil (TX.next (TC.seq (TC.region (TO.assign rfl dc rfl (TO.nil (TX.next (cut ?_)))))))))))))
   refine TC.seq (TC.region ?_)
   refine TO.rangeStr Try.underlying9 rfl dc rfl (fun b2 => ?_)
   show TO _ _ _ _ _ _ _ _ _ _ [vec (encI (.i32)) 21 1 u1_h0.v u1.low, vec (encI (.i32)) 21 1 u1_h1.v u1.high, cells b1 [.int .i64 u1.at_, .int .u8 u1.broken, .int .i32 u1.base, u1_h0.v, u1_h1.v] 73, obj b2 (.stringIter str_f9f7e721 (posAt str_f9f7e721 0))]
   refine TO.nil (TX.next (TC.block ?_))
   refine TC.loopD (β := Nat × Int × Bool × Nat) (fun b => loopG (fun _ _ _ => none) (fold_plain_s1 u1 j1) b.1 b.2.1 b.2.2.1 b.2.2.2 = some r) (fun b => []) (fun b => [(3, .int .i32 (lower u1.base)), (4, .int .i64 b.2.1), (5, .bool b.2.2.1), (17, .pointer (some ⟨b2, 0, none⟩))]) (fun b => [vec (encI (.i32)) 21 1 u1_h0.v u1.low, vec (encI (.i32)) 21 1 u1_h1.v u1.high, obj b2 (.stringIter str_f9f7e721 (posAt str_f9f7e721 b.2.2.2))]) (fun b => b.1) (fuel, (-1), true, 0) h rfl (Sbs.cons rfl (Sbs.cons rfl (Sbs.cons rfl (Sbs.cons rfl (Sbs.nil))))) (Splits.of [0, 1, 3] kr rfl) ?_
   rintro ⟨n1, from3, head3, m3⟩ h
   cases n1 with
   | zero => exact noneE h
   | succ n1 =>
    obtain ⟨ag1, hag1⟩ : ∃ ag, ag = loopG (fun _ _ _ => none) (fold_plain_s1 u1 j1) n1 := ⟨_, rfl⟩
    have h : fold_plain_s1 u1 j1 ag1 from3 head3 m3 = some r := by rw [hag1]; exact h
    unfold fold_plain_s1 at h
    show TC _ _ _ _ _ ([]) _ _ [(3, .int .i32 (lower u1.base)), (4, .int .i64 from3), (5, .bool head3), (17, .pointer (some ⟨b2, 0, none⟩))] [vec (encI (.i32)) 21 1 u1_h0.v u1.low, vec (encI (.i32)) 21 1 u1_h1.v u1.high, obj b2 (.stringIter str_f9f7e721 (posAt str_f9f7e721 m3))]
    refine TC.seq (TC.region ?_)
    refine TO.bySplit (b := decide (m3 < (pcs str_f9f7e721.data.toList).length)) (fun hb2 => ?_) (fun hb2 => ?_)
    ·
     have h := condT hb2 h
     obtain ⟨p1, hq2, h⟩ := andE h
     refine TO.nextStr (k := 2) (m := m3) (p := p1) rfl dc rfl rfl hq2 (TO.extract rfl dc rfl rfl (TO.nil (TX.next (TC.seq (TC.condT rfl (TC.skip (TX.next (TC.block ?_))))))))
     obtain ⟨j2, hj2, h⟩ := joinE h
     refine TC.cutN (β := Int) 1 rfl (fun b => j2 b = some r) (fun b => []) (fun b => [(3, .int .i32 (lower u1.base)), (4, .int .i64 b), (7, .int .i32 (p1.r : Int)), (17, .pointer (some ⟨b2, 0, none⟩))]) (fun b => [vec (encI (.i32)) 21 1 u1_h0.v u1.low, vec (encI (.i32)) 21 1 u1_h1.v u1.high, obj b2 (.stringIter str_f9f7e721 (posAt str_f9f7e721 (m3 + 1)))]) (fun cut => ?_) ?_
     ·
      refine TC.seq (TC.region (TO.extract rfl dc rfl rfl (TO.extract rfl dc rfl rfl (TO.assign rfl dc rfl (TO.assign rfl dc rfl (TO.nil (TX.next (cut (TC.block (TC.seq (TC.region (TO.move rfl dc rfl (TO.bin rfl dc rfl rfl bin_eql ?_)))))))))))))
      refine TO.move rfl dc rfl ?_
      refine TO.split (s := 25) rfl (fun hb3 => ?_) (fun hb3 => ?_)
      ·
       have h := condT hb3 h
       refine TO.move rfl dc rfl (TO.bin rfl dc rfl rfl bin_geq (TO.pick (b := true) rfl dc rfl rfl (TO.assign rfl dc rfl (TO.nil (TX.next ?_)))))
       refine TC.condB rfl (fun hb4 => ?_) (fun hb4 => ?_)
       ·
        have h := condT hb4 h
        refine TC.seq (TC.region (TO.move rfl dc rfl (TO.move rfl dc rfl ?_)))
        obtain ⟨hg2, h⟩ := grdE h
        refine TO.slice rfl dc rfl rfl rfl (slice_stringI (i := from3) (j := (p1.i : Int)) Try.underlying9 (.inr rfl) (.inr rfl) hg2) (TO.assign rfl dc rfl (TO.nil (TX.next (TC.ret (TX.blockRet (TX.thenRet (TX.blockRet (TX.thenRet (TX.blockRet (TX.thenRet ?_))))))))))
        cases h
        exact TX.fin (rs := [.tmp 2]) () (.inl rfl) Try.results47 (.cons (.tmp rfl) .nil) rfl (Splits.of [0, 1] kr rfl)
       ·
        have h := condF hb4 h
        refine TC.seq (TC.region (TO.move rfl dc rfl (TO.bin rfl dc rfl rfl bin_eql (TO.assign rfl dc rfl (TO.nil (TX.next ?_))))))
        refine TC.condB rfl (fun hb5 => ?_) (fun hb5 => ?_)
        ·
         have h := condT hb5 h
         refine TC.skip (TX.blockNormal ?_)
         exact TX.meetD from3 h rfl (Sbs.cons rfl (Sbs.cons rfl (Sbs.cons rfl (Sbs.cons rfl (Sbs.nil))))) (Splits.of [0, 1, 2] kr rfl)
        ·
         have h := condF hb5 h
         refine TC.seq (TC.region (TO.move rfl dc rfl (TO.move rfl dc rfl ?_)))
         refine TO.split (s := 37) rfl (fun hb6 => ?_) (fun hb6 => ?_)
         ·
          have h := condT hb6 h
          refine TO.move rfl dc rfl (TO.move rfl dc rfl (TO.bin rfl dc rfl rfl bin_eql (TO.pick (b := true) rfl dc rfl rfl (TO.assign rfl dc rfl (TO.nil (TX.next ?_))))))
          refine TC.condB rfl (fun hb7 => ?_) (fun hb7 => ?_)
          ·
           have h := condT hb7 h
           refine TC.region (TO.move rfl dc rfl (TO.move rfl dc rfl (TO.conv rfl dc rfl (conv_rune Try.underlying21 Try.underlying9) (TO.lenStr rfl dc rfl Try.underlying9 ?_))))
           obtain ⟨hg3, h⟩ := grdE h
           refine TO.bin rfl dc rfl rfl (bin_add (r := (p1.i : Int) + ((Utf8.encode (p1.r : Int)).size : Int)) (IntWalk.i64_in _ hg3)) (TO.assign rfl dc rfl (TO.nil (TX.blockNormal ?_)))
           exact TX.meetD ((p1.i : Int) + ((Utf8.encode (p1.r : Int)).size : Int)) h rfl (Sbs.cons rfl (Sbs.cons rfl (Sbs.cons rfl (Sbs.cons rfl (Sbs.nil))))) (Splits.of [0, 1, 2] kr rfl)
          ·
           have h := condF hb7 h
           refine TC.skip (TX.blockNormal ?_)
           exact TX.meetD from3 h rfl (Sbs.cons rfl (Sbs.cons rfl (Sbs.cons rfl (Sbs.cons rfl (Sbs.nil))))) (Splits.of [0, 1, 2] kr rfl)
         ·
          have h := condF hb6 h
          refine TO.skip rfl dc (TO.skip rfl dc (TO.skip rfl dc (TO.pick (b := false) rfl dc rfl rfl (TO.assign rfl dc rfl (TO.nil (TX.next (TC.condF rfl (TC.skip (TX.blockNormal ?_)))))))))
          exact TX.meetD from3 h rfl (Sbs.cons rfl (Sbs.cons rfl (Sbs.cons rfl (Sbs.cons rfl (Sbs.nil))))) (Splits.of [0, 1, 2] kr rfl)
      ·
       have h := condF hb3 h
       refine TO.skip rfl dc (TO.skip rfl dc (TO.pick (b := false) rfl dc rfl rfl (TO.assign rfl dc rfl (TO.nil (TX.next (TC.condF rfl (TC.seq (TC.region (TO.move rfl dc rfl (TO.bin rfl dc rfl rfl bin_eql (TO.assign rfl dc rfl (TO.nil (TX.next ?_)))))))))))))
       refine TC.condB rfl (fun hb8 => ?_) (fun hb8 => ?_)
       ·
        have h := condT hb8 h
        refine TC.skip (TX.blockNormal ?_)
        exact TX.meetD from3 h rfl (Sbs.cons rfl (Sbs.cons rfl (Sbs.cons rfl (Sbs.cons rfl (Sbs.nil))))) (Splits.of [0, 1, 2] kr rfl)
       ·
        have h := condF hb8 h
        refine TC.seq (TC.region (TO.move rfl dc rfl (TO.move rfl dc rfl ?_)))
        refine TO.split (s := 37) rfl (fun hb9 => ?_) (fun hb9 => ?_)
        ·
         have h := condT hb9 h
         refine TO.move rfl dc rfl (TO.move rfl dc rfl (TO.bin rfl dc rfl rfl bin_eql (TO.pick (b := true) rfl dc rfl rfl (TO.assign rfl dc rfl (TO.nil (TX.next ?_))))))
         refine TC.condB rfl (fun hb10 => ?_) (fun hb10 => ?_)
         ·
          have h := condT hb10 h
          refine TC.region (TO.move rfl dc rfl (TO.move rfl dc rfl (TO.conv rfl dc rfl (conv_rune Try.underlying21 Try.underlying9) (TO.lenStr rfl dc rfl Try.underlying9 ?_))))
          obtain ⟨hg4, h⟩ := grdE h
          refine TO.bin rfl dc rfl rfl (bin_add (r := (p1.i : Int) + ((Utf8.encode (p1.r : Int)).size : Int)) (IntWalk.i64_in _ hg4)) (TO.assign rfl dc rfl (TO.nil (TX.blockNormal ?_)))
          exact TX.meetD ((p1.i : Int) + ((Utf8.encode (p1.r : Int)).size : Int)) h rfl (Sbs.cons rfl (Sbs.cons rfl (Sbs.cons rfl (Sbs.cons rfl (Sbs.nil))))) (Splits.of [0, 1, 2] kr rfl)
         ·
          have h := condF hb10 h
          refine TC.skip (TX.blockNormal ?_)
          exact TX.meetD from3 h rfl (Sbs.cons rfl (Sbs.cons rfl (Sbs.cons rfl (Sbs.cons rfl (Sbs.nil))))) (Splits.of [0, 1, 2] kr rfl)
        ·
         have h := condF hb9 h
         refine TO.skip rfl dc (TO.skip rfl dc (TO.skip rfl dc (TO.pick (b := false) rfl dc rfl rfl (TO.assign rfl dc rfl (TO.nil (TX.next (TC.condF rfl (TC.skip (TX.blockNormal ?_)))))))))
         exact TX.meetD from3 h rfl (Sbs.cons rfl (Sbs.cons rfl (Sbs.cons rfl (Sbs.cons rfl (Sbs.nil))))) (Splits.of [0, 1, 2] kr rfl)
     ·
      rintro from4 h
      rw [hj2] at h
      show TC _ _ _ _ _ ([]) _ _ [(3, .int .i32 (lower u1.base)), (4, .int .i64 from4), (7, .int .i32 (p1.r : Int)), (17, .pointer (some ⟨b2, 0, none⟩))] [vec (encI (.i32)) 21 1 u1_h0.v u1.low, vec (encI (.i32)) 21 1 u1_h1.v u1.high, obj b2 (.stringIter str_f9f7e721 (posAt str_f9f7e721 (m3 + 1)))]
      refine TC.region (TO.move rfl dc rfl (TO.bin rfl dc rfl rfl bin_eql (TO.assign rfl dc rfl (TO.nil (TX.blockNormal ?_)))))
      subst hag1
      exact TX.againD (n1, from4, ((p1.r : Int) : Int) == 32, m3 + 1) h (Nat.lt_succ_self _) rfl (Sbs.cons rfl (Sbs.cons rfl (Sbs.cons rfl (Sbs.cons rfl (Sbs.nil))))) (Splits.of [0, 1, 2] kr rfl)
    ·
     have h := condF hb2 h
     refine TO.nextEnd (k := 2) (m := m3) rfl dc rfl rfl (Nat.le_of_not_lt (of_decide_eq_false hb2)) (TO.extract rfl dc rfl rfl (TO.nil (TX.next (TC.seq (TC.condF rfl (TC.exit (TX.thenExit (TX.thenExit (TX.blockHere ?_)))))))))
     exact TX.meetD () h rfl (Sbs.cons rfl (Sbs.nil)) (Splits.of [0, 1] kr rfl)
  ·
   rintro _ h
   rw [hj1] at h
   show TC _ _ _ _ _ ([]) _ _ [(3, .int .i32 (lower u1.base))] [vec (encI (.i32)) 21 1 u1_h0.v u1.low, vec (encI (.i32)) 21 1 u1_h1.v u1.high]
   refine TC.seq (TC.region (TO.move rfl dc rfl (TO.conv rfl dc rfl (conv_rune Try.underlying21 Try.underlying9) (TO.assign rfl dc rfl (TO.nil (TX.next (TC.ret ?_)))))))
   cases h
   exact TX.fin (rs := [.tmp 2]) () (.inl rfl) Try.results47 (.cons (.tmp rfl) .nil) rfl (Splits.of [0, 1] kr rfl)
end Go.Proofs.Ythjkafeklflgbaa
namespace Go.Proofs.Ythjkafeklflgbaa
open Go.RowKit Go.Lib
set_option linter.unusedVariables false
set_option linter.unusedSimpArgs false
def str_37a80f8f : ByteArray := ⟨(List.toArray (List.append (List.append (List.append (List.append [204, 128, 65, 195, 128, 69, 195, 136, 73, 195, 140, 79, 195, 146, 85, 195, 153, 97, 195, 160, 101, 195, 168, 105, 195, 172, 111, 195, 178, 117, 195, 185, 208, 149, 208, 128, 208, 152, 208, 141] [208, 181, 209, 144, 208, 184, 209, 157, 204, 129, 65, 195, 129, 69, 195, 137, 73, 195, 141, 79, 195, 147, 85, 195, 154, 89, 195, 157, 97, 195, 161, 101, 195, 169, 105, 195, 173, 111, 195, 179, 117]) (List.append [195, 186, 121, 195, 189, 67, 196, 134, 76, 196, 185, 78, 197, 131, 82, 197, 148, 83, 197, 154, 90, 197, 185, 99, 196, 135, 108, 196, 186, 110, 197, 132, 114, 197, 149, 115, 197, 155, 122, 197, 186] [206, 145, 206, 134, 206, 149, 206, 136, 206, 151, 206, 137, 206, 153, 206, 138, 206, 159, 206, 140, 206, 165, 206, 142, 206, 169, 206, 143, 206, 177, 206, 172, 206, 181, 206, 173, 206, 183, 206, 174, 206])) (List.append (List.append [185, 206, 175, 206, 191, 207, 140, 207, 133, 207, 141, 207, 137, 207, 142, 208, 147, 208, 131, 208, 154, 208, 140, 208, 179, 209, 147, 208, 186, 209, 156, 207, 138, 206, 144, 207, 139, 206, 176, 204] [130, 65, 195, 130, 69, 195, 138, 73, 195, 142, 79, 195, 148, 85, 195, 155, 97, 195, 162, 101, 195, 170, 105, 195, 174, 111, 195, 180, 117, 195, 187, 67, 196, 136, 71, 196, 156, 72, 196, 164, 74]) (List.append [196, 180, 83, 197, 156, 87, 197, 180, 89, 197, 182, 99, 196, 137, 103, 196, 157, 104, 196, 165, 106, 196, 181, 115, 197, 157, 119, 197, 181, 121, 197, 183, 204, 131, 65, 195, 131, 78, 195, 145, 79] [195, 149, 97, 195, 163, 110, 195, 177, 111, 195, 181, 73, 196, 168, 85, 197, 168, 105, 196, 169, 117, 197, 169, 204, 132, 65, 196, 128, 69, 196, 146, 73, 196, 170, 79, 197, 140, 85, 197, 170, 97]))) (List.append (List.append (List.append [196, 129, 101, 196, 147, 105, 196, 171, 111, 197, 141, 117, 197, 171, 204, 134, 65, 196, 130, 69, 196, 148, 71, 196, 158, 73, 196, 172, 79, 197, 142, 85, 197, 172, 97, 196, 131, 101, 196, 149] [103, 196, 159, 105, 196, 173, 111, 197, 143, 117, 197, 173, 208, 152, 208, 153, 208, 163, 208, 142, 208, 184, 208, 185, 209, 131, 209, 158, 204, 135, 67, 196, 138, 69, 196, 150, 71, 196, 160, 73, 196]) (List.append [176, 90, 197, 187, 99, 196, 139, 101, 196, 151, 103, 196, 161, 122, 197, 188, 204, 136, 65, 195, 132, 69, 195, 139, 73, 195, 143, 79, 195, 150, 85, 195, 156, 97, 195, 164, 101, 195, 171, 105, 195] [175, 111, 195, 182, 117, 195, 188, 121, 195, 191, 89, 197, 184, 208, 149, 208, 129, 208, 134, 208, 135, 208, 181, 209, 145, 209, 150, 209, 151, 206, 153, 206, 170, 206, 165, 206, 171, 206, 185, 207, 138])) (List.append (List.append [207, 133, 207, 139, 204, 138, 65, 195, 133, 85, 197, 174, 97, 195, 165, 117, 197, 175, 204, 139, 79, 197, 144, 85, 197, 176, 111, 197, 145, 117, 197, 177, 204, 140, 67, 196, 140, 68, 196, 142, 69] [196, 154, 76, 196, 189, 78, 197, 135, 82, 197, 152, 83, 197, 160, 84, 197, 164, 90, 197, 189, 99, 196, 141, 100, 196, 143, 101, 196, 155, 108, 196, 190, 110, 197, 136, 114, 197, 153, 115, 197, 161]) (List.append [116, 197, 165, 122, 197, 190, 204, 167, 67, 195, 135, 71, 196, 162, 75, 196, 182, 76, 196, 187, 78, 197, 133, 82, 197, 150, 83, 197, 158, 84, 197, 162, 99, 195, 167, 103, 196, 163, 107, 196, 183] [108, 196, 188, 110, 197, 134, 114, 197, 151, 115, 197, 159, 116, 197, 163, 204, 168, 65, 196, 132, 69, 196, 152, 73, 196, 174, 85, 197, 178, 97, 196, 133, 101, 196, 153, 105, 196, 175, 117, 197, 179])))))⟩
def fold_pairs_s1 (ag1 : Int → Int → Bool → Nat → Option (List (Gfold_pair × Int))) (p7 : Int) (p8 : Int) (base4 : Bool) (m4 : Nat) : Option (List (Gfold_pair × Int)) := bcond (decide (m4 < (pcs str_37a80f8f.data.toList).length)) ( andThen ((pcs str_37a80f8f.data.toList)[m4]?) fun (p9 : Pc) => joinK (fun (j1 : Int → Option (List (Gfold_pair × Int))) => grd (I32 (p9.r : Int)) <| bcond (((kind (p9.r : Int)) : Int) == 2) ( ag1 p7 (p9.r : Int) true (m4 + 1)
) ( bcond (base4) ( j1 (p9.r : Int)
) ( consO ((⟨p7, p8⟩ : Gfold_pair), (p9.r : Int)) <| j1 p7
)
)
) (fun (p10 : Int) => ag1 p10 p8 (!base4) (m4 + 1)
)
) ( some []
)
def fold_pairs_v  : Option (List (Gfold_pair × Int)) := loopG (fun _ _ _ _ => none) (fold_pairs_s1) fuel 0 0 true 0
set_option maxRecDepth 100000 in
set_option maxHeartbeats 4000000 in
theorem fold_pairs_itr  {xs : (List (Gfold_pair × Int))} (h : fold_pairs_v = some xs) : Itr Try.prog 62 [] (fun q : Gfold_pair × Int => [.agg #[.int .i32 q.1.e0, .int .i32 q.1.e1], .int .i32 q.2]) xs [] := by
 unfold fold_pairs_v at h
 refine Itr.intro Try.func62 rfl Try.ntmps62 (by simp) ?_
 intro l w0 K I X hRo hy
 obtain ⟨r0, hx0⟩ : ∃ r, xs = [] ++ r := ⟨xs, rfl⟩
 have hr0 : xs = r0 := hx0
 rw [hr0] at h
 refine TC.seq (TC.region ?_)
 refine TO.alloc zr_79 rfl dc (fun b1 => ?_)
 refine TO.nil (TX.next (TC.seq (TC.region (TO.assign rfl dc rfl (TO.nil (TX.next (TC.seq (TC.region ?_))))))))
 refine TO.rangeStr Try.underlying9 rfl dc rfl (fun b2 => ?_)
 show TO _ _ _ _ _ _ _ _ _ _ [I [], cells b1 [.int .i32 0, .int .i32 0] 79, obj b2 (.stringIter str_37a80f8f (posAt str_37a80f8f 0))]
 refine TO.nil (TX.next (TC.block ?_))
 refine TC.loopD (β := Nat × Int × Int × Bool × Nat × (List (Gfold_pair × Int)) × (List (Gfold_pair × Int))) (fun b => loopG (fun _ _ _ _ => none) (fold_pairs_s1) b.1 b.2.1 b.2.2.1 b.2.2.2.1 b.2.2.2.2.1 = some b.2.2.2.2.2.2 ∧ xs = b.2.2.2.2.2.1 ++ b.2.2.2.2.2.2) (fun b => []) (fun b => [(0, .func (.yield l) #[] #[]), (2, .pointer (some ⟨b1, 0, none⟩)), (3, .bool b.2.2.2.1), (6, .pointer (some ⟨b2, 0, none⟩))]) (fun b => [I b.2.2.2.2.2.1, cells b1 [.int .i32 b.2.1, .int .i32 b.2.2.1] 79, obj b2 (.stringIter str_37a80f8f (posAt str_37a80f8f b.2.2.2.2.1))]) (fun b => b.1) (fuel, 0, 0, true, 0, ([] : List (Gfold_pair × Int)), r0) ⟨h, hx0⟩ rfl (Sbs.cons rfl (Sbs.cons rfl (Sbs.cons rfl (Sbs.cons rfl (Sbs.nil))))) (Splits.of [0, 1, 2] kr rfl) ?_
 rintro ⟨n1, p7, p8, base4, m4, acc3, rr3⟩ ⟨h, hx3⟩
 cases n1 with
 | zero => exact noneE h
 | succ n1 =>
  obtain ⟨ag1, hag1⟩ : ∃ ag, ag = loopG (fun _ _ _ _ => none) (fold_pairs_s1) n1 := ⟨_, rfl⟩
  have h : fold_pairs_s1 ag1 p7 p8 base4 m4 = some rr3 := by rw [hag1]; exact h
  unfold fold_pairs_s1 at h
  show TC _ _ _ _ _ ([]) _ _ [(0, .func (.yield l) #[] #[]), (2, .pointer (some ⟨b1, 0, none⟩)), (3, .bool base4), (6, .pointer (some ⟨b2, 0, none⟩))] [I acc3, cells b1 [.int .i32 p7, .int .i32 p8] 79, obj b2 (.stringIter str_37a80f8f (posAt str_37a80f8f m4))]
  refine TC.seq (TC.region ?_)
  refine TO.bySplit (b := decide (m4 < (pcs str_37a80f8f.data.toList).length)) (fun hb1 => ?_) (fun hb1 => ?_)
  ·
   have h := condT hb1 h
   obtain ⟨p9, hq1, h⟩ := andE h
   refine TO.nextStr (k := 2) (m := m4) (p := p9) rfl dc rfl rfl hq1 (TO.extract rfl dc rfl rfl (TO.nil (TX.next (TC.seq (TC.condT rfl (TC.skip (TX.next (TC.block ?_))))))))
   obtain ⟨j1, hj1, h⟩ := joinE h
   refine TC.cutN (β := Int × (List (Gfold_pair × Int)) × (List (Gfold_pair × Int))) 1 rfl (fun b => j1 b.1 = some b.2.2 ∧ xs = b.2.1 ++ b.2.2) (fun b => []) (fun b => [(0, .func (.yield l) #[] #[]), (2, .pointer (some ⟨b1, 0, none⟩)), (3, .bool base4), (6, .pointer (some ⟨b2, 0, none⟩))]) (fun b => [I b.2.1, cells b1 [.int .i32 b.1, .int .i32 p8] 79, obj b2 (.stringIter str_37a80f8f (posAt str_37a80f8f (m4 + 1)))]) (fun cut => ?_) ?_
   ·
    refine TC.seq (TC.region (TO.extract rfl dc rfl rfl (TO.assign rfl dc rfl (TO.nil (TX.next (cut (TC.block (TC.seq (TC.region (TO.move rfl dc rfl ?_))))))))))
    obtain ⟨hg1, h⟩ := grdE h
    refine TO.callP (v := .int .i64 (kind (p9.r : Int))) (vs := [.int .i32 (p9.r : Int)]) rfl dc rfl rfl rfl en_30 (FnP.of_same fun w => kind_any (p9.r : Int) w hg1.1 hg1.2) ?_
    refine TO.bin rfl dc rfl rfl bin_eql (TO.assign rfl dc rfl (TO.nil (TX.next ?_)))
    refine TC.condB rfl (fun hb2 => ?_) (fun hb2 => ?_)
    ·
     have h := condT hb2 h
     refine TC.seq (TC.region (TO.move rfl dc rfl (TO.indexArr dc Try.underlying79 sz_21 rfl dc rfl rfl (show _ = 1 from rfl) ?_)))
     refine TO.store (k := 1) (l' := [.int .i32 p7, .int .i32 (p9.r : Int)]) sz_21 rfl rfl rfl rfl rfl (fun _ _ => rfl) rfl ?_
     show TO _ _ _ _ _ _ _ _ _ _ [I acc3, cells b1 [.int .i32 p7, .int .i32 (p9.r : Int)] 79, obj b2 (.stringIter str_37a80f8f (posAt str_37a80f8f (m4 + 1)))]
     refine TO.assign rfl dc rfl (TO.nil (TX.next (TC.exit (TX.blockOn dc (TX.thenExit (TX.blockHere ?_))))))
     subst hag1
     exact TX.againD (n1, p7, (p9.r : Int), true, m4 + 1, acc3, rr3) ⟨h, hx3⟩ (Nat.lt_succ_self _) rfl (Sbs.cons rfl (Sbs.cons rfl (Sbs.cons rfl (Sbs.cons rfl (Sbs.nil))))) (Splits.of [0, 1, 2] kr rfl)
    ·
     have h := condF hb2 h
     refine TC.seq (TC.region (TO.move rfl dc rfl (TO.assign rfl dc rfl (TO.nil (TX.next ?_)))))
     refine TC.condB rfl (fun hb3 => ?_) (fun hb3 => ?_)
     ·
      have h := condT hb3 h
      refine TC.region (TO.move rfl dc rfl (TO.indexArr dc Try.underlying79 sz_21 rfl dc rfl rfl (show _ = 0 from rfl) ?_))
      refine TO.store (k := 1) (l' := [.int .i32 (p9.r : Int), .int .i32 p8]) sz_21 rfl rfl rfl rfl rfl (fun _ _ => rfl) rfl ?_
      show TO _ _ _ _ _ _ _ _ _ _ [I acc3, cells b1 [.int .i32 (p9.r : Int), .int .i32 p8] 79, obj b2 (.stringIter str_37a80f8f (posAt str_37a80f8f (m4 + 1)))]
      refine TO.nil (TX.blockNormal ?_)
      exact TX.meetD ((p9.r : Int), acc3, rr3) ⟨h, hx3⟩ rfl (Sbs.cons rfl (Sbs.cons rfl (Sbs.cons rfl (Sbs.cons rfl (Sbs.nil))))) (Splits.of [0, 1, 2] kr rfl)
     ·
      have h := condF hb3 h
      refine TC.seq (TC.region (TO.move rfl dc rfl (TO.loads (k := 1) (cs := [.int .i32 p7, .int .i32 p8]) rw_79 rfl dc rfl rfl rfl rfl (TO.move rfl dc rfl ?_))))
      obtain ⟨rr5, hr1, h⟩ := consE h
      have hx5 : xs = acc3 ++ ((⟨p7, p8⟩ : Gfold_pair), (p9.r : Int)) :: rr5 := by rw [hx3, hr1]
      refine TO.yield hy rfl dc rfl hx5 rfl (k := 0) rfl ?_ ?_
      ·
       have hx6 : xs = (acc3 ++ [((⟨p7, p8⟩ : Gfold_pair), (p9.r : Int))]) ++ rr5 := by rw [hx5]; simp
       show TO _ _ _ _ _ _ _ _ _ _ [I (acc3 ++ [((⟨p7, p8⟩ : Gfold_pair), (p9.r : Int))]), cells b1 [.int .i32 p7, .int .i32 p8] 79, obj b2 (.stringIter str_37a80f8f (posAt str_37a80f8f (m4 + 1)))]
       refine TO.un rfl dc rfl un_not (TO.assign rfl dc rfl (TO.nil (TX.next (TC.condF rfl (TC.skip (TX.blockNormal ?_))))))
       exact TX.meetD (p7, acc3 ++ [((⟨p7, p8⟩ : Gfold_pair), (p9.r : Int))], rr5) ⟨h, hx6⟩ rfl (Sbs.cons rfl (Sbs.cons rfl (Sbs.cons rfl (Sbs.cons rfl (Sbs.nil))))) (Splits.of [0, 1, 2] kr rfl)
      ·
       show TO _ _ _ _ _ _ _ _ _ _ [X (acc3 ++ [((⟨p7, p8⟩ : Gfold_pair), (p9.r : Int))]), cells b1 [.int .i32 p7, .int .i32 p8] 79, obj b2 (.stringIter str_37a80f8f (posAt str_37a80f8f (m4 + 1)))]
       refine TO.un rfl dc rfl un_not (TO.assign rfl dc rfl (TO.nil (TX.next (TC.condT rfl (TC.ret (TX.blockRet (TX.thenRet (TX.blockRet (TX.thenRet (TX.blockRet ?_))))))))))
       exact TX.finX (ds := []) acc3 ((⟨p7, p8⟩ : Gfold_pair), (p9.r : Int)) rr5 hx5 (.inl rfl) Splits.nil Try.results62 (Splits.of [0] kr rfl)
   ·
    rintro ⟨p10, acc4, rr4⟩ ⟨h, hx4⟩
    rw [hj1] at h
    show TC _ _ _ _ _ ([]) _ _ [(0, .func (.yield l) #[] #[]), (2, .pointer (some ⟨b1, 0, none⟩)), (3, .bool base4), (6, .pointer (some ⟨b2, 0, none⟩))] [I acc4, cells b1 [.int .i32 p10, .int .i32 p8] 79, obj b2 (.stringIter str_37a80f8f (posAt str_37a80f8f (m4 + 1)))]
    refine TC.region (TO.move rfl dc rfl (TO.un rfl dc rfl un_not (TO.assign rfl dc rfl (TO.nil (TX.blockNormal ?_)))))
    subst hag1
    exact TX.againD (n1, p10, p8, !base4, m4 + 1, acc4, rr4) ⟨h, hx4⟩ (Nat.lt_succ_self _) rfl (Sbs.cons rfl (Sbs.cons rfl (Sbs.cons rfl (Sbs.cons rfl (Sbs.nil))))) (Splits.of [0, 1, 2] kr rfl)
  ·
   have h := condF hb1 h
   refine TO.nextEnd (k := 2) (m := m4) rfl dc rfl rfl (Nat.le_of_not_lt (of_decide_eq_false hb1)) (TO.extract rfl dc rfl rfl (TO.nil (TX.next (TC.seq (TC.condF rfl (TC.exit (TX.thenExit (TX.thenExit (TX.blockHere ?_)))))))))
   cases h
   exact TX.finY (ds := []) (.inr rfl) Splits.nil Try.results62 (congrArg I (hx3.trans (List.append_nil _))) (Splits.of [0] kr rfl)
end Go.Proofs.Ythjkafeklflgbaa
namespace Go.Proofs.Ythjkafeklflgbaa
open Go.RowKit Go.Lib
set_option linter.unusedVariables false
set_option linter.unusedSimpArgs false
def fold_tables_s1 (x1 : Gfold_pair × Int) (ag1 : (List (Gfold_pair × Int)) → (List (Int × Gfold_pair)) → Option ((List (Gfold_pair × Int)) × (List (Int × Gfold_pair)))) (join4 : List (Gfold_pair × Int)) (split4 : List (Int × Gfold_pair)) : Option ((List (Gfold_pair × Int)) × (List (Int × Gfold_pair))) := ag1 (putM x1.1 x1.2 join4) (putM x1.2 x1.1 split4)
def fold_tables_v  : Option ((List (Gfold_pair × Int)) × (List (Int × Gfold_pair))) := joinK (fun (j1 : (List (Gfold_pair × Int)) → (List (Int × Gfold_pair)) → Option ((List (Gfold_pair × Int)) × (List (Int × Gfold_pair)))) => andThen (fold_pairs_v) fun (its1 : (List (Gfold_pair × Int))) => joinK (fun (d1 : (List (Gfold_pair × Int)) → (List (Int × Gfold_pair)) → Option ((List (Gfold_pair × Int)) × (List (Int × Gfold_pair)))) => rangeG d1 (fold_tables_s1) its1 ([] : List (Gfold_pair × Int)) ([] : List (Int × Gfold_pair))
) (fun (join4 : List (Gfold_pair × Int)) (split4 : List (Int × Gfold_pair)) => j1 join4 split4
)
) (fun (join1 : List (Gfold_pair × Int)) (split1 : List (Int × Gfold_pair)) => some (join1, split1)
)
set_option maxRecDepth 100000 in
set_option maxHeartbeats 4000000 in
theorem fold_tables_fn  {r : ((List (Gfold_pair × Int)) × (List (Int × Gfold_pair)))} (h : fold_tables_v = some r) : Fn Try.prog 43 [] [] (fun b : Nat × Nat => .tuple #[.map (some b.1), .map (some b.2)]) (fun b => [mapA (fun p : Gfold_pair => Value.agg #[.int .i32 p.e0, .int .i32 p.e1]) (fun n : Int => Value.int .i32 n) b.1 r.1, mapA (fun n : Int => Value.int .i32 n) (fun p : Gfold_pair => Value.agg #[.int .i32 p.e0, .int .i32 p.e1]) b.2 r.2]) := by
 unfold fold_tables_v at h
 refine Fn.intro Try.func43 rfl Try.ntmps43 (by simp) ?_
 intro w0 K
 refine TC.star0 ?_
 show TC _ _ _ _ _ _ _ _ _ [star ((([] : List Nat) : List Nat).map mark)]
 obtain ⟨j1, hj1, h⟩ := joinE h
 refine TC.cutN (β := (List (Gfold_pair × Int)) × (List (Int × Gfold_pair)) × Nat × Nat × Nat × Nat × (List Nat)) 2 rfl (fun b => j1 b.1 b.2.1 = some r) (fun b => marksOf b.2.2.2.2.2.2) (fun b => [(2, .pointer (some ⟨b.2.2.1, 0, none⟩)), (3, .pointer (some ⟨b.2.2.2.2.1, 0, none⟩))]) (fun b => [cells b.2.2.1 [.map (some b.2.2.2.1)] 62, mapA (fun p : Gfold_pair => Value.agg #[.int .i32 p.e0, .int .i32 p.e1]) (fun n : Int => Value.int .i32 n) b.2.2.2.1 b.1, cells b.2.2.2.2.1 [.map (some b.2.2.2.2.2.1)] 63, mapA (fun n : Int => Value.int .i32 n) (fun p : Gfold_pair => Value.agg #[.int .i32 p.e0, .int .i32 p.e1]) b.2.2.2.2.2.1 b.2.1, star ((b.2.2.2.2.2.2 : List Nat).map mark)]) (fun cut => ?_) ?_
 ·
  refine TC.seq (TC.region (TO.assign rfl dc rfl (TO.assign rfl dc rfl (TO.nil (TX.next (TC.seq (TC.region ?_)))))))
  refine TO.makeMap (fun p : Gfold_pair => Value.agg #[.int .i32 p.e0, .int .i32 p.e1]) (fun n : Int => Value.int .i32 n) rfl dc (fun b5 => ?_)
  refine TO.makeMap (fun n : Int => Value.int .i32 n) (fun p : Gfold_pair => Value.agg #[.int .i32 p.e0, .int .i32 p.e1]) rfl dc (fun b6 => ?_)
  show TO _ _ _ _ _ _ _ _ _ _ [star ((([] : List Nat) : List Nat).map mark), mapA (fun p : Gfold_pair => Value.agg #[.int .i32 p.e0, .int .i32 p.e1]) (fun n : Int => Value.int .i32 n) b5 ([] : List (Gfold_pair × Int)), mapA (fun n : Int => Value.int .i32 n) (fun p : Gfold_pair => Value.agg #[.int .i32 p.e0, .int .i32 p.e1]) b6 ([] : List (Int × Gfold_pair))]
  refine TO.alloc zr_62 rfl dc (fun b7 => ?_)
  refine TO.alloc zr_63 rfl dc (fun b8 => ?_)
  show TO _ _ _ _ _ _ _ _ _ _ [star ((([] : List Nat) : List Nat).map mark), mapA (fun p : Gfold_pair => Value.agg #[.int .i32 p.e0, .int .i32 p.e1]) (fun n : Int => Value.int .i32 n) b5 ([] : List (Gfold_pair × Int)), mapA (fun n : Int => Value.int .i32 n) (fun p : Gfold_pair => Value.agg #[.int .i32 p.e0, .int .i32 p.e1]) b6 ([] : List (Int × Gfold_pair)), cells b7 [.map none] 62, cells b8 [.map none] 63]
  refine TO.store (k := 3) (l' := [.map (some b5)]) sz_62 rfl rfl rfl rfl rfl (fun _ _ => rfl) rfl ?_
  refine TO.store (k := 4) (l' := [.map (some b6)]) sz_63 rfl rfl rfl rfl rfl (fun _ _ => rfl) rfl ?_
  show TO _ _ _ _ _ _ _ _ _ _ [star ((([] : List Nat) : List Nat).map mark), mapA (fun p : Gfold_pair => Value.agg #[.int .i32 p.e0, .int .i32 p.e1]) (fun n : Int => Value.int .i32 n) b5 ([] : List (Gfold_pair × Int)), mapA (fun n : Int => Value.int .i32 n) (fun p : Gfold_pair => Value.agg #[.int .i32 p.e0, .int .i32 p.e1]) b6 ([] : List (Int × Gfold_pair)), cells b7 [.map (some b5)] 62, cells b8 [.map (some b6)] 63]
  refine TO.nil (TX.next (cut (TC.block ?_)))
  obtain ⟨its1, hq1, h⟩ := andE h
  obtain ⟨d1, hd1, h⟩ := joinE h
  refine TC.range (α := Gfold_pair × Int) (β := (List (Gfold_pair × Int)) × (List (Int × Gfold_pair))) (γ := Unit) (δ := Nat) (ps := [8, 9]) Ro.nil rfl en_62 (fold_pairs_itr hq1) (fun pre b => ∀ post, its1 = pre ++ post → rangeG d1 (fold_tables_s1) post b.1 b.2 = some r) (fun pre b => [cells b7 [.map (some b5)] 62, mapA (fun p : Gfold_pair => Value.agg #[.int .i32 p.e0, .int .i32 p.e1]) (fun n : Int => Value.int .i32 n) b5 b.1, cells b8 [.map (some b6)] 63, mapA (fun n : Int => Value.int .i32 n) (fun p : Gfold_pair => Value.agg #[.int .i32 p.e0, .int .i32 p.e1]) b6 b.2]) (fun c pre g => False) (fun c pre g => []) (fun pre x b j => [(0, .map none), (1, .map none), (2, .pointer (some ⟨b7, 0, none⟩)), (3, .pointer (some ⟨b8, 0, none⟩)), (4, .pointer (some ⟨j, 0, none⟩)), (5, .int .i32 x.2)]) (fun pre x b j => [cells b7 [.map (some b5)] 62, mapA (fun p : Gfold_pair => Value.agg #[.int .i32 p.e0, .int .i32 p.e1]) (fun n : Int => Value.int .i32 n) b5 b.1, cells b8 [.map (some b6)] 63, mapA (fun n : Int => Value.int .i32 n) (fun p : Gfold_pair => Value.agg #[.int .i32 p.e0, .int .i32 p.e1]) b6 b.2, cells j [.int .i32 x.1.e0, .int .i32 x.1.e1] 79]) (([] : List (Gfold_pair × Int)), ([] : List (Int × Gfold_pair))) (fun post e => by rw [List.nil_append] at e; subst e; exact h) (Splits.of [3, 1, 4, 2] kr rfl) trivial (fun _ => rfl) dc ?_ ?_ ?_ ?_
  ·
   rintro lp rc pre x1 post ⟨join4, split4⟩ w1 K1 hxs1 hext hro hinv
   refine TC.seq (TC.region ?_)
   refine TO.alloc zr_79 rfl dc (fun b9 => ?_)
   refine TO.stores (k := 4) (vs := [.int .i32 x1.1.e0, .int .i32 x1.1.e1]) (l' := [.int .i32 x1.1.e0, .int .i32 x1.1.e1]) sz_79 rfl rfl rfl rfl rfl (show _ ≤ _ by simp) rfl rfl ?_
   show TO _ _ _ _ _ _ _ _ _ _ [cells b7 [.map (some b5)] 62, mapA (fun p : Gfold_pair => Value.agg #[.int .i32 p.e0, .int .i32 p.e1]) (fun n : Int => Value.int .i32 n) b5 join4, cells b8 [.map (some b6)] 63, mapA (fun n : Int => Value.int .i32 n) (fun p : Gfold_pair => Value.agg #[.int .i32 p.e0, .int .i32 p.e1]) b6 split4, cells b9 [.int .i32 x1.1.e0, .int .i32 x1.1.e1] 79]
   refine TO.nil (TX.next (TC.region (TO.assign rfl dc rfl (TO.nil ?_))))
   exact fun a w ha hw => ⟨b9, (Sbs.cons rfl (Sbs.cons rfl (Sbs.cons rfl (Sbs.cons rfl (Sbs.cons rfl (Sbs.cons rfl (Sbs.nil))))))) _ _ _ ha, hw.weaken (Splits.of [0, 1, 2, 3, 4] kr rfl)⟩
  ·
   rintro lp rc pre x1 post1 ⟨join4, split4⟩ jb1 w1 K1 hxs1 hext hro hinv
   have h := hinv (x1 :: post1) hxs1
   obtain ⟨ag1, hag1⟩ : ∃ ag, ag = rangeG d1 (fold_tables_s1) post1 := ⟨_, rfl⟩
   have h : fold_tables_s1 x1 ag1 join4 split4 = some r := by rw [hag1]; exact h
   unfold fold_tables_s1 at h
   show TC _ _ _ _ _ _ _ _ [(0, .map none), (1, .map none), (2, .pointer (some ⟨b7, 0, none⟩)), (3, .pointer (some ⟨b8, 0, none⟩)), (4, .pointer (some ⟨jb1, 0, none⟩)), (5, .int .i32 x1.2)] [cells b7 [.map (some b5)] 62, mapA (fun p : Gfold_pair => Value.agg #[.int .i32 p.e0, .int .i32 p.e1]) (fun n : Int => Value.int .i32 n) b5 join4, cells b8 [.map (some b6)] 63, mapA (fun n : Int => Value.int .i32 n) (fun p : Gfold_pair => Value.agg #[.int .i32 p.e0, .int .i32 p.e1]) b6 split4, cells jb1 [.int .i32 x1.1.e0, .int .i32 x1.1.e1] 79]
   refine TC.block ?_
   refine TC.drawB (β := Unit) 7 6 _ [(0, 10, .map (some b5)), (1, 11, .agg #[.int .i32 x1.1.e0, .int .i32 x1.1.e1]), (2, 12, .map (some b6)), (3, 13, .int .i32 x1.2), (4, 14, .int .i32 x1.2), (5, 15, .agg #[.int .i32 x1.1.e0, .int .i32 x1.1.e1])] (fun _b => []) (fun _b => [cells b7 [.map (some b5)] 62, mapA (fun p : Gfold_pair => Value.agg #[.int .i32 p.e0, .int .i32 p.e1]) (fun n : Int => Value.int .i32 n) b5 (putM x1.1 x1.2 join4), cells b8 [.map (some b6)] 63, mapA (fun n : Int => Value.int .i32 n) (fun p : Gfold_pair => Value.agg #[.int .i32 p.e0, .int .i32 p.e1]) b6 split4, cells jb1 [.int .i32 x1.1.e0, .int .i32 x1.1.e1] 79]) mixed kr kr rfl dc dc (by rfl) kr kr (DrawPreX.cons ?_ (DrawPreX.cons ?_ (DrawPreX.cons ?_ (DrawPreX.cons ?_ (DrawPreX.cons ?_ (DrawPreX.cons ?_ (DrawPreX.here DrawPreX.nil))))))) (fun _b => (DrawPreX.cons ?_ (DrawPreX.cons ?_ (DrawPreX.cons ?_ (DrawPreX.cons ?_ (DrawPreX.cons ?_ (DrawPreX.cons ?_ (DrawPreX.here DrawPreX.nil)))))))) ?_ ?_
   ·
    intro D hn hd hcl hu hi
    refine TO.load (k := 0) sc_62 rfl dc (dl_old (by rfl) rfl) rfl rfl ?_
    exact TX.quiet 0 hu hi rfl
   ·
    intro D hn hd hcl hu hi
    refine TO.loads (k := 4) (cs := [.int .i32 x1.1.e0, .int .i32 x1.1.e1]) rw_79 rfl dc (dl_old (by rfl) rfl) rfl rfl rfl ?_
    exact TX.quiet 1 hu hi rfl
   ·
    intro D hn hd hcl hu hi
    refine TO.load (k := 2) sc_63 rfl dc (dl_old (by rfl) rfl) rfl rfl ?_
    exact TX.quiet 2 hu hi rfl
   ·
    intro D hn hd hcl hu hi
    refine TO.move rfl dc (dl_old (by rfl) rfl) ?_
    exact TX.quiet 3 hu hi rfl
   ·
    intro D hn hd hcl hu hi
    refine TO.move rfl dc (dl_old (by rfl) rfl) ?_
    exact TX.quiet 4 hu hi rfl
   ·
    intro D hn hd hcl hu hi
    refine TO.loads (k := 4) (cs := [.int .i32 x1.1.e0, .int .i32 x1.1.e1]) rw_79 rfl dc (dl_old (by rfl) rfl) rfl rfl rfl ?_
    exact TX.quiet 5 hu hi rfl
   ·
    intro D hn hd hcl hu hi
    refine TO.load (k := 0) sc_62 rfl dc (dl_old (by rfl) rfl) rfl rfl ?_
    exact TX.quiet 0 hu hi rfl
   ·
    intro D hn hd hcl hu hi
    refine TO.loads (k := 4) (cs := [.int .i32 x1.1.e0, .int .i32 x1.1.e1]) rw_79 rfl dc (dl_old (by rfl) rfl) rfl rfl rfl ?_
    exact TX.quiet 1 hu hi rfl
   ·
    intro D hn hd hcl hu hi
    refine TO.load (k := 2) sc_63 rfl dc (dl_old (by rfl) rfl) rfl rfl ?_
    exact TX.quiet 2 hu hi rfl
   ·
    intro D hn hd hcl hu hi
    refine TO.move rfl dc (dl_old (by rfl) rfl) ?_
    exact TX.quiet 3 hu hi rfl
   ·
    intro D hn hd hcl hu hi
    refine TO.move rfl dc (dl_old (by rfl) rfl) ?_
    exact TX.quiet 4 hu hi rfl
   ·
    intro D hn hd hcl hu hi
    refine TO.loads (k := 4) (cs := [.int .i32 x1.1.e0, .int .i32 x1.1.e1]) rw_79 rfl dc (dl_old (by rfl) rfl) rfl rfl rfl ?_
    exact TX.quiet 5 hu hi rfl
   ·
    intro D hn hd hcl
    refine TO.mapUpdate (k := 1) (ek := (fun p : Gfold_pair => Value.agg #[.int .i32 p.e0, .int .i32 p.e1])) (ev' := (fun n : Int => Value.int .i32 n)) (kk := x1.1) (vv := x1.2) (KeyOk.arr2 (f0 := fun p : Gfold_pair => p.e0) (f1 := fun p : Gfold_pair => p.e1) (fun a b h1 h2 => by cases a; cases b; simp_all) Try.underlying79 Try.underlying21 sz_21) Try.underlying62 rfl (dl_lookup (m := 0) kr rfl (hd 0 dc)) (dl_lookup (m := 1) kr rfl (hd 1 dc)) (dl_lookup (m := 4) kr rfl (hd 4 dc)) rfl ?_
    exact fun a w ha hw => ⟨(), ha, hw⟩
   intro _b
   show TO _ _ _ _ _ _ _ _ _ _ [cells b7 [.map (some b5)] 62, mapA (fun p : Gfold_pair => Value.agg #[.int .i32 p.e0, .int .i32 p.e1]) (fun n : Int => Value.int .i32 n) b5 (putM x1.1 x1.2 join4), cells b8 [.map (some b6)] 63, mapA (fun n : Int => Value.int .i32 n) (fun p : Gfold_pair => Value.agg #[.int .i32 p.e0, .int .i32 p.e1]) b6 split4, cells jb1 [.int .i32 x1.1.e0, .int .i32 x1.1.e1] 79]
   refine TO.mapUpdate (k := 3) (ek := (fun n : Int => Value.int .i32 n)) (ev' := (fun p : Gfold_pair => Value.agg #[.int .i32 p.e0, .int .i32 p.e1])) (kk := x1.2) (vv := x1.1) (KeyOk.int Try.underlying21) Try.underlying63 rfl rfl rfl rfl rfl ?_
   refine TO.nil (TX.blockNormal ?_)
   exact TX.round (putM x1.1 x1.2 join4, putM x1.2 x1.1 split4) (fun post2 e2 => by have e9 := snoc_post hxs1 e2; subst e9; subst hag1; exact h) (Splits.of [0, 1, 2, 3] kr rfl)
  ·
   rintro dm1 ⟨join4, split4⟩ hinv
   have h : d1 join4 split4 = some r := hinv [] (List.append_nil _).symm
   rw [hd1] at h
   show TX _ _ _ _ _ _ _ [star ((([] : List Nat) : List Nat).map mark), emp, emp, emp, emp, cells b7 [.map (some b5)] 62, mapA (fun p : Gfold_pair => Value.agg #[.int .i32 p.e0, .int .i32 p.e1]) (fun n : Int => Value.int .i32 n) b5 join4, cells b8 [.map (some b6)] 63, mapA (fun n : Int => Value.int .i32 n) (fun p : Gfold_pair => Value.agg #[.int .i32 p.e0, .int .i32 p.e1]) b6 split4, mark dm1]
   refine TX.starCons (k := 9) (j := 0) rfl rfl dc ?_
   show TX _ _ _ _ _ _ _ [star ((dm1 :: ([] : List Nat) : List Nat).map mark), emp, emp, emp, emp, cells b7 [.map (some b5)] 62, mapA (fun p : Gfold_pair => Value.agg #[.int .i32 p.e0, .int .i32 p.e1]) (fun n : Int => Value.int .i32 n) b5 join4, cells b8 [.map (some b6)] 63, mapA (fun n : Int => Value.int .i32 n) (fun p : Gfold_pair => Value.agg #[.int .i32 p.e0, .int .i32 p.e1]) b6 split4, emp]
   refine TX.blockNormal ?_
   exact TX.meetD (join4, split4, b7, b5, b8, b6, dm1 :: ([] : List Nat)) h rfl (Sbs.cons rfl (Sbs.cons rfl (Sbs.nil))) (Splits.of [5, 6, 7, 8, 0] kr rfl)
  ·
   rintro dm1 c pre x1 post g hxs hX
   exact (show False from hX).elim
 ·
  rintro ⟨join1, split1, b1, b2, b3, b4, ds1⟩ h
  rw [hj1] at h
  show TC _ _ _ _ _ (marksOf ds1) _ _ [(2, .pointer (some ⟨b1, 0, none⟩)), (3, .pointer (some ⟨b3, 0, none⟩))] [cells b1 [.map (some b2)] 62, mapA (fun p : Gfold_pair => Value.agg #[.int .i32 p.e0, .int .i32 p.e1]) (fun n : Int => Value.int .i32 n) b2 join1, cells b3 [.map (some b4)] 63, mapA (fun n : Int => Value.int .i32 n) (fun p : Gfold_pair => Value.agg #[.int .i32 p.e0, .int .i32 p.e1]) b4 split1, star ((ds1 : List Nat).map mark)]
  refine TC.seq ?_
  refine TC.drawN 3 [(0, 16, .map (some b2)), (1, 17, .map (some b4)), (2, 0, .map (some b2))] mixed kr kr dc (by rfl) kr kr (DrawPre.cons ?_ (DrawPre.cons ?_ (DrawPre.cons ?_ DrawPre.nil))) ?_
  ·
   intro D hn hd hcl hu hi
   refine TO.load (k := 0) sc_62 rfl dc (dl_old (by rfl) rfl) rfl rfl ?_
   exact TX.quiet 0 hu hi rfl
  ·
   intro D hn hd hcl hu hi
   refine TO.load (k := 2) sc_63 rfl dc (dl_old (by rfl) rfl) rfl rfl ?_
   exact TX.quiet 1 hu hi rfl
  ·
   intro D hn hd hcl hu hi
   refine TO.assign rfl dc (dl_lookup (m := 0) hu rfl (hd 0 dc)) ?_
   exact TX.quiet 2 hu hi rfl
  refine TO.assign rfl dc rfl (TO.nil (TX.next (TC.ret ?_)))
  cases h
  exact TX.finM (rs := [.tmp 0, .tmp 1]) ds1 (b2, b4) (.inl rfl) (Splits.open0 (k := 4) rfl) Try.results43 (.cons (.tmp rfl) (.cons (.tmp rfl) .nil)) rfl (Splits.of [1, 3] kr rfl)
def fold_Join_s1 (base1 : Int) (mark1 : Int) (e1 : Int → Option (Int × Bool)) (x1 : Gfold_pair × Int) (ag1 : Option (Int × Bool)) : Option (Int × Bool) := bcond (eq_Gfold_pair x1.1 (⟨base1, mark1⟩ : Gfold_pair)) ( e1 x1.2
) ( ag1
)
def fold_Join_v (base1 : Int) (mark1 : Int) : Option (Int × Bool) := joinK (fun (j1 : Option (Int × Bool)) => andThen (fold_pairs_v) fun (its1 : (List (Gfold_pair × Int))) => joinK (fun (e1 : Int → Option (Int × Bool)) => joinK (fun (d1 : Option (Int × Bool)) => rangeG d1 (fold_Join_s1 base1 mark1 e1) its1
) ( j1
)
) (fun (x2 : Int) => some (x2, true)
)
) ( some (0, false)
)
set_option maxRecDepth 100000 in
set_option maxHeartbeats 4000000 in
theorem fold_Join_fn {base1 : Int} {mark1 : Int} {r : (Int × Bool)} (h : fold_Join_v base1 mark1 = some r) : FnP Try.prog 33 [.int .i32 base1, .int .i32 mark1] (.tuple #[.int .i32 r.1, .bool r.2]) := by
 unfold fold_Join_v at h
 refine FnP.intro Try.func33 rfl Try.ntmps33 (by simp) ?_
 intro w0 K
 refine TC.star0 ?_
 show TC _ _ _ _ _ _ _ _ _ [star ((([] : List Nat) : List Nat).map mark)]
 obtain ⟨j1, hj1, h⟩ := joinE h
 refine TC.cutN (β := Nat × Nat × (List Nat)) 1 rfl (fun b => j1 = some r) (fun b => marksOf b.2.2) (fun b => [(4, .pointer (some ⟨b.1, 0, none⟩)), (5, .pointer (some ⟨b.2.1, 0, none⟩))]) (fun b => [cells b.1 [.int .i32 0] 21, cells b.2.1 [.bool false] 4, star ((b.2.2 : List Nat).map mark)]) (fun cut => ?_) ?_
 ·
  refine TC.seq (TC.region ?_)
  refine TO.box rfl dc rfl (fun b3 => ?_)
  refine TO.box rfl dc rfl (fun b4 => ?_)
  show TO _ _ _ _ _ _ _ _ _ _ [star ((([] : List Nat) : List Nat).map mark), cells b3 [.int .i32 base1] 21, cells b4 [.int .i32 mark1] 21]
  refine TO.alloc zr_21 rfl dc (fun b5 => ?_)
  refine TO.alloc zr_4 rfl dc (fun b6 => ?_)
  show TO _ _ _ _ _ _ _ _ _ _ [star ((([] : List Nat) : List Nat).map mark), cells b3 [.int .i32 base1] 21, cells b4 [.int .i32 mark1] 21, cells b5 [.int .i32 0] 21, cells b6 [.bool false] 4]
  refine TO.nil (TX.next (cut (TC.block ?_)))
  obtain ⟨its1, hq1, h⟩ := andE h
  obtain ⟨e1, he1, h⟩ := joinE h
  obtain ⟨d1, hd1, h⟩ := joinE h
  refine TC.range (α := Gfold_pair × Int) (β := Unit) (γ := Int) (δ := Nat) (ps := [8, 9]) Ro.nil rfl en_62 (fold_pairs_itr hq1) (fun pre b => ∀ post, its1 = pre ++ post → rangeG d1 (fold_Join_s1 base1 mark1 e1) post = some r) (fun pre b => [cells b3 [.int .i32 base1] 21, cells b4 [.int .i32 mark1] 21, cells b5 [.int .i32 0] 21, cells b6 [.bool false] 4]) (fun c pre g => (fun g => c = .ret ∧ e1 g = some r) g) (fun c pre g => (fun g => [cells b3 [.int .i32 base1] 21, cells b4 [.int .i32 mark1] 21, cells b5 [.int .i32 g] 21, cells b6 [.bool true] 4]) g) (fun pre x b j => [(2, .pointer (some ⟨b3, 0, none⟩)), (3, .pointer (some ⟨b4, 0, none⟩)), (4, .pointer (some ⟨b5, 0, none⟩)), (5, .pointer (some ⟨b6, 0, none⟩)), (6, .pointer (some ⟨j, 0, none⟩)), (7, .int .i32 x.2)]) (fun pre x b j => [cells b3 [.int .i32 base1] 21, cells b4 [.int .i32 mark1] 21, cells b5 [.int .i32 0] 21, cells b6 [.bool false] 4, cells j [.int .i32 x.1.e0, .int .i32 x.1.e1] 79]) () (fun post e => by rw [List.nil_append] at e; subst e; exact h) (Splits.of [1, 2, 3, 4] kr rfl) trivial (fun _ => rfl) dc ?_ ?_ ?_ ?_
  ·
   rintro lp rc pre x1 post _ w1 K1 hxs1 hext hro hinv
   refine TC.seq (TC.region ?_)
   refine TO.alloc zr_79 rfl dc (fun b7 => ?_)
   refine TO.stores (k := 4) (vs := [.int .i32 x1.1.e0, .int .i32 x1.1.e1]) (l' := [.int .i32 x1.1.e0, .int .i32 x1.1.e1]) sz_79 rfl rfl rfl rfl rfl (show _ ≤ _ by simp) rfl rfl ?_
   show TO _ _ _ _ _ _ _ _ _ _ [cells b3 [.int .i32 base1] 21, cells b4 [.int .i32 mark1] 21, cells b5 [.int .i32 0] 21, cells b6 [.bool false] 4, cells b7 [.int .i32 x1.1.e0, .int .i32 x1.1.e1] 79]
   refine TO.nil (TX.next (TC.region (TO.assign rfl dc rfl (TO.nil ?_))))
   exact fun a w ha hw => ⟨b7, (Sbs.cons rfl (Sbs.cons rfl (Sbs.cons rfl (Sbs.cons rfl (Sbs.cons rfl (Sbs.cons rfl (Sbs.nil))))))) _ _ _ ha, hw.weaken (Splits.of [0, 1, 2, 3, 4] kr rfl)⟩
  ·
   rintro lp rc pre x1 post1 _ jb1 w1 K1 hxs1 hext hro hinv
   have h := hinv (x1 :: post1) hxs1
   obtain ⟨ag1, hag1⟩ : ∃ ag, ag = rangeG d1 (fold_Join_s1 base1 mark1 e1) post1 := ⟨_, rfl⟩
   have h : fold_Join_s1 base1 mark1 e1 x1 ag1 = some r := by rw [hag1]; exact h
   unfold fold_Join_s1 at h
   show TC _ _ _ _ _ _ _ _ [(2, .pointer (some ⟨b3, 0, none⟩)), (3, .pointer (some ⟨b4, 0, none⟩)), (4, .pointer (some ⟨b5, 0, none⟩)), (5, .pointer (some ⟨b6, 0, none⟩)), (6, .pointer (some ⟨jb1, 0, none⟩)), (7, .int .i32 x1.2)] [cells b3 [.int .i32 base1] 21, cells b4 [.int .i32 mark1] 21, cells b5 [.int .i32 0] 21, cells b6 [.bool false] 4, cells jb1 [.int .i32 x1.1.e0, .int .i32 x1.1.e1] 79]
   refine TC.block (TC.seq (TC.region (TO.loads (k := 4) (cs := [.int .i32 x1.1.e0, .int .i32 x1.1.e1]) rw_79 rfl dc rfl rfl rfl rfl (TO.load (k := 0) sc_21 rfl dc rfl rfl rfl (TO.load (k := 1) sc_21 rfl dc rfl rfl rfl ?_)))))
   refine TO.build (v := .agg #[.int .i32 base1, .int .i32 mark1]) (ps := [(0, .tmp 11), (1, .tmp 12)]) rfl dc rfl (fun _ => by kernel_rfl) ?_
   refine TO.bin rfl dc rfl rfl (bin_eql_79 x1.1 (⟨base1, mark1⟩ : Gfold_pair)) (TO.nil (TX.next ?_))
   refine TC.condB rfl (fun hb1 => ?_) (fun hb1 => ?_)
   ·
    have h := condT hb1 h
    refine TC.seq (TC.region (TO.move rfl dc rfl ?_))
    refine TO.store (k := 2) (l' := [.int .i32 x1.2]) sz_21 rfl rfl rfl rfl rfl (fun _ _ => rfl) rfl ?_
    refine TO.store (k := 3) (l' := [.bool true]) sz_4 rfl rfl rfl rfl rfl (fun _ _ => rfl) rfl ?_
    show TO _ _ _ _ _ _ _ _ _ _ [cells b3 [.int .i32 base1] 21, cells b4 [.int .i32 mark1] 21, cells b5 [.int .i32 x1.2] 21, cells b6 [.bool true] 4, cells jb1 [.int .i32 x1.1.e0, .int .i32 x1.1.e1] 79]
    refine TO.nil (TX.next (TC.ret (TX.blockRet ?_)))
    exact TX.roundRet x1.2 (show _ ∧ _ from ⟨rfl, h⟩) (Splits.of [0, 1, 2, 3] kr rfl)
   ·
    have h := condF hb1 h
    refine TC.skip (TX.blockNormal ?_)
    exact TX.round () (fun post2 e2 => by have e9 := snoc_post hxs1 e2; subst e9; subst hag1; exact h) (Splits.of [0, 1, 2, 3] kr rfl)
  ·
   rintro dm1 _ hinv
   have h : d1 = some r := hinv [] (List.append_nil _).symm
   rw [hd1] at h
   show TX _ _ _ _ _ _ _ [star ((([] : List Nat) : List Nat).map mark), emp, emp, emp, emp, cells b3 [.int .i32 base1] 21, cells b4 [.int .i32 mark1] 21, cells b5 [.int .i32 0] 21, cells b6 [.bool false] 4, mark dm1]
   refine TX.starCons (k := 9) (j := 0) rfl rfl dc ?_
   show TX _ _ _ _ _ _ _ [star ((dm1 :: ([] : List Nat) : List Nat).map mark), emp, emp, emp, emp, cells b3 [.int .i32 base1] 21, cells b4 [.int .i32 mark1] 21, cells b5 [.int .i32 0] 21, cells b6 [.bool false] 4, emp]
   refine TX.blockNormal ?_
   exact TX.meetD (b5, b6, dm1 :: ([] : List Nat)) h rfl (Sbs.cons rfl (Sbs.cons rfl (Sbs.nil))) (Splits.of [7, 8, 0] kr rfl)
  ·
   rintro dm1 c pre x1 post g hxs hX
   obtain ⟨rfl, h⟩ := (show _ ∧ _ from hX)
   generalize g = x2 at *
   rw [he1] at h
   show TC _ _ _ _ _ _ _ _ _ [star ((([] : List Nat) : List Nat).map mark), emp, emp, emp, emp, cells b3 [.int .i32 base1] 21, cells b4 [.int .i32 mark1] 21, cells b5 [.int .i32 x2] 21, cells b6 [.bool true] 4, mark dm1]
   refine TC.starCons (k := 9) (j := 0) rfl rfl dc ?_
   show TC _ _ _ _ _ _ _ _ _ [star ((dm1 :: ([] : List Nat) : List Nat).map mark), emp, emp, emp, emp, cells b3 [.int .i32 base1] 21, cells b4 [.int .i32 mark1] 21, cells b5 [.int .i32 x2] 21, cells b6 [.bool true] 4, emp]
   refine TC.ret (TX.blockRet (TX.thenRet ?_))
   cases h
   exact TX.finM (rs := [.cell 4 21, .cell 5 4]) (dm1 :: ([] : List Nat)) () (.inl rfl) (Splits.open0 (k := 0) rfl) Try.results33 (.cons (.cell sc_21 (k := 7) rfl rfl) (.cons (.cell sc_4 (k := 8) rfl rfl) .nil)) rfl Splits.nil
 ·
  rintro ⟨b1, b2, ds1⟩ h
  rw [hj1] at h
  show TC _ _ _ _ _ (marksOf ds1) _ _ [(4, .pointer (some ⟨b1, 0, none⟩)), (5, .pointer (some ⟨b2, 0, none⟩))] [cells b1 [.int .i32 0] 21, cells b2 [.bool false] 4, star ((ds1 : List Nat).map mark)]
  refine TC.seq (TC.region ?_)
  refine TO.store (k := 0) (l' := [.int .i32 0]) sz_21 rfl rfl rfl rfl rfl (fun _ _ => rfl) rfl ?_
  refine TO.store (k := 1) (l' := [.bool false]) sz_4 rfl rfl rfl rfl rfl (fun _ _ => rfl) rfl ?_
  show TO _ _ _ _ _ _ _ _ _ _ [cells b1 [.int .i32 0] 21, cells b2 [.bool false] 4, star ((ds1 : List Nat).map mark)]
  refine TO.nil (TX.next (TC.ret ?_))
  cases h
  exact TX.finM (rs := [.cell 4 21, .cell 5 4]) ds1 () (.inl rfl) (Splits.open0 (k := 2) rfl) Try.results33 (.cons (.cell sc_21 (k := 0) rfl rfl) (.cons (.cell sc_4 (k := 1) rfl rfl) .nil)) rfl Splits.nil
def fold_Split_v (r1 : Int) : Option (List Int) := andThen (fold_tables_v) fun (r2 : ((List (Gfold_pair × Int)) × (List (Int × Gfold_pair)))) => andThen (fold_parted_v r2.2 r1) fun (r3 : (List Int)) => some r3
set_option maxRecDepth 100000 in
set_option maxHeartbeats 4000000 in
theorem fold_Split_fn {r1 : Int} {r : (List Int)} (h : fold_Split_v r1 = some r) : Fn Try.prog 15 [.int .i32 r1] [] (fun v0 : Value => v0) (fun v0 => [vec (encI (.i32)) 21 1 v0 r]) := by
 unfold fold_Split_v at h
 refine Fn.intro Try.func15 rfl Try.ntmps15 (by simp) ?_
 intro w0 K
 refine TC.seq (TC.region (TO.assign rfl dc rfl (TO.nil (TX.next (TC.seq (TC.region ?_))))))
 obtain ⟨r2, hq1, h⟩ := andE h
 refine TO.call (vs := []) rfl dc rfl rfl rfl en_43 (fold_tables_fn hq1) Splits.nil ?_
 rintro ⟨b1, b2⟩
 show TO _ _ _ _ _ _ _ _ _ _ [mapA (fun p : Gfold_pair => Value.agg #[.int .i32 p.e0, .int .i32 p.e1]) (fun n : Int => Value.int .i32 n) b1 r2.1, mapA (fun n : Int => Value.int .i32 n) (fun p : Gfold_pair => Value.agg #[.int .i32 p.e0, .int .i32 p.e1]) b2 r2.2]
 refine TO.move rfl dc rfl (TO.extract rfl dc rfl rfl (TO.extract rfl dc rfl rfl (TO.assign rfl dc rfl (TO.assign rfl dc rfl (TO.nil (TX.next (TC.seq (TC.region (TO.move rfl dc rfl (TO.move rfl dc rfl ?_))))))))))
 obtain ⟨r3, hq2, h⟩ := andE h
 refine TO.call (vs := [.map (some b2), .int .i32 r1]) rfl dc rfl rfl rfl en_44 (fold_parted_fn hq2) (Splits.of [1] kr rfl) ?_
 rintro v1
 show TO _ _ _ _ _ _ _ _ _ _ [mapA (fun p : Gfold_pair => Value.agg #[.int .i32 p.e0, .int .i32 p.e1]) (fun n : Int => Value.int .i32 n) b1 r2.1, emp, mapA (fun n : Int => Value.int .i32 n) (fun p : Gfold_pair => Value.agg #[.int .i32 p.e0, .int .i32 p.e1]) b2 r2.2, vec (encI (.i32)) 21 1 v1 r3]
 refine TO.assign rfl dc rfl (TO.nil (TX.next (TC.ret ?_)))
 cases h
 exact TX.fin (rs := [.tmp 2]) v1 (.inl rfl) Try.results15 (.cons (.tmp rfl) .nil) rfl (Splits.of [3] kr rfl)
end Go.Proofs.Ythjkafeklflgbaa
namespace Go.Proofs.Ythjkafeklflgbaa
open Go.RowKit Go.Lib
set_option linter.unusedVariables false
set_option linter.unusedSimpArgs false
/-- base, mark, joined. -/
def tab : List (Int × Int × Int) := [(65, 768, 192), (69, 768, 200), (73, 768, 204), (79, 768, 210), (85, 768, 217), (97, 768, 224), (101, 768, 232), (105, 768, 236), (111, 768, 242), (117, 768, 249), (1045, 768, 1024), (1048, 768, 1037), (1077, 768, 1104), (1080, 768, 1117), (65, 769, 193), (69, 769, 201), (73, 769, 205), (79, 769, 211), (85, 769, 218), (89, 769, 221), (97, 769, 225), (101, 769, 233), (105, 769, 237), (111, 769, 243), (117, 769, 250), (121, 769, 253), (67, 769, 262), (76, 769, 313), (78, 769, 323), (82, 769, 340), (83, 769, 346), (90, 769, 377), (99, 769, 263), (108, 769, 314), (110, 769, 324), (114, 769, 341), (115, 769, 347), (122, 769, 378), (913, 769, 902), (917, 769, 904), (919, 769, 905), (921, 769, 906), (927, 769, 908), (933, 769, 910), (937, 769, 911), (945, 769, 940), (949, 769, 941), (951, 769, 942), (953, 769, 943), (959, 769, 972), (965, 769, 973), (969, 769, 974), (1043, 769, 1027), (1050, 769, 1036), (1075, 769, 1107), (1082, 769, 1116), (970, 769, 912), (971, 769, 944), (65, 770, 194), (69, 770, 202), (73, 770, 206), (79, 770, 212), (85, 770, 219), (97, 770, 226), (101, 770, 234), (105, 770, 238), (111, 770, 244), (117, 770, 251), (67, 770, 264), (71, 770, 284), (72, 770, 292), (74, 770, 308), (83, 770, 348), (87, 770, 372), (89, 770, 374), (99, 770, 265), (103, 770, 285), (104, 770, 293), (106, 770, 309), (115, 770, 349), (119, 770, 373), (121, 770, 375), (65, 771, 195), (78, 771, 209), (79, 771, 213), (97, 771, 227), (110, 771, 241), (111, 771, 245), (73, 771, 296), (85, 771, 360), (105, 771, 297), (117, 771, 361), (65, 772, 256), (69, 772, 274), (73, 772, 298), (79, 772, 332), (85, 772, 362), (97, 772, 257), (101, 772, 275), (105, 772, 299), (111, 772, 333), (117, 772, 363), (65, 774, 258), (69, 774, 276), (71, 774, 286), (73, 774, 300), (79, 774, 334), (85, 774, 364), (97, 774, 259), (101, 774, 277), (103, 774, 287), (105, 774, 301), (111, 774, 335), (117, 774, 365), (1048, 774, 1049), (1059, 774, 1038), (1080, 774, 1081), (1091, 774, 1118), (67, 775, 266), (69, 775, 278), (71, 775, 288), (73, 775, 304), (90, 775, 379), (99, 775, 267), (101, 775, 279), (103, 775, 289), (122, 775, 380), (65, 776, 196), (69, 776, 203), (73, 776, 207), (79, 776, 214), (85, 776, 220), (97, 776, 228), (101, 776, 235), (105, 776, 239), (111, 776, 246), (117, 776, 252), (121, 776, 255), (89, 776, 376), (1045, 776, 1025), (1030, 776, 1031), (1077, 776, 1105), (1110, 776, 1111), (921, 776, 938), (933, 776, 939), (953, 776, 970), (965, 776, 971), (65, 778, 197), (85, 778, 366), (97, 778, 229), (117, 778, 367), (79, 779, 336), (85, 779, 368), (111, 779, 337), (117, 779, 369), (67, 780, 268), (68, 780, 270), (69, 780, 282), (76, 780, 317), (78, 780, 327), (82, 780, 344), (83, 780, 352), (84, 780, 356), (90, 780, 381), (99, 780, 269), (100, 780, 271), (101, 780, 283), (108, 780, 318), (110, 780, 328), (114, 780, 345), (115, 780, 353), (116, 780, 357), (122, 780, 382), (67, 807, 199), (71, 807, 290), (75, 807, 310), (76, 807, 315), (78, 807, 325), (82, 807, 342), (83, 807, 350), (84, 807, 354), (99, 807, 231), (103, 807, 291), (107, 807, 311), (108, 807, 316), (110, 807, 326), (114, 807, 343), (115, 807, 351), (116, 807, 355), (65, 808, 260), (69, 808, 280), (73, 808, 302), (85, 808, 370), (97, 808, 261), (101, 808, 281), (105, 808, 303), (117, 808, 371)]
def tabP : List (Gfold_pair × Int) := tab.map fun t => (⟨t.1, t.2.1⟩, t.2.2)
def tabS : List (Int × Gfold_pair) := tab.map fun t => (t.2.2, ⟨t.1, t.2.1⟩)
set_option maxRecDepth 100000 in
theorem pairs_v : fold_pairs_v = some tabP := by decide +kernel
set_option maxRecDepth 100000 in
theorem tables_v : fold_tables_v = some (tabP, tabS) := by decide +kernel
end Go.Proofs.Ythjkafeklflgbaa
namespace Go.Proofs.Ythjkafeklflgbaa
open Go.RowKit Go.Lib
set_option linter.unusedVariables false
set_option linter.unusedSimpArgs false
theorem loopS {T : Type} {bot : T} {step : T → T} {n : Nat} : loopG bot step (n + 1) = step (loopG bot step n) := rfl
/-- The i-th byte of a text from a place on, as a number. -/
def byI (l : List UInt8) (i : Nat) : Int := ((l.getD i 0).toNat : Int)
theorem byI_rng (l : List UInt8) (i : Nat) : 0 ≤ byI l i ∧ byI l i ≤ 255 := by
  have := (l.getD i 0).toNat_lt; unfold byI; omega
theorem getB_by {s : ByteArray} {a i : Nat} (h : a + i < s.size) : getB s ((a : Int) + (i : Int)) = some (byI (s.data.toList.drop a) i) := by
  rw [getB_of (n := a + i) (by omega) h]
  have e : (s.data.toList.drop a).getD i 0 = s[a + i] := by
    rw [List.getD_eq_getElem?_getD, List.getElem?_drop, List.getElem?_eq_getElem (by simpa using h)]
    simp; rfl
  unfold byI; rw [e]
def cand (l : List UInt8) : Nat → Int
  | 1 => byI l 0
  | 2 => (byI l 0 - 192) * 64 + byI l 1 - 128
  | 3 => ((byI l 0 - 224) * 64 + byI l 1 - 128) * 64 + byI l 2 - 128
  | 4 => (((byI l 0 - 240) * 64 + byI l 1 - 128) * 64 + byI l 2 - 128) * 64 + byI l 3 - 128
  | _ => 0
theorem cand_rng (l : List UInt8) (n : Nat) : -100000000 ≤ cand l n ∧ cand l n ≤ 100000000 := by
  have h0 := byI_rng l 0; have h1 := byI_rng l 1; have h2 := byI_rng l 2; have h3 := byI_rng l 3
  unfold cand; split <;> omega
def acc (s : ByteArray) (a n : Nat) : Prop := vr (cand (s.data.toList.drop a) n) ∧ wd (cand (s.data.toList.drop a) n) = n ∧ Utf8.encode (cand (s.data.toList.drop a) n) = cutB s a ((a : Int) + n)
theorem in_step {s : ByteArray} {a i n : Nat} {j : Int → Option (Int × Int)} {ag : Int → Int → Option (Int × Int)} {r : Int} (h : i < n) (hs : a + i < s.size) (hsz : s.size ≤ 9223372036854775000) (hr : -10000000 ≤ r ∧ r ≤ 10000000) (hi : i ≤ 4) :
    ref01_Form_s2 s a n j ag r (i : Int) = ag (r * 64 + byI (s.data.toList.drop a) i - 128) ((i + 1 : Nat) : Int) := by
  have hb := byI_rng (s.data.toList.drop a) i
  unfold ref01_Form_s2
  refine condTI (decide_eq_true (by omega)) (grdI ⟨by omega, by omega⟩ (grdI ⟨by omega, by omega⟩ (thenI (getB_by hs) (grdI ⟨by omega, by omega⟩ (grdI ⟨by omega, by omega⟩ (grdI ⟨by omega, by omega⟩ (grdI ⟨by omega, by omega⟩ ?_)))))))
  rfl
theorem in_end {s : ByteArray} {a n : Nat} {j : Int → Option (Int × Int)} {ag : Int → Int → Option (Int × Int)} {r : Int} : ref01_Form_s2 s a n j ag r (n : Int) = j r := by
  unfold ref01_Form_s2; exact condFI (decide_eq_false (by omega)) rfl
theorem test_v (s : ByteArray) (a n : Nat) (hn : 1 ≤ n ∧ n ≤ 4) (hs : a + n ≤ s.size) (hsz : s.size ≤ 9223372036854775000) (j2 : Option (Int × Int)) (r2 : Int) (hr : r2 = cand (s.data.toList.drop a) n) [Decidable (acc s a n)] :
    (andThen (ref01_None_v r2) fun (r6 : Bool) => bcond (!r6) (andThen (ref01_Width_v r2) fun (r7 : Int) => bcond ((r7 : Int) == (n : Int)) (andThen (ref01_Encode_v r2) fun (r8 : ByteArray) =>
      grd (I64 ((a : Int) + n)) <| grd (0 ≤ (a : Int) ∧ (a : Int) ≤ ((a : Int) + n) ∧ ((a : Int) + n) ≤ (s.size : Int)) <| bcond (decide (r8 = cutB s a ((a : Int) + n))) (some (r2, (n : Int))) j2) j2) j2) =
    if acc s a n then some (cand (s.data.toList.drop a) n, (n : Int)) else j2 := by
  subst hr
  have hc := cand_rng (s.data.toList.drop a) n
  refine thenI (none_v _) ?_
  by_cases h1 : vr (cand (s.data.toList.drop a) n)
  · refine condTI (by simp [h1]) (thenI (width_v _) ?_)
    by_cases h2 : wd (cand (s.data.toList.drop a) n) = n
    · refine condTI (by simp [h2]) (thenI (encode_v _ ⟨by omega, by omega⟩) (grdI ⟨by omega, by omega⟩ (grdI ⟨by omega, by omega, by omega⟩ ?_)))
      by_cases h3 : Utf8.encode (cand (s.data.toList.drop a) n) = cutB s a ((a : Int) + n)
      · rw [if_pos (show acc s a n from ⟨h1, h2, h3⟩)]; exact condTI (decide_eq_true h3) rfl
      · rw [if_neg (fun h : acc s a n => h3 h.2.2)]; exact condFI (decide_eq_false h3) rfl
    · rw [if_neg (fun h : acc s a n => h2 h.2.1)]; exact condFI (beq_eq_false_iff_ne.2 h2) rfl
  · rw [if_neg (fun h : acc s a n => h1 h.1)]; exact condFI (by simp [h1]) rfl
open Classical in
theorem form_step (s : ByteArray) (a n : Nat) (hn : 1 ≤ n ∧ n ≤ 4) (hs : a + n ≤ s.size) (hsz : s.size ≤ 9223372036854775000) (j1 : Option (Int × Int)) (ag : Int → Option (Int × Int)) :
    ref01_Form_s1 s a j1 ag (n : Int) = if acc s a n then some (cand (s.data.toList.drop a) n, (n : Int)) else ag ((n + 1 : Nat) : Int) := by
  obtain ⟨F, hF, _⟩ := fuel_eq 5 (by omega)
  have h0 := byI_rng (s.data.toList.drop a) 0; have h1 := byI_rng (s.data.toList.drop a) 1; have h2 := byI_rng (s.data.toList.drop a) 2; have h3 := byI_rng (s.data.toList.drop a) 3
  have hg : getB s (a : Int) = some (byI (s.data.toList.drop a) 0) := by have := getB_by (s := s) (a := a) (i := 0) (by omega); simpa using this
  unfold ref01_Form_s1
  refine condTI (decide_eq_true (by omega)) (grdI ⟨by omega, by omega⟩ (condTI (decide_eq_true (by omega)) (joinI (joinI (thenI hg (grdI ⟨by omega, by omega⟩ ?_))))))
  have fin : ∀ r2 : Int, r2 = cand (s.data.toList.drop a) n → ∀ z, z = ag ((n + 1 : Nat) : Int) → (andThen (ref01_None_v r2) fun (r6 : Bool) => bcond (!r6) (andThen (ref01_Width_v r2) fun (r7 : Int) => bcond ((r7 : Int) == (n : Int)) (andThen (ref01_Encode_v r2) fun (r8 : ByteArray) =>
      grd (I64 ((a : Int) + n)) <| grd (0 ≤ (a : Int) ∧ (a : Int) ≤ ((a : Int) + n) ∧ ((a : Int) + n) ≤ (s.size : Int)) <| bcond (decide (r8 = cutB s a ((a : Int) + n))) (some (r2, (n : Int))) z) z) z) =
      if acc s a n then some (cand (s.data.toList.drop a) n, (n : Int)) else ag ((n + 1 : Nat) : Int) := fun r2 hr z hz => by subst hz; exact test_v s a n hn hs hsz _ r2 hr
  have hz : (grd (I64 ((n : Int) + 1)) <| ag ((n : Int) + 1)) = ag ((n + 1 : Nat) : Int) := grdI ⟨by omega, by omega⟩ rfl
  rw [hz, hF]
  obtain rfl | rfl | rfl | rfl : n = 1 ∨ n = 2 ∨ n = 3 ∨ n = 4 := by omega
  · refine condFI rfl (joinI ?_)
    rw [loopS, show ((1 : Int)) = ((1 : Nat) : Int) from rfl, in_end]
    exact fin _ rfl _ rfl
  · have e : (256 - (shlI .i32 1 (8 - ((2 : Nat) : Int)))) = 192 := by decide
    rw [e]
    refine condTI rfl (grdI ⟨by omega, by omega⟩ (grdI (by omega) (grdI ⟨by omega, by omega⟩ (grdI ⟨by omega, by omega⟩ (joinI ?_)))))
    rw [loopS, show ((1 : Int)) = ((1 : Nat) : Int) from rfl, in_step (by omega) (by omega) hsz (by omega) (by omega), loopS, in_end]
    exact fin _ rfl _ rfl
  · have e : (256 - (shlI .i32 1 (8 - ((3 : Nat) : Int)))) = 224 := by decide
    rw [e]
    refine condTI rfl (grdI ⟨by omega, by omega⟩ (grdI (by omega) (grdI ⟨by omega, by omega⟩ (grdI ⟨by omega, by omega⟩ (joinI ?_)))))
    rw [loopS, show ((1 : Int)) = ((1 : Nat) : Int) from rfl, in_step (by omega) (by omega) hsz (by omega) (by omega), loopS, in_step (by omega) (by omega) hsz (by omega) (by omega), loopS, in_end]
    exact fin _ rfl _ rfl
  · have e : (256 - (shlI .i32 1 (8 - ((4 : Nat) : Int)))) = 240 := by decide
    rw [e]
    refine condTI rfl (grdI ⟨by omega, by omega⟩ (grdI (by omega) (grdI ⟨by omega, by omega⟩ (grdI ⟨by omega, by omega⟩ (joinI ?_)))))
    rw [loopS, show ((1 : Int)) = ((1 : Nat) : Int) from rfl, in_step (by omega) (by omega) hsz (by omega) (by omega), loopS, in_step (by omega) (by omega) hsz (by omega) (by omega), loopS, in_step (by omega) (by omega) hsz (by have q := byI_rng (s.data.toList.drop a) (1 + 1); omega) (by omega), loopS, in_end]
    exact fin _ rfl _ rfl
theorem cutB_list (s : ByteArray) (a n : Nat) : (cutB s a ((a : Int) + n)).data.toList = (s.data.toList.drop a).take n := by
  unfold cutB
  rw [extract_data]
  simp only [Int.toNat_natCast, show ((a : Int) + (n : Int)).toNat = a + n by omega]
  rw [show a + n - a = n by omega]
/-- What is accepted is what is decoded. -/
theorem acc_dec {s : ByteArray} {a n : Nat} (hn : 1 ≤ n ∧ n ≤ 4) (hs : a + n ≤ s.size) (h : acc s a n) : ((decodeL (s.data.toList.drop a)).1 : Int) = cand (s.data.toList.drop a) n ∧ (decodeL (s.data.toList.drop a)).2 = n ∧ ¬ ((decodeL (s.data.toList.drop a)).1 = 65533 ∧ (decodeL (s.data.toList.drop a)).2 = 1) := by
  obtain ⟨h1, h2, h3⟩ := h
  have h4 := congrArg (fun b : ByteArray => b.data.toList) h3
  simp only [encode_list, cutB_list] at h4
  have hv := h1
  unfold vr at h1
  generalize hc : cand (s.data.toList.drop a) n = c at *
  obtain ⟨m, rfl⟩ : ∃ m : Nat, c = m := ⟨c.toNat, by omega⟩
  have h5 := dec_enc m (by omega) ((s.data.toList.drop a).drop n)
  rw [h4, List.take_append_drop] at h5
  have h6 : ((s.data.toList.drop a).take n).length = n := by simp; omega
  rw [h6] at h5
  rw [h5]
  refine ⟨rfl, rfl, fun ⟨e1, e2⟩ => ?_⟩
  simp only at e1 e2
  subst e1; subst e2
  unfold wd at h2; revert h2; decide
theorem byI_of {l : List UInt8} {i : Nat} {x : Int} (h : l[i]? = some (x.toNat.toUInt8)) (hx : 0 ≤ x ∧ x ≤ 255) : byI l i = x := by
  unfold byI
  rw [List.getD_eq_getElem?_getD, h]
  simp; omega
/-- What is decoded is accepted. -/
theorem dec_acc {s : ByteArray} {a : Nat} (ha : a < s.size) (hb : ¬ ((decodeL (s.data.toList.drop a)).1 = 65533 ∧ (decodeL (s.data.toList.drop a)).2 = 1)) :
    acc s a (decodeL (s.data.toList.drop a)).2 ∧ 1 ≤ (decodeL (s.data.toList.drop a)).2 ∧ (decodeL (s.data.toList.drop a)).2 ≤ 4 ∧ a + (decodeL (s.data.toList.drop a)).2 ≤ s.size := by
  have hne : s.data.toList.drop a ≠ [] := by
    intro h; have := congrArg List.length h; simp at this; omega
  have hok := decOk _ hne
  generalize hl : s.data.toList.drop a = l at *
  generalize hr : (decodeL l).1 = r at *
  generalize hw : (decodeL l).2 = w at *
  have hlen : l.length = s.size - a := by rw [← hl]; simp
  have hv := hok.valid
  have hvr : vr (r : Int) := by unfold vr; omega
  have h1 := hok.width hb
  have h2 := hok.bytes hb
  have h3 := wd_len _ hvr
  have hle := hok.le
  have hcand : cand l w = r := by
    have hget : ∀ (i : Nat) (x : Int), (encodeRuneZ (r : Int))[i]? = some x → l[i]? = some (x.toNat.toUInt8) := by
      intro i x hx
      have hi : i < w := by
        rw [← h1]; unfold encodeRune; rw [List.length_map]; exact (List.getElem?_eq_some_iff.1 hx).1
      have : (encodeRune (r : Int))[i]? = some (x.toNat.toUInt8) := by unfold encodeRune; rw [List.getElem?_map, hx]; rfl
      rw [h2, List.getElem?_take, if_pos hi] at this
      exact this
    unfold wd at h3
    rw [if_pos hvr] at h3
    split at h3
    · rw [encodeRuneZ_one (by omega) (by omega)] at hget
      have hw1 : w = 1 := by omega
      rw [hw1]
      exact byI_of (hget 0 _ rfl) (by omega)
    · split at h3
      · rw [encodeRuneZ_two (by omega) (by omega)] at hget
        have hw1 : w = 2 := by omega
        rw [hw1]
        simp only [cand]
        rw [byI_of (hget 0 _ rfl) (by omega), byI_of (hget 1 _ rfl) (by omega)]; omega
      · split at h3
        · rw [encodeRuneZ_three (by omega)] at hget
          have hw1 : w = 3 := by omega
          rw [hw1]
          simp only [cand]
          rw [byI_of (hget 0 _ rfl) (by omega), byI_of (hget 1 _ rfl) (by omega), byI_of (hget 2 _ rfl) (by omega)]; omega
        · rw [encodeRuneZ_four (by omega) (by omega)] at hget
          have hw1 : w = 4 := by omega
          rw [hw1]
          simp only [cand]
          rw [byI_of (hget 0 _ rfl) (by omega), byI_of (hget 1 _ rfl) (by omega), byI_of (hget 2 _ rfl) (by omega), byI_of (hget 3 _ rfl) (by omega)]; omega
  have h4 := encodeRune_len (r : Int)
  refine ⟨⟨by rw [hl, hcand]; exact hvr, by rw [hl, hcand]; omega, ?_⟩, hok.pos, by omega, by omega⟩
  rw [hl, hcand]
  apply ByteArray.ext
  apply Array.toList_inj.1
  rw [encode_list, cutB_list, hl, h2]
/-- A piece, as the reference has it. -/
def pcG (p : Pc) : Gapi_Piece := ⟨p.i, p.w, p.r, p.broken⟩
def formO (l : List UInt8) : Int × Int := if (decodeL l).1 = 65533 ∧ (decodeL l).2 = 1 then (0, 0) else ((decodeL l).1, (decodeL l).2)
theorem form_v (s : ByteArray) (a : Nat) (ha : a < s.size) (hsz : s.size ≤ 9223372036854775000) : ref01_Form_v s a = some (formO (s.data.toList.drop a)) := by
  classical
  unfold ref01_Form_v
  refine joinI ?_
  obtain ⟨F, hF, _⟩ := fuel_eq 6 (by omega)
  rw [hF]
  have key : ∀ k m : Nat, m + k = 5 → 1 ≤ m → (∀ n, 1 ≤ n → n < m → a + n ≤ s.size → ¬ acc s a n) → ∀ G, loopG (fun _ => none) (ref01_Form_s1 s a (some (0, 0))) (G + k + 1) (m : Int) = some (formO (s.data.toList.drop a)) := by
    intro k
    induction k with
    | zero =>
      intro m hm h1 hno G
      have hm5 : m = 5 := by omega
      rw [hm5, loopS]
      unfold ref01_Form_s1
      refine condFI rfl ?_
      unfold formO
      rw [if_pos]
      by_cases hb : (decodeL (s.data.toList.drop a)).1 = 65533 ∧ (decodeL (s.data.toList.drop a)).2 = 1
      · exact hb
      · obtain ⟨h2, h3, h4, h5⟩ := dec_acc ha hb
        exact absurd h2 (hno _ h3 (by omega) h5)
    | succ k ih =>
      intro m hm h1 hno G
      rw [loopS]
      by_cases hs : a + m ≤ s.size
      · rw [form_step s a m ⟨h1, by omega⟩ hs hsz]
        by_cases hac : acc s a m
        · rw [if_pos hac]
          obtain ⟨e1, e2, e3⟩ := acc_dec ⟨h1, by omega⟩ hs hac
          unfold formO; rw [if_neg e3, e1, e2]
        · rw [if_neg hac]
          exact ih (m + 1) (by omega) (by omega) (fun n hn1 hn2 hn3 => by
            by_cases h : n = m
            · subst h; exact hac
            · exact hno n hn1 (by omega) hn3) G
      · unfold ref01_Form_s1
        refine condTI (decide_eq_true (by omega)) (grdI ⟨by omega, by omega⟩ (condFI (decide_eq_false (by omega)) ?_))
        unfold formO
        rw [if_pos]
        by_cases hb : (decodeL (s.data.toList.drop a)).1 = 65533 ∧ (decodeL (s.data.toList.drop a)).2 = 1
        · exact hb
        · obtain ⟨h2, h3, h4, h5⟩ := dec_acc ha hb
          exact absurd h2 (hno _ h3 (by omega) h5)
  exact key 4 1 rfl (by omega) (fun n h1 h2 => by omega) (F + 1)
theorem at_v (s : ByteArray) (a : Nat) (ha : a < s.size) (hsz : s.size ≤ 9223372036854775000) : ref01_At_v s a = some (pcG ⟨a, (decodeL (s.data.toList.drop a)).2, (decodeL (s.data.toList.drop a)).1⟩) := by
  unfold ref01_At_v
  refine thenI (form_v s a ha hsz) ?_
  unfold formO pcG Pc.broken
  have hp := dec_pos (s.data.toList.drop a)
  by_cases hb : (decodeL (s.data.toList.drop a)).1 = 65533 ∧ (decodeL (s.data.toList.drop a)).2 = 1
  · rw [if_pos hb]
    refine condFI rfl ?_
    rw [hb.1, hb.2]; rfl
  · rw [if_neg hb]
    refine condTI (decide_eq_true (by simp only; omega)) ?_
    have : ((decodeL (s.data.toList.drop a)).1 == 65533 && (decodeL (s.data.toList.drop a)).2 == 1) = false := by
      rw [Bool.and_eq_false_iff]
      by_cases h : (decodeL (s.data.toList.drop a)).1 = 65533
      · right; exact beq_eq_false_iff_ne.2 (fun h2 => hb ⟨h, h2⟩)
      · left; exact beq_eq_false_iff_ne.2 h
    simp only [this]
theorem pieces_v (s : ByteArray) (hsz : s.size ≤ 2147483648) : ref01_Pieces_v s = some ((pcs s.data.toList).map pcG) := by
  unfold ref01_Pieces_v
  refine joinI ?_
  have key : ∀ n a : Nat, a ≤ s.size → s.size - a < n → ∀ l : List Gapi_Piece, l.length ≤ a → loopG (fun _ _ => none) (ref01_Pieces_s1 s some) n l (a : Int) = some (l ++ (pcsFrom a (s.data.toList.drop a)).map pcG) := by
    intro n
    induction n with
    | zero => intro a _ h; omega
    | succ n ih =>
      intro a ha hn l hl
      rw [loopS]
      generalize hg : loopG (fun _ _ => none) (ref01_Pieces_s1 s some) n = ag
      unfold ref01_Pieces_s1
      by_cases h : a < s.size
      · have hne : s.data.toList.drop a ≠ [] := by
          intro h; have := congrArg List.length h; simp at this; omega
        have hok := decOk _ hne
        have h1 := hok.pos; have h2 := hok.le
        have hlen : (s.data.toList.drop a).length = s.size - a := by simp
        refine condTI (decide_eq_true (by omega)) (thenI (at_v s a h (by omega)) (grdI (by omega) (grdI ⟨by simp only [pcG]; omega, by simp only [pcG]; omega⟩ ?_)))
        have := ih (a + (decodeL (s.data.toList.drop a)).2) (by omega) (by omega) (l ++ [pcG ⟨a, (decodeL (s.data.toList.drop a)).2, (decodeL (s.data.toList.drop a)).1⟩]) (by simp; omega)
        rw [pcsFrom_cons _ _ hne, List.drop_drop]
        rw [show ((a : Int) + (pcG ⟨a, (decodeL (s.data.toList.drop a)).2, (decodeL (s.data.toList.drop a)).1⟩).Width) = ((a + (decodeL (s.data.toList.drop a)).2 : Nat) : Int) by simp [pcG]]
        rw [← hg, this]; simp
      · refine condFI (decide_eq_false (by omega)) ?_
        have : s.data.toList.drop a = [] := List.drop_eq_nil_of_le (by simp; omega)
        rw [this, pcsFrom_nil]; simp
  exact key fuel 0 (by omega) (by unfold fuel; omega) [] (by simp)
end Go.Proofs.Ythjkafeklflgbaa
namespace Go.Proofs.Ythjkafeklflgbaa
open Go.RowKit Go.Lib
set_option linter.unusedVariables false
set_option linter.unusedSimpArgs false
def mrk (r : Int) : Bool := decide (768 ≤ r ∧ r ≤ 879)
theorem letter_rng (r : Int) (h : letter r = true) : 0 ≤ r ∧ r < 1120 ∧ ¬ (768 ≤ r ∧ r ≤ 879) := by
  unfold letter at h
  rw [Bool.or_eq_true, great_iff, small_iff] at h
  unfold greatP smallP at h
  refine ⟨?_, ?_, ?_⟩ <;> omega
theorem kind1 (r : Int) : ((kind r : Int) == 1) = letter r := by
  cases h : letter r with
  | true =>
    have := letter_rng r h
    have e : kind r = 1 := by unfold kind kindP; rw [if_neg (by omega), if_pos h]
    rw [e]; rfl
  | false =>
    rw [beq_eq_false_iff_ne]
    unfold kind kindP
    rw [h]
    simp only [Bool.false_eq_true, if_false]
    (repeat' split) <;> omega
theorem kind2 (r : Int) : ((kind r : Int) == 2) = mrk r := by
  unfold mrk
  by_cases h : 768 ≤ r ∧ r ≤ 879
  · rw [decide_eq_true h, beq_iff_eq]
    have hl : letter r = false := by
      cases h' : letter r with
      | false => rfl
      | true => exact absurd h (letter_rng r h').2.2
    unfold kind kindP
    rw [if_neg (by omega), hl, if_neg (by simp), if_pos h]
  · rw [decide_eq_false h, beq_eq_false_iff_ne]
    unfold kind kindP
    (repeat' split) <;> omega
theorem letter_v (u : Gfold_unit) (h : I32 u.base) : fold_unit_letter_v u = some (letter u.base) := by
  unfold fold_unit_letter_v
  by_cases h0 : 0 ≤ u.base
  · exact condTI (decide_eq_true h0) (grdI h (congrArg some (kind1 _)))
  · refine condFI (decide_eq_false h0) (congrArg some ?_)
    cases h' : letter u.base with
    | false => rfl
    | true => exact absurd (letter_rng _ h').1 h0
theorem iletter_v (x : Gref04_Item) (h : I32 x.Rune) : ref04_Item_letter_v x = some (letter x.Rune) := by
  unfold ref04_Item_letter_v ref04_Letter_v
  by_cases h0 : 0 ≤ x.Rune
  · refine condTI (decide_eq_true h0) (thenI (a := letter x.Rune) (grdI h ?_) rfl)
    cases hg : great x.Rune with
    | true => exact condTI rfl (by unfold letter; rw [hg]; rfl)
    | false => exact condFI rfl (grdI h (by unfold letter; rw [hg]; rfl))
  · refine condFI (decide_eq_false h0) (congrArg some ?_)
    cases h' : letter x.Rune with
    | false => rfl
    | true => exact absurd (letter_rng _ h').1 h0
theorem imark_v (x : Gref04_Item) : ref04_Item_mark_v x = some (mrk x.Rune) := by
  unfold ref04_Item_mark_v ref04_Mark_v mrk
  by_cases h0 : 0 ≤ x.Rune
  · refine condTI (decide_eq_true h0) (thenI (a := mrk x.Rune) ?_ rfl)
    unfold mrk
    by_cases h1 : 768 ≤ x.Rune
    · exact condTI (decide_eq_true h1) (congrArg some (by simp [h1]))
    · exact condFI (decide_eq_false h1) (congrArg some (by simp [h1]))
  · exact condFI (decide_eq_false h0) (congrArg some (by symm; rw [decide_eq_false]; omega))
def lows : List (Int × Int) := [(790, 793), (796, 800), (803, 819), (825, 828), (837, 841), (845, 846), (851, 854), (857, 858)]
def lowR (r : Int) : Bool := lows.any fun p => decide (p.1 ≤ r) && decide (r ≤ p.2)
theorem rlow_v (r : Int) : ref04_Low_v r = some (lowR r) := by
  unfold ref04_Low_v
  refine joinI ?_
  have := seek (xs := ([(⟨790, 793⟩ : T_2_int32), (⟨796, 800⟩ : T_2_int32), (⟨803, 819⟩ : T_2_int32), (⟨825, 828⟩ : T_2_int32), (⟨837, 841⟩ : T_2_int32), (⟨845, 846⟩ : T_2_int32), (⟨851, 854⟩ : T_2_int32), (⟨857, 858⟩ : T_2_int32)] : List T_2_int32)) (F := ref04_Low_s1 r (some false)) (bot := fun _ => none)
    (g := fun p => if decide (p.e0 ≤ r) && decide (r ≤ p.e1) then some (some true) else none) (J := some false) (fun ag k x hx => by
      have hk : k < 8 := lp_lt' hx
      unfold ref04_Low_s1
      refine condTI (decide_eq_true (by omega)) (joinI (thenI (lp_get hx) ?_))
      have tl : (grd (I64 ((k : Int) + 1)) <| ag ((k : Int) + 1)) = ag ((k : Int) + 1) := grdI (lp_i64 (by omega)) rfl
      by_cases h1 : x.e0 ≤ r
      · refine condTI (decide_eq_true h1) ?_
        by_cases h2 : r ≤ x.e1
        · exact condTI (decide_eq_true h2) (by simp [h1, h2])
        · exact condFI (decide_eq_false h2) (by simp [h1, h2, tl])
      · exact condFI (decide_eq_false h1) (by simp [h1, tl])) (fun ag => condFI (by decide) rfl) (n := fuel) (big_fuel (by decide))
  rw [this]
  simp only [List.findSome?_cons, List.findSome?_nil, lowR, lows, List.any_cons, List.any_nil, Bool.or_false]
  (repeat' split) <;> simp_all
theorem low_v (r : Int) : fold_Low_v r = some (lowR r) := by
  have h : r < 790 ∨ (790 ≤ r ∧ r ≤ 793) ∨ (793 < r ∧ r < 796) ∨ (796 ≤ r ∧ r ≤ 800) ∨ (800 < r ∧ r < 803) ∨ (803 ≤ r ∧ r ≤ 819) ∨ (819 < r ∧ r < 825) ∨ (825 ≤ r ∧ r ≤ 828) ∨ (828 < r ∧ r < 837) ∨ (837 ≤ r ∧ r ≤ 841) ∨ (841 < r ∧ r < 845) ∨ (845 ≤ r ∧ r ≤ 846) ∨ (846 < r ∧ r < 851) ∨ (851 ≤ r ∧ r ≤ 854) ∨ (854 < r ∧ r < 857) ∨ (857 ≤ r ∧ r ≤ 858) ∨ 858 < r := by omega
  unfold fold_Low_v
  simp only [joinK, bcond, lowR, lows, List.any_cons, List.any_nil, Bool.or_false]
  rcases h with h | h | h | h | h | h | h | h | h | h | h | h | h | h | h | h | h <;> simp (disch := omega) only [decide_eq_true, decide_eq_false, cond_true, cond_false, Bool.and_true, Bool.and_false, Bool.true_and, Bool.false_and, Bool.true_or, Bool.false_or, Bool.or_true, Bool.or_false]
end Go.Proofs.Ythjkafeklflgbaa
namespace Go.Proofs.Ythjkafeklflgbaa
open Go.RowKit Go.Lib
set_option linter.unusedVariables false
set_option linter.unusedSimpArgs false
def refL : List (Int × Int × Int) := [(65, 768, 192), (69, 768, 200), (73, 768, 204), (79, 768, 210), (85, 768, 217), (97, 768, 224), (101, 768, 232), (105, 768, 236), (111, 768, 242), (117, 768, 249), (1045, 768, 1024), (1048, 768, 1037), (1077, 768, 1104), (1080, 768, 1117), (65, 769, 193), (69, 769, 201), (73, 769, 205), (79, 769, 211), (85, 769, 218), (89, 769, 221), (97, 769, 225), (101, 769, 233), (105, 769, 237), (111, 769, 243), (117, 769, 250), (121, 769, 253), (67, 769, 262), (76, 769, 313), (78, 769, 323), (82, 769, 340), (83, 769, 346), (90, 769, 377), (99, 769, 263), (108, 769, 314), (110, 769, 324), (114, 769, 341), (115, 769, 347), (122, 769, 378), (913, 769, 902), (917, 769, 904), (919, 769, 905), (921, 769, 906), (927, 769, 908), (933, 769, 910), (937, 769, 911), (945, 769, 940), (949, 769, 941), (951, 769, 942), (953, 769, 943), (959, 769, 972), (965, 769, 973), (969, 769, 974), (1043, 769, 1027), (1050, 769, 1036), (1075, 769, 1107), (1082, 769, 1116), (970, 769, 912), (971, 769, 944), (65, 770, 194), (69, 770, 202), (73, 770, 206), (79, 770, 212), (85, 770, 219), (97, 770, 226), (101, 770, 234), (105, 770, 238), (111, 770, 244), (117, 770, 251), (67, 770, 264), (71, 770, 284), (72, 770, 292), (74, 770, 308), (83, 770, 348), (87, 770, 372), (89, 770, 374), (99, 770, 265), (103, 770, 285), (104, 770, 293), (106, 770, 309), (115, 770, 349), (119, 770, 373), (121, 770, 375), (65, 771, 195), (78, 771, 209), (79, 771, 213), (97, 771, 227), (110, 771, 241), (111, 771, 245), (73, 771, 296), (85, 771, 360), (105, 771, 297), (117, 771, 361), (65, 772, 256), (69, 772, 274), (73, 772, 298), (79, 772, 332), (85, 772, 362), (97, 772, 257), (101, 772, 275), (105, 772, 299), (111, 772, 333), (117, 772, 363), (65, 774, 258), (69, 774, 276), (71, 774, 286), (73, 774, 300), (79, 774, 334), (85, 774, 364), (97, 774, 259), (101, 774, 277), (103, 774, 287), (105, 774, 301), (111, 774, 335), (117, 774, 365), (1048, 774, 1049), (1059, 774, 1038), (1080, 774, 1081), (1091, 774, 1118), (67, 775, 266), (69, 775, 278), (71, 775, 288), (73, 775, 304), (90, 775, 379), (99, 775, 267), (101, 775, 279), (103, 775, 289), (122, 775, 380), (65, 776, 196), (69, 776, 203), (73, 776, 207), (79, 776, 214), (85, 776, 220), (97, 776, 228), (101, 776, 235), (105, 776, 239), (111, 776, 246), (117, 776, 252), (121, 776, 255), (89, 776, 376), (1045, 776, 1025), (1030, 776, 1031), (1077, 776, 1105), (1110, 776, 1111), (921, 776, 938), (933, 776, 939), (953, 776, 970), (965, 776, 971), (65, 778, 197), (85, 778, 366), (97, 778, 229), (117, 778, 367), (79, 779, 336), (85, 779, 368), (111, 779, 337), (117, 779, 369), (67, 780, 268), (68, 780, 270), (69, 780, 282), (76, 780, 317), (78, 780, 327), (82, 780, 344), (83, 780, 352), (84, 780, 356), (90, 780, 381), (99, 780, 269), (100, 780, 271), (101, 780, 283), (108, 780, 318), (110, 780, 328), (114, 780, 345), (115, 780, 353), (116, 780, 357), (122, 780, 382), (67, 807, 199), (71, 807, 290), (75, 807, 310), (76, 807, 315), (78, 807, 325), (82, 807, 342), (83, 807, 350), (84, 807, 354), (99, 807, 231), (103, 807, 291), (107, 807, 311), (108, 807, 316), (110, 807, 326), (114, 807, 343), (115, 807, 351), (116, 807, 355), (65, 808, 260), (69, 808, 280), (73, 808, 302), (85, 808, 370), (97, 808, 261), (101, 808, 281), (105, 808, 303), (117, 808, 371)]

section
variable {κ ν : Type} [DecidableEq κ]
theorem getM_mem {k : κ} {v : ν} : ∀ {L : List (κ × ν)}, getM k L = some v → (k, v) ∈ L
  | [], h => by cases h
  | p :: L, h => by
    unfold getM at h
    split at h
    · rename_i e; cases h; rw [e]; exact List.mem_cons_self ..
    · exact List.mem_cons_of_mem _ (getM_mem h)
theorem getM_agree {A B : List (κ × ν)} (h1 : ∀ p ∈ A, getM p.1 B = getM p.1 A) (h2 : ∀ p ∈ B, getM p.1 A = getM p.1 B) (k : κ) : getM k A = getM k B := by
  cases h : getM k A with
  | some v => have := h1 _ (getM_mem h); rw [← h]; exact this.symm
  | none =>
    cases h' : getM k B with
    | none => rfl
    | some v => have := h2 _ (getM_mem h'); simp only at this; rw [h, h'] at this; cases this
end
def refP : List (Gfold_pair × Int) := refL.map fun t => (⟨t.1, t.2.1⟩, t.2.2)
def refS : List (Int × Gfold_pair) := refL.map fun t => (t.2.2, ⟨t.1, t.2.1⟩)
set_option maxRecDepth 100000 in
theorem agreeS1 : ∀ p ∈ refS, getM p.1 tabS = getM p.1 refS := by decide +kernel
set_option maxRecDepth 100000 in
theorem agreeS2 : ∀ p ∈ tabS, getM p.1 refS = getM p.1 tabS := by decide +kernel
set_option maxRecDepth 100000 in
theorem agreeP1 : ∀ p ∈ refP, getM p.1 tabP = getM p.1 refP := by decide +kernel
set_option maxRecDepth 100000 in
theorem agreeP2 : ∀ p ∈ tabP, getM p.1 refP = getM p.1 tabP := by decide +kernel
theorem getS (r : Int) : getM r refS = getM r tabS := getM_agree agreeS1 agreeS2 r
theorem getP (p : Gfold_pair) : getM p refP = getM p tabP := getM_agree agreeP1 agreeP2 p
/-- The table's rows. -/
def rowsT : List T_3_string := (ref04_Table_v).getD []
theorem table_v : ref04_Table_v = some rowsT := rfl
def trip (q : T_3_string) : List (Int × Int × Int) := ((runesOf q.e1).zip (runesOf q.e2)).map fun p => (p.1, (runesOf q.e0).headD 0, p.2)
set_option maxRecDepth 100000 in
theorem rows_eq : rowsT.flatMap trip = refL := by decide +kernel
def rowOk (q : T_3_string) : Bool := decide ((runesOf q.e1).length = (runesOf q.e2).length) && decide ((runesOf q.e0).length = 1) && decide (q.e0.size ≤ 1000 ∧ q.e1.size ≤ 1000 ∧ q.e2.size ≤ 1000)
set_option maxRecDepth 100000 in
theorem rows_ok : rowsT.all rowOk = true := by decide +kernel
theorem row_ok {q : T_3_string} (h : q ∈ rowsT) : (runesOf q.e1).length = (runesOf q.e2).length ∧ getO (runesOf q.e0) 0 = some ((runesOf q.e0).headD 0) ∧ q.e0.size ≤ 1000 ∧ q.e1.size ≤ 1000 ∧ q.e2.size ≤ 1000 := by
  have := List.all_eq_true.1 rows_ok q h
  unfold rowOk at this
  simp only [Bool.and_eq_true, decide_eq_true_eq] at this
  obtain ⟨⟨h1, h2⟩, h3⟩ := this
  refine ⟨h1, ?_, h3⟩
  cases e : runesOf q.e0 with
  | nil => rw [e] at h2; cases h2
  | cons x l => rfl
theorem findSome_flat {α β γ : Type} (f : α → List β) (g : β → Option γ) : ∀ xs : List α, (xs.findSome? fun x => (f x).findSome? g) = (xs.flatMap f).findSome? g
  | [] => rfl
  | x :: xs => by
    rw [List.flatMap_cons, List.findSome?_append, List.findSome?_cons, findSome_flat f g xs]
    cases (f x).findSome? g <;> rfl
theorem find_getS {γ : Type} (r : Int) (F : Int → Int → γ) : ∀ L : List (Int × Int × Int), (L.findSome? fun t => if (t.2.2 == r) then some (F t.1 t.2.1) else none) = (getM r (L.map fun t => ((t.2.2, ⟨t.1, t.2.1⟩) : Int × Gfold_pair))).map fun p => F p.e0 p.e1
  | [] => rfl
  | t :: L => by
    rw [List.findSome?_cons, List.map_cons]
    unfold getM
    by_cases h : r = t.2.2
    · subst h; simp
    · have : (t.2.2 == r) = false := by rw [beq_eq_false_iff_ne]; exact fun e => h e.symm
      rw [this, if_neg h]; exact find_getS r F L
theorem find_getP (b m : Int) : ∀ L : List (Int × Int × Int), (L.findSome? fun t => if (t.1 == b) && (t.2.1 == m) then some t.2.2 else none) = getM (⟨b, m⟩ : Gfold_pair) (L.map fun t => ((⟨t.1, t.2.1⟩, t.2.2) : Gfold_pair × Int))
  | [] => rfl
  | t :: L => by
    rw [List.findSome?_cons, List.map_cons]
    unfold getM
    by_cases h : (⟨b, m⟩ : Gfold_pair) = ⟨t.1, t.2.1⟩
    · cases h; simp
    · have : ((t.1 == b) && (t.2.1 == m)) = false := by
        cases e : ((t.1 == b) && (t.2.1 == m)) with
        | false => rfl
        | true => simp at e; exact absurd (by rw [e.1, e.2]) h
      rw [this, if_neg h]; exact find_getP b m L
/-- One step of the parting of a rune. -/
def spStep (rcall : Int → Option (List Int)) (r : Int) : Option (List Int) :=
  match getM r tabS with
  | none => some [r]
  | some p => andThen (rcall p.e0) fun l => grd (l.length + 1 ≤ 2147483648) <| some (l ++ [p.e1])
theorem zip_get {α β : Type} {a : List α} {b : List β} {k : Nat} {p : α × β} (h : (a.zip b)[k]? = some p) : a[k]? = some p.1 ∧ b[k]? = some p.2 := by
  rw [List.getElem?_zip_eq_some] at h; exact h
theorem rsplit_step (rcall : Int → Option (List Int)) (r : Int) : ref04_Split_b rcall r = spStep rcall r := by
  unfold ref04_Split_b
  refine joinI (thenI table_v ?_)
  have hlen : rowsT.length = 14 := by decide
  have inner : ∀ (q : T_3_string) (j2 : Option (List Int)), q ∈ rowsT → loopG (fun _ => none) (ref04_Split_s2 rcall r j2 q) fuel 0 = (((trip q)).findSome? fun t => if (t.2.2 == r) then some (andThen (rcall t.1) fun l => grd (l.length + 1 ≤ 2147483648) <| some (l ++ [t.2.1])) else none).getD j2 := by
    intro q j2 hq
    obtain ⟨h1, h2, h3, h4, h5⟩ := row_ok hq
    have hz : (trip q).length = (runesOf q.e2).length := by unfold trip; simp [h1]
    have hl := runesOf_len q.e2
    refine seek (xs := trip q) (fun ag k x hx => ?_) (fun ag => ?_) (big_fuel (by omega))
    · have hx2 : ∃ p, ((runesOf q.e1).zip (runesOf q.e2))[k]? = some p ∧ x = (p.1, (runesOf q.e0).headD 0, p.2) := by
        unfold trip at hx
        rw [List.getElem?_map] at hx
        obtain ⟨p, hp, e⟩ := Option.map_eq_some_iff.1 hx
        exact ⟨p, hp, e.symm⟩
      obtain ⟨p, hp, rfl⟩ := hx2
      obtain ⟨e1, e2⟩ := zip_get hp
      have hk := lp_lt' e2
      unfold ref04_Split_s2
      refine condTI (lp_lt e2) (thenI (lp_get e2) ?_)
      cases h : (p.2 == r) with
      | true => exact condTI rfl (thenI (lp_get e1) (by
          rw [if_pos rfl, Option.getD_some]
          cases rcall p.1 with
          | none => rfl
          | some l => exact (thenI rfl (grdI (by omega) (thenI h2 rfl))).trans (and_some rfl).symm))
      | false => exact condFI rfl (grdI (lp_i64 (by omega)) rfl)
    · rw [hz]; unfold ref04_Split_s2; exact condFI lp_ge rfl
  have outer := seek (xs := rowsT) (F := ref04_Split_s1 rcall r (some [r]) rowsT) (bot := fun _ => none) (g := fun q => (trip q).findSome? fun t => if (t.2.2 == r) then some (andThen (rcall t.1) fun l => grd (l.length + 1 ≤ 2147483648) <| some (l ++ [t.2.1])) else none) (J := some [r]) (fun ag k q hq => by
    have hm := List.mem_of_getElem? hq
    have hk := lp_lt' hq
    obtain ⟨h1, h2, h3, h4, h5⟩ := row_ok hm
    unfold ref04_Split_s1
    refine condTI (lp_lt hq) (joinI (thenI (lp_get hq) (grdI (by omega) (grdI (by omega) ?_))))
    rw [inner q _ hm]
    exact congrArg _ (grdI (lp_i64 (by omega)) rfl)) (fun ag => by unfold ref04_Split_s1; exact condFI lp_ge rfl) (n := fuel) (big_fuel (by omega))
  rw [outer, findSome_flat, rows_eq, find_getS r (fun a m => andThen (rcall a) fun l => grd (l.length + 1 ≤ 2147483648) <| some (l ++ [m]))]
  show ((getM r refS).map _).getD _ = _
  rw [getS]
  unfold spStep
  cases getM r tabS <;> rfl
theorem psplit_step (rcall : (List (Int × Gfold_pair)) → Int → Option (List Int)) (r : Int) : fold_parted_b rcall tabS r = spStep (rcall tabS) r := by
  unfold fold_parted_b spStep
  cases getM r tabS with
  | none => exact condTI rfl rfl
  | some p => exact condFI rfl rfl
def spB : Option (List Int) → Prop := fun _ => True
def spF : Nat → Int → Option (List Int)
  | 0, _ => none
  | n + 1, r => spStep (spF n) r
theorem rsplit_F : ∀ (n : Nat) (r : Int), loopG (fun _ => none) ref04_Split_b n r = spF n r
  | 0, r => rfl
  | n + 1, r => by
    rw [loopI, rsplit_step]
    show spStep _ r = spStep _ r
    congr 1; funext x; exact rsplit_F n x
theorem psplit_F : ∀ (n : Nat) (r : Int), loopG (fun _ _ => none) fold_parted_b n tabS r = spF n r
  | 0, r => rfl
  | n + 1, r => by
    rw [loopI, psplit_step]
    show spStep _ r = spStep _ r
    congr 1; funext x; exact psplit_F n x
/-- The parts of a rune. -/
def parts (r : Int) : List Int :=
  match getM r tabS with
  | none => [r]
  | some p => (match getM p.e0 tabS with
    | none => [p.e0]
    | some q => [q.e0, q.e1]) ++ [p.e1]
def deep : Bool := tabS.all fun p => match getM p.2.e0 tabS with | none => true | some q => decide (getM q.e0 tabS = none)
set_option maxRecDepth 100000 in
theorem deep_ok : deep = true := by decide +kernel
theorem spF_parts (n : Nat) (r : Int) : spF (n + 3) r = some (parts r) := by
  show spStep (spF (n + 2)) r = _
  unfold spStep parts
  cases h : getM r tabS with
  | none => rfl
  | some p =>
    have hd := List.all_eq_true.1 deep_ok _ (getM_mem h)
    simp only at hd
    refine thenI (a := match getM p.e0 tabS with | none => [p.e0] | some q => [q.e0, q.e1]) ?_ (grdI (by cases getM p.e0 tabS <;> simp) rfl)
    show spStep (spF (n + 1)) p.e0 = _
    unfold spStep
    cases h2 : getM p.e0 tabS with
    | none => rfl
    | some q =>
      rw [h2] at hd
      simp only [decide_eq_true_eq] at hd
      refine thenI (a := [q.e0]) ?_ (grdI (by simp) rfl)
      show spStep (spF n) q.e0 = _
      unfold spStep
      rw [hd]
theorem rsplit_v (r : Int) : ref04_Split_v r = some (parts r) := by
  unfold ref04_Split_v
  rw [rsplit_F]
  obtain ⟨n, hn, _⟩ := fuel_eq 3 (by omega)
  rw [hn]; exact spF_parts n r
theorem parted_v (r : Int) : fold_parted_v tabS r = some (parts r) := by
  unfold fold_parted_v
  rw [psplit_F]
  obtain ⟨n, hn, _⟩ := fuel_eq 3 (by omega)
  rw [hn]; exact spF_parts n r
theorem split_v (r : Int) : fold_Split_v r = some (parts r) := thenI tables_v (thenI (parted_v r) rfl)
end Go.Proofs.Ythjkafeklflgbaa
namespace Go.Proofs.Ythjkafeklflgbaa
open Go.RowKit Go.Lib
set_option linter.unusedVariables false
set_option linter.unusedSimpArgs false
def joined (b m : Int) : Option Int := getM (⟨b, m⟩ : Gfold_pair) tabP
theorem rjoin_v (b m : Int) : ref04_Join_v b m = some ((joined b m).getD 0) := by
  unfold ref04_Join_v
  refine joinI (thenI table_v ?_)
  have hlen : rowsT.length = 14 := by decide
  have inner : ∀ (q : T_3_string) (j2 : Option Int), q ∈ rowsT → loopG (fun _ => none) (ref04_Join_s2 b m j2 q) fuel 0 = (((trip q).findSome? fun t => if (t.1 == b) && (t.2.1 == m) then some t.2.2 else none).map some).getD j2 := by
    intro q j2 hq
    obtain ⟨h1, h2, h3, h4, h5⟩ := row_ok hq
    have hz : (trip q).length = (runesOf q.e1).length := by unfold trip; simp [h1]
    have hl := runesOf_len q.e1
    have := seek (xs := trip q) (F := ref04_Join_s2 b m j2 q) (bot := fun _ => none) (g := fun t => if (t.1 == b) && (t.2.1 == m) then some (some t.2.2) else none) (J := j2) (fun ag k x hx => ?_) (fun ag => ?_) (n := fuel) (big_fuel (by omega))
    · rw [this]
      congr 1
      induction trip q with
      | nil => rfl
      | cons t l ih =>
        rw [List.findSome?_cons, List.findSome?_cons]
        cases ((t.1 == b) && (t.2.1 == m)) with
        | true => rfl
        | false => exact ih
    · have hx2 : ∃ p, ((runesOf q.e1).zip (runesOf q.e2))[k]? = some p ∧ x = (p.1, (runesOf q.e0).headD 0, p.2) := by
        unfold trip at hx
        rw [List.getElem?_map] at hx
        obtain ⟨p, hp, e⟩ := Option.map_eq_some_iff.1 hx
        exact ⟨p, hp, e.symm⟩
      obtain ⟨p, hp, rfl⟩ := hx2
      obtain ⟨e1, e2⟩ := zip_get hp
      have hk := lp_lt' e1
      have tl : (grd (I64 ((k : Int) + 1)) <| ag ((k : Int) + 1)) = ag ((k : Int) + 1) := grdI (lp_i64 (by omega)) rfl
      unfold ref04_Join_s2
      refine condTI (lp_lt e1) (joinI (thenI (lp_get e1) ?_))
      cases h : (p.1 == b) with
      | true =>
        refine condTI rfl (grdI (by omega) (thenI h2 ?_))
        cases h' : ((runesOf q.e0).headD 0 == m) with
        | true => exact condTI rfl (thenI (lp_get e2) rfl)
        | false => exact condFI rfl tl
      | false => exact condFI rfl tl
    · rw [hz]; unfold ref04_Join_s2; exact condFI lp_ge rfl
  have outer := seek (xs := rowsT) (F := ref04_Join_s1 b m (some 0) rowsT) (bot := fun _ => none) (g := fun q => ((trip q).findSome? fun t => if (t.1 == b) && (t.2.1 == m) then some t.2.2 else none).map some) (J := some 0) (fun ag k q hq => by
    have hm := List.mem_of_getElem? hq
    have hk := lp_lt' hq
    obtain ⟨h1, h2, h3, h4, h5⟩ := row_ok hm
    unfold ref04_Join_s1
    refine condTI (lp_lt hq) (joinI (thenI (lp_get hq) (grdI (by omega) (grdI (by omega) ?_))))
    rw [inner q _ hm]
    exact congrArg _ (grdI (lp_i64 (by omega)) rfl)) (fun ag => by unfold ref04_Join_s1; exact condFI lp_ge rfl) (n := fuel) (big_fuel (by omega))
  rw [outer]
  have e : (rowsT.findSome? fun q => ((trip q).findSome? fun t => if (t.1 == b) && (t.2.1 == m) then some t.2.2 else none).map some) = ((rowsT.findSome? fun q => (trip q).findSome? fun t => if (t.1 == b) && (t.2.1 == m) then some t.2.2 else none)).map some := by
    generalize rowsT = L
    induction L with
    | nil => rfl
    | cons q l ih =>
      rw [List.findSome?_cons, List.findSome?_cons, ih]
      cases (trip q).findSome? _ <;> rfl
  rw [e, findSome_flat, rows_eq, find_getP b m]
  show ((getM _ refP).map some).getD _ = _
  rw [getP]
  unfold joined
  cases getM (⟨b, m⟩ : Gfold_pair) tabP <;> rfl
theorem pjoin_v (b m : Int) : fold_Join_v b m = some ((joined b m).getD 0, (joined b m).isSome) := by
  unfold fold_Join_v
  refine joinI (thenI pairs_v (joinI (joinI ?_)))
  unfold joined
  generalize tabP = L
  induction L with
  | nil => rfl
  | cons p L ih =>
    rw [rangeG_cons]
    unfold fold_Join_s1 getM
    by_cases h : (⟨b, m⟩ : Gfold_pair) = p.1
    · rw [if_pos h]; exact condTI ((eq_Gfold_pair_iff _ _).2 h.symm) rfl
    · rw [if_neg h]
      refine condFI ?_ ih
      cases e : eq_Gfold_pair p.1 ⟨b, m⟩ with
      | false => rfl
      | true => exact absurd ((eq_Gfold_pair_iff _ _).1 e).symm h
/-! ### Items -/
def itG (s : ByteArray) (p : Pc) : Gref04_Item := ⟨if p.broken then -1 else (p.r : Int), s.extract p.i (p.i + p.w), p.i⟩
def itemsP (s : ByteArray) : List Gref04_Item := (pcs s.data.toList).map (itG s)
theorem pcs_fit {s : ByteArray} {p : Pc} (hp : p ∈ pcs s.data.toList) : p.i + p.w ≤ s.size := by
  obtain ⟨g1, g2, hok⟩ := pcs_pos s.data.toList p hp
  have hlen : s.data.toList.length = s.size := by rw [Array.length_toList]; rfl
  omega
theorem pcs_count_le (s : ByteArray) : (pcs s.data.toList).length ≤ s.size := by
  have := runesOf_len s; unfold runesOf at this; simpa using this
theorem items_v (s : ByteArray) (hs : s.size ≤ 1073741824) : ref04_Items_v s = some (itemsP s) := by
  unfold ref04_Items_v
  refine joinI (thenI (pieces_v s (by omega)) ?_)
  have hc := pcs_count_le s
  refine (loop1 (xs := (pcs s.data.toList).map pcG) (f := fun l (x : Gapi_Piece) => l ++ [(⟨if x.Broken then -1 else x.Rune, cutB s x.At (x.At + x.Width), x.At⟩ : Gref04_Item)]) (J := some) (fun k l => l.length = k) ?_ ?_ ?_ (big_fuel (by simp; omega)) rfl).trans ?_
  · intro ag k x l hx hl
    have hk := lp_lt' hx
    have hk2 : k < (pcs s.data.toList).length := by simpa using hk
    have hx' := hx
    rw [List.getElem?_map] at hx'
    obtain ⟨p, hp, rfl⟩ := Option.map_eq_some_iff.1 hx'
    have hf := pcs_fit (List.mem_of_getElem? hp)
    unfold ref04_Items_s1
    refine condTI (lp_lt hx) (joinI (thenI (lp_get hx) (thenI (a := cutB s p.i ((p.i : Int) + p.w)) (grdI ⟨by simp only [pcG]; omega, by simp only [pcG]; omega⟩ (grdI ⟨by simp only [pcG]; omega, by simp only [pcG]; omega, by simp only [pcG]; omega⟩ rfl)) ?_)))
    cases hb : (pcG p).Broken with
    | true => exact condTI rfl (grdI (by omega) (grdI (lp_i64 (by omega)) (by simp [hb, pcG])))
    | false => exact condFI rfl (grdI (by omega) (grdI (lp_i64 (by omega)) (by simp [hb, pcG])))
  · intro k x l hx hl; simp [hl]
  · intro ag l hl; unfold ref04_Items_s1; exact condFI lp_ge rfl
  · have : ∀ (ps : List Pc) (l : List Gref04_Item), (ps.map pcG).foldl (fun l (x : Gapi_Piece) => l ++ [(⟨if x.Broken then -1 else x.Rune, cutB s x.At (x.At + x.Width), x.At⟩ : Gref04_Item)]) l = l ++ ps.map (itG s) := by
      intro ps
      induction ps with
      | nil => intro l; simp
      | cons p ps ih => intro l; rw [List.map_cons, List.foldl_cons, ih]; simp [itG, pcG, cutB]; exact ⟨rfl, by congr 1⟩
    rw [this]; rfl
/-- The texts of items, one behind the other. -/
def catI (l : List Gref04_Item) : ByteArray := l.foldl (fun s x => s ++ x.Text) (⟨#[]⟩ : ByteArray)
def sizeI (l : List Gref04_Item) : Nat := (l.map fun x => x.Text.size).sum
theorem text_v (l : List Gref04_Item) (hl : l.length ≤ 1099511627776) (hs : sizeI l ≤ 1099511627776) : ref04_Text_v l = some (catI l) := by
  unfold ref04_Text_v
  refine joinI ((loop1 (xs := l) (f := fun s (x : Gref04_Item) => s ++ x.Text) (J := some) (fun k s => s.size = sizeI (l.take k)) ?_ ?_ ?_ (big_fuel (by omega)) rfl).trans rfl)
  · intro ag k x s hx hi
    have hk := lp_lt' hx
    have h1 : sizeI (l.take k) + x.Text.size ≤ sizeI l := by
      have h2 : l = l.take k ++ x :: l.drop (k + 1) := by
        have := List.getElem?_eq_some_iff.1 hx
        obtain ⟨hlt, he⟩ := this
        rw [← he, ← List.drop_eq_getElem_cons hlt, List.take_append_drop]
      have : sizeI l = sizeI (l.take k) + (x.Text.size + sizeI (l.drop (k + 1))) := by
        conv => lhs; rw [h2]
        simp [sizeI]
      omega
    unfold ref04_Text_s1
    exact condTI (lp_lt hx) (thenI (lp_get hx) (grdI (by omega) (grdI (lp_i64 (by omega)) rfl)))
  · intro k x s hx hi
    have h2 : l.take (k + 1) = l.take k ++ [x] := by
      rw [List.take_add_one, hx]; rfl
    rw [h2, ByteArray.size_append, hi]; simp [sizeI]
  · intro ag s _; unfold ref04_Text_s1; exact condFI lp_ge rfl
theorem of_v (r : Int) (x : Gref04_Item) (hr : I32 r) : ref04_of_v r x = some ⟨r, Utf8.encode r, x.At⟩ := thenI (encode_v r hr) rfl
/-- How many marks stand ahead. -/
theorem marks_v (l : List Gref04_Item) (hl : l.length ≤ 1099511627776) : ref04_marks_v l = some (((l.takeWhile fun x => mrk x.Rune).length : Nat) : Int) := by
  unfold ref04_marks_v
  refine joinI ?_
  have key : ∀ (n k : Nat), k ≤ l.length → l.length - k < n → loopG (fun _ => none) (ref04_marks_s1 l some) n (k : Int) = some ((k + ((l.drop k).takeWhile fun x => mrk x.Rune).length : Nat) : Int) := by
    intro n
    induction n with
    | zero => intro k _ h; omega
    | succ n ih =>
      intro k hk hn
      rw [loopI]
      generalize loopG (fun _ => none) (ref04_marks_s1 l some) n = ag at ih ⊢
      unfold ref04_marks_s1
      by_cases h : k < l.length
      · have hx : l[k]? = some l[k] := List.getElem?_eq_getElem h
        refine condTI (lp_lt hx) (thenI (lp_get hx) (thenI (imark_v _) ?_))
        rw [List.drop_eq_getElem_cons h, List.takeWhile_cons]
        cases hm : mrk l[k].Rune with
        | true =>
          refine condTI rfl (grdI (lp_i64 (by omega)) ?_)
          have := ih (k + 1) (by omega) (by omega)
          push_cast at this ⊢
          rw [this]; simp; omega
        | false => exact condFI rfl (by simp)
      · have : k = l.length := by omega
        subst this
        exact condFI lp_ge (by rw [List.drop_length]; simp)
  have := key fuel 0 (Nat.zero_le _) (by have := big_fuel (n := l.length) (by omega); omega)
  simpa using this
end Go.Proofs.Ythjkafeklflgbaa
namespace Go.Proofs.Ythjkafeklflgbaa
open Go.RowKit Go.Lib
set_option linter.unusedVariables false
set_option linter.unusedSimpArgs false
abbrev Itm := Gref04_Item
def isL (x : Itm) : Bool := letter x.Rune
def isM (x : Itm) : Bool := mrk x.Rune
def isLo (x : Itm) : Bool := lowR x.Rune
theorem mrk_not_letter {r : Int} (h : mrk r = true) : letter r = false := by
  cases e : letter r with
  | false => rfl
  | true => have := letter_rng r e; unfold mrk at h; simp at h; omega
/-! ### The parts of letters -/
def shape (r : Int) : Bool := match parts r with
  | [] => false
  | b :: ms => letter b && decide (getM b tabS = none) && ms.all mrk && decide ((b :: ms).length ≤ 3)
set_option maxRecDepth 100000 in
theorem shapes : (tabS.all fun p => shape p.1) = true := by decide +kernel
set_option maxRecDepth 100000 in
theorem tab_rng : (tabS.all fun p => decide (0 ≤ p.1 ∧ p.1 ≤ 2000 ∧ 0 ≤ p.2.e0 ∧ p.2.e0 ≤ 2000 ∧ 0 ≤ p.2.e1 ∧ p.2.e1 ≤ 2000) && letter p.1) = true := by decide +kernel
theorem parts_shape {r : Int} (h : letter r = true) : ∃ b ms, parts r = b :: ms ∧ letter b = true ∧ getM b tabS = none ∧ (∀ m ∈ ms, mrk m = true) ∧ ms.length ≤ 2 := by
  cases e : getM r tabS with
  | none => exact ⟨r, [], by unfold parts; rw [e], h, e, by simp, by simp⟩
  | some p =>
    have h1 := List.all_eq_true.1 shapes _ (getM_mem e)
    unfold shape at h1
    simp only at h1
    cases hp : parts r with
    | nil => rw [hp] at h1; cases h1
    | cons b ms =>
      rw [hp] at h1
      simp only [Bool.and_eq_true, decide_eq_true_eq, List.all_eq_true, List.length_cons] at h1
      exact ⟨b, ms, rfl, h1.1.1.1, h1.1.1.2, h1.1.2, by omega⟩
theorem parts_len (r : Int) : (parts r).length ≤ 3 ∧ 1 ≤ (parts r).length := by
  unfold parts
  (repeat' split) <;> simp
theorem tabS_rng {k : Int} {p : Gfold_pair} (h : getM k tabS = some p) : (0 ≤ p.e0 ∧ p.e0 ≤ 2000) ∧ (0 ≤ p.e1 ∧ p.e1 ≤ 2000) ∧ letter k = true := by
  have := List.all_eq_true.1 tab_rng _ (getM_mem h)
  simp only [Bool.and_eq_true, decide_eq_true_eq] at this
  obtain ⟨⟨h1, h2, h3, h4, h5, h6⟩, h7⟩ := this
  exact ⟨⟨h3, h4⟩, ⟨h5, h6⟩, h7⟩
theorem parts_i32 {r : Int} (h : I32 r) : ∀ y ∈ parts r, I32 y := by
  intro y hy
  unfold parts at hy
  split at hy
  · simp at hy; subst hy; exact h
  · rename_i p hp
    obtain ⟨h1, h2, _⟩ := tabS_rng hp
    split at hy
    · simp at hy; rcases hy with rfl | rfl <;> exact ⟨by omega, by omega⟩
    · rename_i q hq
      obtain ⟨h3, h4, _⟩ := tabS_rng hq
      simp at hy; rcases hy with rfl | rfl | rfl <;> exact ⟨by omega, by omega⟩
/-! ### Clusters -/
def clF : Option (Itm × List Itm) → List Itm → List (Itm × List Itm)
  | none, [] => []
  | some c, [] => [c]
  | none, x :: xs => clF (some (x, [])) xs
  | some c, x :: xs => if isL c.1 && isM x then clF (some (c.1, c.2 ++ [x])) xs else c :: clF (some (x, [])) xs
def cl (xs : List Itm) : List (Itm × List Itm) := clF none xs
theorem clF_letter (x : Itm) (h : isL x = true) : ∀ (xs ms : List Itm), clF (some (x, ms)) xs = (x, ms ++ xs.takeWhile isM) :: cl (xs.dropWhile isM)
  | [], ms => by simp [clF, cl]
  | y :: xs, ms => by
    unfold clF
    cases hm : isM y with
    | true => rw [h, List.takeWhile_cons, List.dropWhile_cons, hm]; simp only [Bool.and_self, if_true]; rw [clF_letter x h xs]; simp
    | false => rw [List.takeWhile_cons, List.dropWhile_cons, hm]; simp [cl, clF]
theorem clF_other (x : Itm) (h : isL x = false) (xs : List Itm) : clF (some (x, [])) xs = (x, []) :: cl xs := by
  cases xs with
  | nil => rfl
  | cons y xs => unfold clF; rw [h]; simp [cl, clF]
theorem cl_nil : cl [] = [] := rfl
theorem cl_letter {x : Itm} (h : isL x = true) (xs : List Itm) : cl (x :: xs) = (x, xs.takeWhile isM) :: cl (xs.dropWhile isM) := by
  show clF (some (x, [])) xs = _
  rw [clF_letter x h]; rfl
theorem cl_other {x : Itm} (h : isL x = false) (xs : List Itm) : cl (x :: xs) = (x, []) :: cl xs := clF_other x h xs
def loI (ms : List Itm) : List Itm := ms.filter isLo
def hiI (ms : List Itm) : List Itm := ms.filter fun x => !isLo x
def ordC (c : Itm × List Itm) : List Itm := c.1 :: (loI c.2 ++ hiI c.2)
def ordI (xs : List Itm) : List Itm := (cl xs).flatMap ordC
theorem lohi_len (ms : List Itm) : (loI ms ++ hiI ms).length = ms.length := by
  unfold loI hiI
  induction ms with
  | nil => rfl
  | cons x ms ih =>
    rw [List.filter_cons, List.filter_cons]
    rw [List.length_append] at ih ⊢
    cases isLo x <;> simp <;> omega
theorem lohi_marks {ms : List Itm} (h : ∀ m ∈ ms, isM m = true) : ∀ m ∈ loI ms ++ hiI ms, isM m = true := by
  intro m hm
  unfold loI hiI at hm
  rw [List.mem_append, List.mem_filter, List.mem_filter] at hm
  rcases hm with hm | hm <;> exact h m hm.1
theorem take_marks (xs : List Itm) : ∀ m ∈ xs.takeWhile isM, isM m = true := List.all_eq_true.1 List.all_takeWhile
/-- What a letter is taken apart into. -/
def apI (x : Itm) : List Itm := if isL x then (parts x.Rune).map fun r => ⟨r, Utf8.encode r, x.At⟩ else [x]
def apL (l : List Itm) : List Itm := l.flatMap apI
theorem apI_len (x : Itm) : (apI x).length ≤ 3 := by
  unfold apI
  split
  · simp; exact (parts_len _).1
  · simp
def okIs (l : List Itm) : Prop := ∀ x ∈ l, I32 x.Rune
theorem okIs_ap {l : List Itm} (h : okIs l) : okIs (apL l) := by
  intro y hy
  unfold apL at hy
  obtain ⟨x, hx, hy⟩ := List.mem_flatMap.1 hy
  unfold apI at hy
  split at hy
  · obtain ⟨r, hr, rfl⟩ := List.mem_map.1 hy
    exact parts_i32 (h x hx) r hr
  · simp at hy; subst hy; exact h _ hx
theorem apL_len (l : List Itm) : (apL l).length ≤ 3 * l.length := by
  unfold apL
  induction l with
  | nil => simp
  | cons x l ih => rw [List.flatMap_cons, List.length_append, List.length_cons]; have := apI_len x; omega
theorem fold_app {α β : Type} (g : α → List β) : ∀ (xs : List α) (a : List β), xs.foldl (fun a x => a ++ g x) a = a ++ xs.flatMap g
  | [], a => by simp
  | x :: xs, a => by rw [List.foldl_cons, fold_app g xs]; simp
/-- The first loop. -/
theorem apart1 (l : List Itm) (hok : okIs l) (hl : l.length ≤ 268435456) (J : List Itm → Option (List Itm)) : loopG (fun _ _ => none) (ref04_apart_s1 l J) fuel [] 0 = J (apL l) := by
  refine (loop1 (xs := l) (f := fun a x => a ++ apI x) (J := J) (fun k a => a.length ≤ 3 * k) ?_ ?_ ?_ (big_fuel (by omega)) (by simp)).trans ?_
  · intro ag k x a hx hi
    have hk := lp_lt' hx
    have hx32 := hok x (List.mem_of_getElem? hx)
    unfold ref04_apart_s1
    refine condTI (lp_lt hx) (joinI (thenI (lp_get hx) (thenI (iletter_v x hx32) ?_)))
    cases hL : letter x.Rune with
    | false =>
      have : apI x = [x] := by unfold apI isL; rw [hL]; rfl
      rw [this]
      exact condTI rfl (grdI (by omega) (grdI (lp_i64 (by omega)) rfl))
    | true =>
      have : apI x = (parts x.Rune).map fun r => ⟨r, Utf8.encode r, x.At⟩ := by unfold apI isL; rw [hL]; rfl
      rw [this]
      refine condFI rfl (thenI (rsplit_v _) ?_)
      have hp := parts_len x.Rune
      refine (loop1 (xs := parts x.Rune) (f := fun a (r : Int) => a ++ [(⟨r, Utf8.encode r, x.At⟩ : Itm)]) (J := fun out5 => grd (I64 ((k : Int) + 1)) <| ag out5 ((k : Int) + 1)) (fun j b => b.length ≤ 3 * k + j) ?_ ?_ ?_ (big_fuel (by omega)) (by omega)).trans ?_
      · intro ag2 j r b hr hb
        have hj := lp_lt' hr
        unfold ref04_apart_s2
        exact condTI (lp_lt hr) (thenI (lp_get hr) (thenI (of_v r x (parts_i32 hx32 r (List.mem_of_getElem? hr))) (grdI (by omega) (grdI (lp_i64 (by omega)) rfl))))
      · intro j r b _ hb; simp; omega
      · intro ag2 b _; unfold ref04_apart_s2; exact condFI lp_ge rfl
      · rw [fold_app (fun r => [(⟨r, Utf8.encode r, x.At⟩ : Itm)])]
        refine grdI (lp_i64 (by omega)) ?_
        rw [List.map_eq_flatMap]
  · intro k x a _ hi; simp only [List.length_append]; have := apI_len x; omega
  · intro ag a _; unfold ref04_apart_s1; exact condFI lp_ge rfl
  · rw [fold_app apI]; rfl
/-! ### The second loop -/
theorem get_at {α : Type} (A : List α) (x : α) (B : List α) : (A ++ x :: B)[A.length]? = some x := by simp
theorem cut_rest {α : Type} (A : List α) (x : α) (B : List α) (i : Int) (hi : i = (A.length : Int)) : cutL (A ++ x :: B) (i + 1) (((A ++ x :: B).length : Nat) : Int) = B := by
  subst hi
  unfold cutL
  rw [show ((A.length : Int) + 1).toNat = (A ++ [x]).length by simp]
  rw [show A ++ x :: B = (A ++ [x]) ++ B by simp, List.drop_left, List.take_of_length_le (by simp; omega)]
theorem cut_row {α : Type} (A : List α) (x : α) (M B : List α) (i r : Int) (hi : i = (A.length : Int)) (hr : r = (M.length : Int)) : cutL (A ++ x :: (M ++ B)) (i + 1) ((i + 1) + r) = M := by
  subst hi; subst hr
  unfold cutL
  rw [show ((A.length : Int) + 1).toNat = (A ++ [x]).length by simp]
  rw [show A ++ x :: (M ++ B) = (A ++ [x]) ++ (M ++ B) by simp, List.drop_left]
  rw [show (((A.length : Int) + 1 + (M.length : Int)).toNat - (A ++ [x]).length) = M.length by simp; omega, List.take_left]
theorem over_row {α : Type} (A : List α) (x : α) (M B Y : List α) (j : Nat) (hj : j = A.length + 1) (hy : Y.length = M.length) : overL (A ++ x :: (M ++ B)) j Y = A ++ x :: (Y ++ B) := by
  subst hj
  unfold overL
  rw [show A ++ x :: (M ++ B) = ((A ++ [x]) ++ M) ++ B by simp, hy]
  rw [show ((A ++ [x]) ++ M ++ B).take (A.length + 1) = A ++ [x] by
    rw [List.append_assoc, show A.length + 1 = (A ++ [x]).length by simp, List.take_left]]
  rw [show ((A ++ [x]) ++ M ++ B).drop (A.length + 1 + M.length) = B by
    rw [show A.length + 1 + M.length = ((A ++ [x]) ++ M).length by simp; omega, List.drop_left]]
  simp
theorem lohi_fold (M : List Itm) : ∀ a : List Itm × List Itm, M.foldl (fun a x => if isLo x then (a.1 ++ [x], a.2) else (a.1, a.2 ++ [x])) a = (a.1 ++ loI M, a.2 ++ hiI M) := by
  induction M with
  | nil => intro a; simp [loI, hiI]
  | cons x M ih =>
    intro a
    rw [List.foldl_cons, ih]
    unfold loI hiI
    cases h : isLo x <;> simp [h]
/-- One letter's marks are laid in order. -/
theorem apart_step (out1 A M B : List Itm) (x : Itm) (J : List Itm → Option (List Itm)) (ag : List Itm → Int → Option (List Itm)) (i : Int) (hi : i = (A.length : Int)) (hlen : out1.length = (A ++ x :: (M ++ B)).length) (hx : isL x = true) (hx32 : I32 x.Rune)
    (hM : (M ++ B).takeWhile isM = M) (hb : out1.length ≤ 1073741824) : ref04_apart_s3 out1 J ag (A ++ x :: (M ++ B)) i = ag (A ++ x :: ((loI M ++ hiI M) ++ B)) (i + 1) := by
  have hl : (A ++ x :: (M ++ B)).length = A.length + 1 + M.length + B.length := by simp; omega
  unfold ref04_apart_s3
  refine condTI (decide_eq_true (by omega)) (joinI (thenI (getO_of hi (get_at A x _)) (thenI (iletter_v x hx32) ?_)))
  have hx' : letter x.Rune = true := hx
  rw [hx']
  refine condFI rfl (joinI (grdI ⟨by omega, by omega⟩ (grdI ⟨by omega, by omega⟩ (grdI ⟨by omega, by omega⟩ (grdI ⟨by omega, by omega, by omega⟩ ?_)))))
  rw [cut_rest A x (M ++ B) i hi]
  refine thenI (marks_v (M ++ B) (by simp; omega)) ?_
  have hM' : ((M ++ B).takeWhile fun x => mrk x.Rune) = M := hM
  rw [hM']
  refine grdI ⟨by omega, by omega⟩ (grdI ⟨by omega, by omega, by omega⟩ ?_)
  have hrow := cut_row A x M B i (M.length : Int) hi rfl
  refine (loop2 (xs := M) (F := ref04_apart_s4 (A ++ x :: (M ++ B)) i _ (M.length : Int)) (f := fun (a : List Itm × List Itm) x => if isLo x then (a.1 ++ [x], a.2) else (a.1, a.2 ++ [x]))
    (J := fun lo hi' => grd (lo.length + hi'.length ≤ 2147483648) <| grd (I64 (i + 1)) <| ag (overL (A ++ x :: (M ++ B)) (0 + (i + 1 : Int).toNat) ((lo ++ hi').take M.length)) (i + 1)) (fun k a => a.1.length + a.2.length = k) ?_ ?_ ?_ (big_fuel (by omega)) (a := ([], [])) rfl).trans ?_
  · intro ag2 k y a hy hi2
    have hk := lp_lt' hy
    unfold ref04_apart_s4
    rw [hrow]
    refine condTI (lp_lt hy) (joinI (thenI (lp_get hy) (thenI (rlow_v _) ?_)))
    have : lowR y.Rune = isLo y := rfl
    rw [this]
    cases isLo y with
    | true => exact condTI rfl (grdI (by omega) (grdI (lp_i64 (by omega)) rfl))
    | false => exact condFI rfl (grdI (by omega) (grdI (lp_i64 (by omega)) rfl))
  · intro k y a _ hi2; split <;> simp <;> omega
  · intro ag2 a ha
    unfold ref04_apart_s4
    rw [hrow]
    exact condFI lp_ge rfl
  · rw [lohi_fold]
    simp only [List.nil_append]
    have h1 := lohi_len M
    rw [List.length_append] at h1
    refine grdI (by omega) (grdI ⟨by omega, by omega⟩ ?_)
    rw [List.take_of_length_le (by rw [List.length_append]; omega), over_row A x M B _ _ (by omega) (lohi_len M)]
theorem apart_skip (out1 A B : List Itm) (x : Itm) (J : List Itm → Option (List Itm)) (ag : List Itm → Int → Option (List Itm)) (i : Int) (hi : i = (A.length : Int)) (hlen : out1.length = (A ++ x :: B).length) (hx : isL x = false) (hx32 : I32 x.Rune) (hb : out1.length ≤ 1073741824) :
    ref04_apart_s3 out1 J ag (A ++ x :: B) i = ag (A ++ x :: B) (i + 1) := by
  have hl : (A ++ x :: B).length = A.length + 1 + B.length := by simp; omega
  unfold ref04_apart_s3
  refine condTI (decide_eq_true (by omega)) (joinI (thenI (getO_of hi (get_at A x _)) (thenI (iletter_v x hx32) ?_)))
  have hx' : letter x.Rune = false := hx
  rw [hx']
  exact condTI rfl (grdI ⟨by omega, by omega⟩ rfl)
theorem ordI_nil : ordI [] = [] := rfl
theorem ordI_letter {x : Itm} (h : isL x = true) (xs : List Itm) : ordI (x :: xs) = x :: ((loI (xs.takeWhile isM) ++ hiI (xs.takeWhile isM)) ++ ordI (xs.dropWhile isM)) := by
  unfold ordI; rw [cl_letter h]; simp [ordC]
theorem ordI_other {x : Itm} (h : isL x = false) (xs : List Itm) : ordI (x :: xs) = x :: ordI xs := by
  unfold ordI; rw [cl_other h]; simp [ordC, loI, hiI]
theorem apart2 (out1 : List Itm) (J : List Itm → Option (List Itm)) (hb : out1.length ≤ 1073741824) : ∀ (m n : Nat) (A B : List Itm), B.length ≤ m → B.length < n → out1.length = (A ++ B).length → okIs B →
    loopG (fun _ _ => none) (ref04_apart_s3 out1 J) n (A ++ B) (A.length : Int) = J (A ++ ordI B) := by
  -- marks that are no letters' are passed over
  have skip : ∀ (M A B : List Itm) (n : Nat), (∀ y ∈ M, isL y = false) → okIs M → out1.length = (A ++ (M ++ B)).length → loopG (fun _ _ => none) (ref04_apart_s3 out1 J) (n + M.length) (A ++ (M ++ B)) (A.length : Int) = loopG (fun _ _ => none) (ref04_apart_s3 out1 J) n (A ++ (M ++ B)) ((A ++ M).length : Int) := by
    intro M
    induction M with
    | nil => intro A B n _ _ _; simp
    | cons y M ih =>
      intro A B n hM hok hlen
      rw [show n + (y :: M).length = (n + M.length) + 1 by simp; omega, loopI, List.cons_append, apart_skip out1 A (M ++ B) y J _ _ rfl hlen (hM y (List.mem_cons_self ..)) (hok y (List.mem_cons_self ..)) hb]
      have := ih (A ++ [y]) B n (fun z hz => hM z (List.mem_cons_of_mem _ hz)) (fun z hz => hok z (List.mem_cons_of_mem _ hz)) (by rw [hlen]; simp)
      have e1 : A ++ [y] ++ (M ++ B) = A ++ y :: (M ++ B) := by simp
      have e2 : A ++ [y] ++ M = A ++ y :: M := by simp
      rw [e1, e2] at this
      rw [← this]
      congr 1; simp
  intro m
  induction m with
  | zero =>
    intro n A B hB hn hlen hok
    have : B = [] := List.eq_nil_of_length_eq_zero (by omega)
    subst this
    obtain ⟨n, rfl⟩ : ∃ k, n = k + 1 := ⟨n - 1, by omega⟩
    rw [loopI]
    unfold ref04_apart_s3
    rw [List.append_nil] at hlen ⊢
    exact condFI (decide_eq_false (by omega)) (by rw [ordI_nil, List.append_nil])
  | succ m ih =>
    intro n A B hB hn hlen hok
    obtain ⟨n, rfl⟩ : ∃ k, n = k + 1 := ⟨n - 1, by omega⟩
    cases B with
    | nil =>
      rw [loopI]
      unfold ref04_apart_s3
      rw [List.append_nil] at hlen ⊢
      exact condFI (decide_eq_false (by omega)) (by rw [ordI_nil, List.append_nil])
    | cons x xs =>
      rw [loopI]
      simp only [List.length_cons] at hB
      cases hL : isL x with
      | false =>
        rw [apart_skip out1 A xs x J _ _ rfl hlen hL (hok x (List.mem_cons_self ..)) hb, ordI_other hL]
        simp only [List.length_cons] at hn
        have := ih n (A ++ [x]) xs (by omega) (by omega) (by rw [hlen]; simp) (fun z hz => hok z (List.mem_cons_of_mem _ hz))
        have e1 : A ++ [x] ++ xs = A ++ x :: xs := by simp
        rw [e1] at this
        rw [show ((A.length : Int) + 1) = ((A ++ [x]).length : Int) by simp, this]
        simp
      | true =>
        obtain ⟨M, R, hM, hR, hMR⟩ : ∃ M R, M = xs.takeWhile isM ∧ R = xs.dropWhile isM ∧ xs = M ++ R := ⟨_, _, rfl, rfl, (List.takeWhile_append_dropWhile).symm⟩
        have hstep := apart_step out1 A M R x J (loopG (fun _ _ => none) (ref04_apart_s3 out1 J) n) (A.length : Int) rfl (by rw [← hMR]; exact hlen) hL (hok x (List.mem_cons_self ..)) (by rw [← hMR, ← hM]) hb
        rw [← hMR] at hstep
        have hmarks : ∀ y ∈ loI M ++ hiI M, isM y = true := lohi_marks (by rw [hM]; exact take_marks xs)
        have hokM : okIs (loI M ++ hiI M) := fun y hy => hok y (by
          unfold loI hiI at hy
          rw [List.mem_append, List.mem_filter, List.mem_filter] at hy
          rw [hMR]
          rcases hy with hy | hy <;> exact List.mem_cons_of_mem _ (List.mem_append_left _ hy.1))
        have hl2 := lohi_len M
        have hxs : xs.length = M.length + R.length := by rw [hMR]; simp
        have hAl : (A ++ x :: xs).length = A.length + 1 + xs.length := by simp; omega
        rw [hstep, ordI_letter hL, ← hM, ← hR]
        simp only [List.length_cons] at hn
        obtain ⟨k, hk⟩ : ∃ k, n = k + (loI M ++ hiI M).length := ⟨n - M.length, by omega⟩
        have hsk := skip (loI M ++ hiI M) (A ++ [x]) R k (fun y hy => mrk_not_letter (hmarks y hy)) hokM (by rw [hlen, hAl, hxs]; simp only [List.length_append, List.length_cons, List.length_nil] at hl2 ⊢; omega)
        have e1 : A ++ [x] ++ (loI M ++ hiI M ++ R) = A ++ x :: (loI M ++ hiI M ++ R) := by simp
        rw [e1] at hsk
        rw [hk, show ((A.length : Int) + 1) = ((A ++ [x]).length : Int) by simp, hsk]
        have := ih k (A ++ [x] ++ (loI M ++ hiI M)) R (by omega) (by omega) (by rw [hlen, hAl, hxs]; simp only [List.length_append, List.length_cons, List.length_nil] at hl2 ⊢; omega) (fun z hz => hok z (by rw [hMR]; exact List.mem_cons_of_mem _ (List.mem_append_right _ hz)))
        have e2 : A ++ [x] ++ (loI M ++ hiI M) ++ R = A ++ x :: (loI M ++ hiI M ++ R) := by simp
        rw [e2] at this
        rw [this]; simp
theorem apart_v (l : List Itm) (hok : okIs l) (hl : l.length ≤ 268435456) : ref04_apart_v l = some (ordI (apL l)) := by
  unfold ref04_apart_v
  refine joinI ((apart1 l hok hl _).trans (joinI ?_))
  have h1 := apL_len l
  have := apart2 (apL l) some (by omega) (apL l).length fuel [] (apL l) (Nat.le_refl _) (big_fuel (by omega)) rfl (okIs_ap hok)
  simpa using this
end Go.Proofs.Ythjkafeklflgbaa
namespace Go.Proofs.Ythjkafeklflgbaa
open Go.RowKit Go.Lib
set_option linter.unusedVariables false
set_option linter.unusedSimpArgs false
def runes_Width_v (r1 : Int) : Option Int := joinK (fun (j1 : Option Int) => bcond ((r1 : Int) != 65533) ( bcond (decide (Utf8.encode r1 = (⟨#[239, 191, 189]⟩ : ByteArray))) ( some 0
) ( j1
)
) ( j1
)
) ( some ((Utf8.encode r1).size : Int)
)
set_option maxRecDepth 100000 in
set_option maxHeartbeats 4000000 in
theorem runes_Width_fn {r1 : Int} {r : Int} (h : runes_Width_v r1 = some r) : FnP Try.prog 76 [.int .i32 r1] (.int .i64 r) := by
 unfold runes_Width_v at h
 refine FnP.intro Try.func76 rfl Try.ntmps76 (by simp) ?_
 intro w0 K
 obtain ⟨j1, hj1, h⟩ := joinE h
 refine TC.cutN (β := Unit) 1 rfl (fun b => j1 = some r) (fun b => []) (fun b => [(0, .int .i32 r1)]) (fun b => []) (fun cut => ?_) ?_
 ·
  refine TC.seq (TC.region (TO.assign rfl dc rfl (TO.nil (TX.next (cut (TC.seq (TC.region (TO.move rfl dc rfl (TO.bin rfl dc rfl rfl bin_neq (TO.move rfl dc rfl ?_))))))))))
  refine TO.split (s := 5) rfl (fun hb1 => ?_) (fun hb1 => ?_)
  ·
   have h := condT hb1 h
   refine TO.move rfl dc rfl (TO.conv rfl dc rfl (conv_rune Try.underlying21 Try.underlying9) (TO.bin rfl dc rfl rfl bin_seql (TO.pick (b := true) rfl dc rfl rfl (TO.nil (TX.next ?_)))))
   refine TC.condB rfl (fun hb2 => ?_) (fun hb2 => ?_)
   ·
    have h := condT hb2 h
    refine TC.seq (TC.region (TO.assign rfl dc rfl (TO.nil (TX.next (TC.ret (TX.thenRet ?_))))))
    cases h
    exact TX.fin (rs := [.tmp 2]) () (.inl rfl) Try.results76 (.cons (.tmp rfl) .nil) rfl Splits.nil
   ·
    have h := condF hb2 h
    refine TC.skip ?_
    exact TX.meetD () h rfl (Sbs.cons rfl (Sbs.nil)) Splits.nil
  ·
   have h := condF hb1 h
   refine TO.skip rfl dc (TO.skip rfl dc (TO.skip rfl dc (TO.pick (b := false) rfl dc rfl rfl (TO.nil (TX.next (TC.condF rfl (TC.skip ?_)))))))
   exact TX.meetD () h rfl (Sbs.cons rfl (Sbs.nil)) Splits.nil
 ·
  rintro _ h
  rw [hj1] at h
  show TC _ _ _ _ _ ([]) _ _ [(0, .int .i32 r1)] []
  refine TC.seq (TC.region (TO.move rfl dc rfl (TO.conv rfl dc rfl (conv_rune Try.underlying21 Try.underlying9) (TO.lenStr rfl dc rfl Try.underlying9 (TO.assign rfl dc rfl (TO.nil (TX.next (TC.ret ?_))))))))
  cases h
  exact TX.fin (rs := [.tmp 2]) () (.inl rfl) Try.results76 (.cons (.tmp rfl) .nil) rfl Splits.nil
def runes_tail_v (r1 : Int) : Option Int := some (orI .u8 (andI .u8 (IntKind.u8.wrap r1) 63) 128)
set_option maxRecDepth 100000 in
set_option maxHeartbeats 4000000 in
theorem runes_tail_fn {r1 : Int} {r : Int} (h : runes_tail_v r1 = some r) : FnP Try.prog 77 [.int .i32 r1] (.int .u8 r) := by
 unfold runes_tail_v at h
 refine FnP.intro Try.func77 rfl Try.ntmps77 (by simp) ?_
 intro w0 K
 refine TC.seq (TC.region (TO.assign rfl dc rfl (TO.nil (TX.next (TC.seq (TC.region (TO.move rfl dc rfl (TO.conv rfl dc rfl (conv_wrap Try.underlying21 Try.underlying5) (TO.assign rfl dc rfl (TO.nil (TX.next (TC.seq (TC.region ?_)))))))))))))
 refine TO.move rfl dc rfl (TO.bin rfl dc rfl rfl bin_and (TO.assign rfl dc rfl (TO.nil (TX.next (TC.seq (TC.region (TO.move rfl dc rfl (TO.bin rfl dc rfl rfl bin_or (TO.assign rfl dc rfl (TO.nil (TX.next (TC.seq (TC.region ?_)))))))))))))
 refine TO.move rfl dc rfl (TO.assign rfl dc rfl (TO.nil (TX.next (TC.ret ?_))))
 cases h
 exact TX.fin (rs := [.tmp 2]) () (.inl rfl) Try.results77 (.cons (.tmp rfl) .nil) rfl Splits.nil
def runes_read_s1 (s1 : ByteArray) (at1 : Int) (j1 : Option Gapi_Piece) (ag1 : Option Gapi_Piece) : Option Gapi_Piece := bcond (decide (0 < (pcs (cutB s1 at1 (s1.size : Int)).data.toList).length)) ( andThen ((pcs (cutB s1 at1 (s1.size : Int)).data.toList)[0]?) fun (p1 : Pc) => joinK (fun (j2 : Int → Option Gapi_Piece) => andThen (runes_Width_v (p1.r : Int)) fun (r1 : Int) => bcond (((p1.r : Int) : Int) == 65533) ( grd (I64 ((s1.size : Int) - at1)) <| bcond (decide ((((s1.size : Int) - at1) : Int) < 3)) ( some (⟨at1, 1, 65533, true⟩ : Gapi_Piece)
) ( grd (I64 (at1 + 3)) <| grd (0 ≤ (at1 : Int) ∧ (at1 : Int) ≤ (at1 + 3) ∧ (at1 + 3 : Int) ≤ (s1.size : Int)) <| bcond (!decide (cutB s1 at1 (at1 + 3) = (⟨#[239, 191, 189]⟩ : ByteArray))) ( some (⟨at1, 1, 65533, true⟩ : Gapi_Piece)
) ( j2 r1
)
)
) ( j2 r1
)
) (fun (n2 : Int) => some (⟨at1, n2, (p1.r : Int), false⟩ : Gapi_Piece)
)
) ( j1
)
def runes_read_v (s1 : ByteArray) (at1 : Int) : Option Gapi_Piece := joinK (fun (j1 : Option Gapi_Piece) => grd (0 ≤ (at1 : Int) ∧ (at1 : Int) ≤ (s1.size : Int) ∧ ((s1.size : Int) : Int) ≤ (s1.size : Int)) <| loopG none (runes_read_s1 s1 at1 j1) fuel
) ( some (⟨0, 0, 0, false⟩ : Gapi_Piece)
)
set_option maxRecDepth 100000 in
set_option maxHeartbeats 4000000 in
theorem runes_read_fn {s1 : ByteArray} {at1 : Int} {r : Gapi_Piece} (h : runes_read_v s1 at1 = some r) : FnP Try.prog 78 [.string s1, .int .i64 at1] (.agg #[.int .i64 r.At, .int .i64 r.Width, .int .i32 r.Rune, .bool r.Broken]) := by
 unfold runes_read_v at h
 refine FnP.intro Try.func78 rfl Try.ntmps78 (by simp) ?_
 intro w0 K
 obtain ⟨j1, hj1, h⟩ := joinE h
 refine TC.cutN (β := Nat) 1 rfl (fun b => j1 = some r) (fun b => []) (fun b => [(4, .pointer (some ⟨b, 0, none⟩))]) (fun b => [cells b [.int .i64 0, .int .i64 0, .int .i32 0, .bool false] 89]) (fun cut => ?_) ?_
 ·
  refine TC.seq (TC.region ?_)
  refine TO.alloc zr_89 rfl dc (fun b2 => ?_)
  refine TO.nil (TX.next (cut (TC.seq (TC.region (TO.move rfl dc rfl (TO.move rfl dc rfl ?_))))))
  obtain ⟨hg1, h⟩ := grdE h
  refine TO.slice rfl dc rfl rfl rfl (slice_stringI (i := at1) (j := (s1.size : Int)) Try.underlying9 (.inr rfl) (.inl ⟨rfl, rfl⟩) hg1) ?_
  refine TO.rangeStr Try.underlying9 rfl dc rfl (fun b3 => ?_)
  show TO _ _ _ _ _ _ _ _ _ _ [cells b2 [.int .i64 0, .int .i64 0, .int .i32 0, .bool false] 89, obj b3 (.stringIter (cutB s1 at1 (s1.size : Int)) (posAt (cutB s1 at1 (s1.size : Int)) 0))]
  refine TO.nil (TX.next (TC.block ?_))
  refine TC.loopD (β := Nat) (fun b => loopG none (runes_read_s1 s1 at1 j1) b = some r) (fun b => []) (fun b => [(0, .string s1), (1, .int .i64 at1), (4, .pointer (some ⟨b2, 0, none⟩)), (11, .pointer (some ⟨b3, 0, none⟩))]) (fun b => [cells b2 [.int .i64 0, .int .i64 0, .int .i32 0, .bool false] 89, obj b3 (.stringIter (cutB s1 at1 (s1.size : Int)) (posAt (cutB s1 at1 (s1.size : Int)) 0))]) (fun b => b) fuel h rfl (Sbs.cons rfl (Sbs.cons rfl (Sbs.cons rfl (Sbs.cons rfl (Sbs.nil))))) (Splits.of [0, 1] kr rfl) ?_
  rintro n1 h
  cases n1 with
  | zero => exact noneE h
  | succ n1 =>
   obtain ⟨ag1, hag1⟩ : ∃ ag, ag = loopG none (runes_read_s1 s1 at1 j1) n1 := ⟨_, rfl⟩
   have h : runes_read_s1 s1 at1 j1 ag1 = some r := by rw [hag1]; exact h
   unfold runes_read_s1 at h
   show TC _ _ _ _ _ ([]) _ _ [(0, .string s1), (1, .int .i64 at1), (4, .pointer (some ⟨b2, 0, none⟩)), (11, .pointer (some ⟨b3, 0, none⟩))] [cells b2 [.int .i64 0, .int .i64 0, .int .i32 0, .bool false] 89, obj b3 (.stringIter (cutB s1 at1 (s1.size : Int)) (posAt (cutB s1 at1 (s1.size : Int)) 0))]
   refine TC.seq (TC.region ?_)
   refine TO.bySplit (b := decide (0 < (pcs (cutB s1 at1 (s1.size : Int)).data.toList).length)) (fun hb1 => ?_) (fun hb1 => ?_)
   ·
    have h := condT hb1 h
    obtain ⟨p1, hq1, h⟩ := andE h
    refine TO.nextStr (k := 1) (m := 0) (p := p1) rfl dc rfl rfl hq1 (TO.extract rfl dc rfl rfl (TO.nil (TX.next (TC.seq (TC.condT rfl (TC.skip (TX.next (TC.block ?_))))))))
    obtain ⟨j2, hj2, h⟩ := joinE h
    refine TC.cutN (β := Int) 2 rfl (fun b => j2 b = some r) (fun b => []) (fun b => [(1, .int .i64 at1), (4, .pointer (some ⟨b2, 0, none⟩)), (6, .int .i32 (p1.r : Int)), (7, .int .i64 b)]) (fun b => [cells b2 [.int .i64 0, .int .i64 0, .int .i32 0, .bool false] 89]) (fun cut => ?_) ?_
    ·
     refine TC.seq (TC.region (TO.extract rfl dc rfl rfl (TO.assign rfl dc rfl (TO.nil (TX.next (TC.seq (TC.region (TO.move rfl dc rfl ?_))))))))
     obtain ⟨r1, hq2, h⟩ := andE h
     refine TO.callP (v := .int .i64 r1) (vs := [.int .i32 (p1.r : Int)]) rfl dc rfl rfl rfl en_76 (runes_Width_fn hq2) (TO.assign rfl dc rfl (TO.nil (TX.next (cut (TC.seq (TC.region (TO.move rfl dc rfl (TO.bin rfl dc rfl rfl bin_eql (TO.move rfl dc rfl ?_)))))))))
     refine TO.split (s := 19) rfl (fun hb2 => ?_) (fun hb2 => ?_)
     ·
      have h := condT hb2 h
      refine TO.move rfl dc rfl (TO.lenStr rfl dc rfl Try.underlying9 (TO.move rfl dc rfl ?_))
      obtain ⟨hg2, h⟩ := grdE h
      refine TO.bin rfl dc rfl rfl (bin_sub (r := (s1.size : Int) - at1) (IntWalk.i64_in _ hg2)) (TO.bin rfl dc rfl rfl bin_lss (TO.move rfl dc rfl ?_))
      refine TO.split (s := 25) rfl (fun hb3 => ?_) (fun hb3 => ?_)
      ·
       have h := condT hb3 h
       refine TO.skip rfl dc (TO.skip rfl dc (TO.skip rfl dc (TO.skip rfl dc (TO.skip rfl dc (TO.skip rfl dc (TO.pick (b := true) rfl dc rfl rfl (TO.pick (b := true) rfl dc rfl rfl (TO.nil (TX.next (TC.condT rfl (TC.seq (TC.region (TO.move rfl dc rfl ?_)))))))))))))
       refine TO.build (v := .agg #[.int .i64 at1, .int .i64 1, .int .i32 65533, .bool true]) (ps := [(0, .tmp 34), (1, .const (.int .i64 1)), (2, .const (.int .i32 65533)), (3, .const (.bool true))]) rfl dc rfl (fun _ => by kernel_rfl) ?_
       refine TO.stores (k := 0) (vs := [.int .i64 at1, .int .i64 1, .int .i32 65533, .bool true]) (l' := [.int .i64 at1, .int .i64 1, .int .i32 65533, .bool true]) sz_89 rfl rfl rfl rfl rfl (show _ ≤ _ by simp) rfl rfl ?_
       show TO _ _ _ _ _ _ _ _ _ _ [cells b2 [.int .i64 at1, .int .i64 1, .int .i32 65533, .bool true] 89, obj b3 (.stringIter (cutB s1 at1 (s1.size : Int)) (posAt (cutB s1 at1 (s1.size : Int)) (0 + 1)))]
       refine TO.nil (TX.next (TC.ret (TX.thenRet (TX.blockRet (TX.thenRet (TX.blockRet (TX.thenRet ?_)))))))
       cases h
       exact TX.fin (rs := [.cell 4 89]) () (.inl rfl) Try.results78 (.cons (.cells rw_89 (k := 0) rfl rfl rfl) .nil) rfl Splits.nil
      ·
       have h := condF hb3 h
       refine TO.move rfl dc rfl (TO.move rfl dc rfl (TO.move rfl dc rfl ?_))
       obtain ⟨hg3, h⟩ := grdE h
       refine TO.bin rfl dc rfl rfl (bin_add (r := at1 + 3) (IntWalk.i64_in _ hg3)) ?_
       obtain ⟨hg4, h⟩ := grdE h
       refine TO.slice rfl dc rfl rfl rfl (slice_stringI (i := at1) (j := at1 + 3) Try.underlying9 (.inr rfl) (.inr rfl) hg4) (TO.bin rfl dc rfl rfl bin_sneq (TO.pick (b := false) rfl dc rfl rfl (TO.pick (b := true) rfl dc rfl rfl (TO.nil (TX.next ?_)))))
       refine TC.condB rfl (fun hb4 => ?_) (fun hb4 => ?_)
       ·
        have h := condT hb4 h
        refine TC.seq (TC.region (TO.move rfl dc rfl ?_))
        refine TO.build (v := .agg #[.int .i64 at1, .int .i64 1, .int .i32 65533, .bool true]) (ps := [(0, .tmp 34), (1, .const (.int .i64 1)), (2, .const (.int .i32 65533)), (3, .const (.bool true))]) rfl dc rfl (fun _ => by kernel_rfl) ?_
        refine TO.stores (k := 0) (vs := [.int .i64 at1, .int .i64 1, .int .i32 65533, .bool true]) (l' := [.int .i64 at1, .int .i64 1, .int .i32 65533, .bool true]) sz_89 rfl rfl rfl rfl rfl (show _ ≤ _ by simp) rfl rfl ?_
        show TO _ _ _ _ _ _ _ _ _ _ [cells b2 [.int .i64 at1, .int .i64 1, .int .i32 65533, .bool true] 89, obj b3 (.stringIter (cutB s1 at1 (s1.size : Int)) (posAt (cutB s1 at1 (s1.size : Int)) (0 + 1)))]
        refine TO.nil (TX.next (TC.ret (TX.thenRet (TX.blockRet (TX.thenRet (TX.blockRet (TX.thenRet ?_)))))))
        cases h
        exact TX.fin (rs := [.cell 4 89]) () (.inl rfl) Try.results78 (.cons (.cells rw_89 (k := 0) rfl rfl rfl) .nil) rfl Splits.nil
       ·
        have h := condF hb4 h
        refine TC.skip ?_
        exact TX.meetD r1 h rfl (Sbs.cons rfl (Sbs.cons rfl (Sbs.cons rfl (Sbs.cons rfl (Sbs.nil))))) (Splits.of [0] kr rfl)
     ·
      have h := condF hb2 h
      refine TO.skip rfl dc (TO.skip rfl dc (TO.skip rfl dc (TO.skip rfl dc (TO.skip rfl dc (TO.skip rfl dc (TO.skip rfl dc (TO.skip rfl dc (TO.skip rfl dc (TO.skip rfl dc (TO.skip rfl dc (TO.skip rfl dc (TO.skip rfl dc (TO.pick (b := false) rfl dc rfl rfl ?_)))))))))))))
      refine TO.nil (TX.next (TC.condF rfl (TC.skip ?_)))
      exact TX.meetD r1 h rfl (Sbs.cons rfl (Sbs.cons rfl (Sbs.cons rfl (Sbs.cons rfl (Sbs.nil))))) (Splits.of [0] kr rfl)
    ·
     rintro n2 h
     rw [hj2] at h
     show TC _ _ _ _ _ ([]) _ _ [(1, .int .i64 at1), (4, .pointer (some ⟨b2, 0, none⟩)), (6, .int .i32 (p1.r : Int)), (7, .int .i64 n2)] [cells b2 [.int .i64 0, .int .i64 0, .int .i32 0, .bool false] 89]
     refine TC.seq (TC.region (TO.move rfl dc rfl (TO.move rfl dc rfl (TO.move rfl dc rfl ?_))))
     refine TO.build (v := .agg #[.int .i64 at1, .int .i64 n2, .int .i32 (p1.r : Int), .bool false]) (ps := [(0, .tmp 36), (1, .tmp 37), (2, .tmp 38)]) rfl dc rfl (fun _ => by kernel_rfl) ?_
     refine TO.stores (k := 0) (vs := [.int .i64 at1, .int .i64 n2, .int .i32 (p1.r : Int), .bool false]) (l' := [.int .i64 at1, .int .i64 n2, .int .i32 (p1.r : Int), .bool false]) sz_89 rfl rfl rfl rfl rfl (show _ ≤ _ by simp) rfl rfl (TO.nil (TX.next (TC.ret (TX.blockRet (TX.thenRet (TX.blockRet (TX.thenRet ?_)))))))
     cases h
     exact TX.fin (rs := [.cell 4 89]) () (.inl rfl) Try.results78 (.cons (.cells rw_89 (k := 0) rfl rfl rfl) .nil) rfl Splits.nil
   ·
    have h := condF hb1 h
    refine TO.nextEnd (k := 1) (m := 0) rfl dc rfl rfl (Nat.le_of_not_lt (of_decide_eq_false hb1)) (TO.extract rfl dc rfl rfl (TO.nil (TX.next (TC.seq (TC.condF rfl (TC.exit (TX.thenExit (TX.thenExit (TX.blockHere ?_)))))))))
    exact TX.meetD b2 h rfl (Sbs.cons rfl (Sbs.nil)) (Splits.of [0] kr rfl)
 ·
  rintro b1 h
  rw [hj1] at h
  show TC _ _ _ _ _ ([]) _ _ [(4, .pointer (some ⟨b1, 0, none⟩))] [cells b1 [.int .i64 0, .int .i64 0, .int .i32 0, .bool false] 89]
  refine TC.seq (TC.region ?_)
  refine TO.build (v := .agg #[.int .i64 0, .int .i64 0, .int .i32 0, .bool false]) (ps := []) rfl dc rfl (fun _ => by kernel_rfl) ?_
  refine TO.stores (k := 0) (vs := [.int .i64 0, .int .i64 0, .int .i32 0, .bool false]) (l' := [.int .i64 0, .int .i64 0, .int .i32 0, .bool false]) sz_89 rfl rfl rfl rfl rfl (show _ ≤ _ by simp) rfl rfl (TO.nil (TX.next (TC.ret ?_)))
  cases h
  exact TX.fin (rs := [.cell 4 89]) () (.inl rfl) Try.results78 (.cons (.cells rw_89 (k := 0) rfl rfl rfl) .nil) rfl Splits.nil
def runes_within_s1 (s1 : ByteArray) (at1 : Int) (j1 : Option (Gapi_Piece × Bool)) (ag1 : Int → Option (Gapi_Piece × Bool)) (from3 : Int) : Option (Gapi_Piece × Bool) := bcond (decide ((from3 : Int) < at1)) ( joinK (fun (j2 : Option (Gapi_Piece × Bool)) => andThen (runes_read_v s1 from3) fun (r1 : Gapi_Piece) => grd (I64 (from3 + r1.Width)) <| bcond (decide ((at1 : Int) < (from3 + r1.Width))) ( bcond (!r1.Broken) ( some (r1, true)
) ( j2
)
) ( j2
)
) ( grd (I64 (from3 + 1)) <| ag1 (from3 + 1)
)
) ( j1
)
def runes_within_v (s1 : ByteArray) (at1 : Int) : Option (Gapi_Piece × Bool) := joinK (fun (j1 : Option (Gapi_Piece × Bool)) => grd (I64 (at1 - 3)) <| loopG (fun _ => none) (runes_within_s1 s1 at1 j1) fuel (max (at1 - 3) 0)
) ( some ((⟨0, 0, 0, false⟩ : Gapi_Piece), false)
)
set_option maxRecDepth 100000 in
set_option maxHeartbeats 4000000 in
theorem runes_within_fn {s1 : ByteArray} {at1 : Int} {r : (Gapi_Piece × Bool)} (h : runes_within_v s1 at1 = some r) : FnP Try.prog 64 [.string s1, .int .i64 at1] (.tuple #[.agg #[.int .i64 r.1.At, .int .i64 r.1.Width, .int .i32 r.1.Rune, .bool r.1.Broken], .bool r.2]) := by
 unfold runes_within_v at h
 refine FnP.intro Try.func64 rfl Try.ntmps64 (by simp) ?_
 intro w0 K
 obtain ⟨j1, hj1, h⟩ := joinE h
 refine TC.cutN (β := Nat) 1 rfl (fun b => j1 = some r) (fun b => []) (fun b => [(4, .pointer (some ⟨b, 0, none⟩))]) (fun b => [cells b [.int .i64 0, .int .i64 0, .int .i32 0, .bool false] 89]) (fun cut => ?_) ?_
 ·
  refine TC.seq (TC.region ?_)
  refine TO.alloc zr_89 rfl dc (fun b2 => ?_)
  refine TO.assign rfl dc rfl (TO.nil (TX.next (cut (TC.seq (TC.region (TO.move rfl dc rfl ?_))))))
  obtain ⟨hg1, h⟩ := grdE h
  refine TO.bin rfl dc rfl rfl (bin_sub (r := at1 - 3) (IntWalk.i64_in _ hg1)) (TO.max2 rfl dc rfl rfl (TO.assign rfl dc rfl (TO.nil (TX.next (TC.block ?_)))))
  refine TC.loopD (β := Nat × Int) (fun b => loopG (fun _ => none) (runes_within_s1 s1 at1 j1) b.1 b.2 = some r) (fun b => []) (fun b => [(0, .string s1), (1, .int .i64 at1), (4, .pointer (some ⟨b2, 0, none⟩)), (6, .int .i64 b.2)]) (fun b => [cells b2 [.int .i64 0, .int .i64 0, .int .i32 0, .bool false] 89]) (fun b => b.1) (fuel, max (at1 - 3) 0) h rfl (Sbs.cons rfl (Sbs.cons rfl (Sbs.cons rfl (Sbs.cons rfl (Sbs.nil))))) (Splits.of [0] kr rfl) ?_
  rintro ⟨n1, from3⟩ h
  cases n1 with
  | zero => exact noneE h
  | succ n1 =>
   obtain ⟨ag1, hag1⟩ : ∃ ag, ag = loopG (fun _ => none) (runes_within_s1 s1 at1 j1) n1 := ⟨_, rfl⟩
   have h : runes_within_s1 s1 at1 j1 ag1 from3 = some r := by rw [hag1]; exact h
   unfold runes_within_s1 at h
   show TC _ _ _ _ _ ([]) _ _ [(0, .string s1), (1, .int .i64 at1), (4, .pointer (some ⟨b2, 0, none⟩)), (6, .int .i64 from3)] [cells b2 [.int .i64 0, .int .i64 0, .int .i32 0, .bool false] 89]
   refine TC.seq (TC.seq (TC.region (TO.move rfl dc rfl (TO.move rfl dc rfl (TO.bin rfl dc rfl rfl bin_lss (TO.nil (TX.next ?_)))))))
   refine TC.condB rfl (fun hb1 => ?_) (fun hb1 => ?_)
   ·
    have h := condT hb1 h
    refine TC.skip (TX.next ?_)
    obtain ⟨j2, hj2, h⟩ := joinE h
    refine TC.cutN (β := Unit) 0 rfl (fun b => j2 = some r) (fun b => []) (fun b => [(0, .string s1), (1, .int .i64 at1), (4, .pointer (some ⟨b2, 0, none⟩)), (6, .int .i64 from3)]) (fun b => [cells b2 [.int .i64 0, .int .i64 0, .int .i32 0, .bool false] 89]) (fun cut => ?_) ?_
    ·
     refine cut (TC.block (TC.seq (TC.region (TO.move rfl dc rfl (TO.move rfl dc rfl ?_)))))
     obtain ⟨r1, hq1, h⟩ := andE h
     refine TO.callP (v := .agg #[.int .i64 r1.At, .int .i64 r1.Width, .int .i32 r1.Rune, .bool r1.Broken]) (vs := [.string s1, .int .i64 from3]) rfl dc rfl rfl rfl en_78 (runes_read_fn hq1) ?_
     refine TO.alloc zr_89 rfl dc (fun b3 => ?_)
     refine TO.stores (k := 1) (vs := [.int .i64 r1.At, .int .i64 r1.Width, .int .i32 r1.Rune, .bool r1.Broken]) (l' := [.int .i64 r1.At, .int .i64 r1.Width, .int .i32 r1.Rune, .bool r1.Broken]) sz_89 rfl rfl rfl rfl rfl (show _ ≤ _ by simp) rfl rfl ?_
     show TO _ _ _ _ _ _ _ _ _ _ [cells b2 [.int .i64 0, .int .i64 0, .int .i32 0, .bool false] 89, cells b3 [.int .i64 r1.At, .int .i64 r1.Width, .int .i32 r1.Rune, .bool r1.Broken] 89]
     refine TO.nil (TX.next (TC.seq (TC.region (TO.move rfl dc rfl (TO.fieldAddr fl_89_1 rfl dc rfl (show _ = 1 from rfl) (TO.load (k := 1) sc_3 rfl dc rfl rfl rfl ?_))))))
     obtain ⟨hg2, h⟩ := grdE h
     refine TO.bin rfl dc rfl rfl (bin_add (r := from3 + r1.Width) (IntWalk.i64_in _ hg2)) (TO.move rfl dc rfl (TO.bin rfl dc rfl rfl bin_gtr (TO.move rfl dc rfl ?_)))
     refine TO.split (s := 25) rfl (fun hb2 => ?_) (fun hb2 => ?_)
     ·
      have h := condT hb2 h
      refine TO.fieldAddr fl_89_3 rfl dc rfl (show _ = 3 from rfl) (TO.load (k := 1) sc_4 rfl dc rfl rfl rfl (TO.un rfl dc rfl un_not (TO.pick (b := true) rfl dc rfl rfl (TO.nil (TX.next ?_)))))
      refine TC.condB rfl (fun hb3 => ?_) (fun hb3 => ?_)
      ·
       have h := condT hb3 h
       refine TC.seq (TC.region (TO.loads (k := 1) (cs := [.int .i64 r1.At, .int .i64 r1.Width, .int .i32 r1.Rune, .bool r1.Broken]) rw_89 rfl dc rfl rfl rfl rfl (TO.stores (k := 0) (vs := [.int .i64 r1.At, .int .i64 r1.Width, .int .i32 r1.Rune, .bool r1.Broken]) (l' := [.int .i64 r1.At, .int .i64 r1.Width, .int .i32 r1.Rune, .bool r1.Broken]) sz_89 rfl rfl rfl rfl rfl (show _ ≤ _ by simp) rfl rfl (TO.assign rfl dc rfl (TO.nil (TX.next (TC.ret (TX.blockRet (TX.thenRet (TX.thenRet (TX.blockRet (TX.thenRet ?_))))))))))))
       cases h
       exact TX.fin (rs := [.cell 4 89, .tmp 5]) () (.inl rfl) Try.results64 (.cons (.cells rw_89 (k := 0) rfl rfl rfl) (.cons (.tmp rfl) .nil)) rfl Splits.nil
      ·
       have h := condF hb3 h
       refine TC.skip (TX.blockNormal ?_)
       exact TX.meetD () h rfl (Sbs.cons rfl (Sbs.cons rfl (Sbs.cons rfl (Sbs.cons rfl (Sbs.nil))))) (Splits.of [0] kr rfl)
     ·
      have h := condF hb2 h
      refine TO.skip rfl dc (TO.skip rfl dc (TO.skip rfl dc (TO.pick (b := false) rfl dc rfl rfl (TO.nil (TX.next (TC.condF rfl (TC.skip (TX.blockNormal ?_))))))))
      exact TX.meetD () h rfl (Sbs.cons rfl (Sbs.cons rfl (Sbs.cons rfl (Sbs.cons rfl (Sbs.nil))))) (Splits.of [0] kr rfl)
    ·
     rintro _ h
     rw [hj2] at h
     show TC _ _ _ _ _ ([]) _ _ [(0, .string s1), (1, .int .i64 at1), (4, .pointer (some ⟨b2, 0, none⟩)), (6, .int .i64 from3)] [cells b2 [.int .i64 0, .int .i64 0, .int .i32 0, .bool false] 89]
     refine TC.region (TO.move rfl dc rfl ?_)
     obtain ⟨hg3, h⟩ := grdE h
     refine TO.bin rfl dc rfl rfl (bin_add (r := from3 + 1) (IntWalk.i64_in _ hg3)) (TO.assign rfl dc rfl (TO.nil ?_))
     subst hag1
     exact TX.againD (n1, from3 + 1) h (Nat.lt_succ_self _) rfl (Sbs.cons rfl (Sbs.cons rfl (Sbs.cons rfl (Sbs.cons rfl (Sbs.nil))))) (Splits.of [0] kr rfl)
   ·
    have h := condF hb1 h
    refine TC.exit (TX.thenExit (TX.thenExit (TX.blockHere ?_)))
    exact TX.meetD b2 h rfl (Sbs.cons rfl (Sbs.nil)) (Splits.of [0] kr rfl)
 ·
  rintro b1 h
  rw [hj1] at h
  show TC _ _ _ _ _ ([]) _ _ [(4, .pointer (some ⟨b1, 0, none⟩))] [cells b1 [.int .i64 0, .int .i64 0, .int .i32 0, .bool false] 89]
  refine TC.seq (TC.region ?_)
  refine TO.build (v := .agg #[.int .i64 0, .int .i64 0, .int .i32 0, .bool false]) (ps := []) rfl dc rfl (fun _ => by kernel_rfl) ?_
  refine TO.stores (k := 0) (vs := [.int .i64 0, .int .i64 0, .int .i32 0, .bool false]) (l' := [.int .i64 0, .int .i64 0, .int .i32 0, .bool false]) sz_89 rfl rfl rfl rfl rfl (show _ ≤ _ by simp) rfl rfl (TO.assign rfl dc rfl (TO.nil (TX.next (TC.ret ?_))))
  cases h
  exact TX.fin (rs := [.cell 4 89, .tmp 5]) () (.inl rfl) Try.results64 (.cons (.cells rw_89 (k := 0) rfl rfl rfl) (.cons (.tmp rfl) .nil)) rfl Splits.nil
def runes_Boundary_v (s1 : ByteArray) (at1 : Int) : Option Bool := bcond (decide ((at1 : Int) < 0)) ( some false
) ( bcond (decide (((s1.size : Int) : Int) < at1)) ( some false
) ( andThen (runes_within_v s1 at1) fun (r1 : (Gapi_Piece × Bool)) => some (!r1.2)
)
)
set_option maxRecDepth 100000 in
set_option maxHeartbeats 4000000 in
theorem runes_Boundary_fn {s1 : ByteArray} {at1 : Int} {r : Bool} (h : runes_Boundary_v s1 at1 = some r) : FnP Try.prog 38 [.string s1, .int .i64 at1] (.bool r) := by
 unfold runes_Boundary_v at h
 refine FnP.intro Try.func38 rfl Try.ntmps38 (by simp) ?_
 intro w0 K
 refine TC.seq (TC.region (TO.assign rfl dc rfl (TO.nil (TX.next (TC.seq (TC.seq (TC.region (TO.move rfl dc rfl (TO.bin rfl dc rfl rfl bin_lss (TO.move rfl dc rfl ?_))))))))))
 refine TO.split (s := 9) rfl (fun hb1 => ?_) (fun hb1 => ?_)
 ·
  have h := condT hb1 h
  refine TO.skip rfl dc (TO.skip rfl dc (TO.skip rfl dc (TO.skip rfl dc (TO.pick (b := true) rfl dc rfl rfl (TO.nil (TX.next (TC.condT rfl (TC.seq (TC.region (TO.assign rfl dc rfl (TO.nil (TX.next (TC.ret ?_)))))))))))))
  refine TX.thenRet ?_
  cases h
  exact TX.fin (rs := [.tmp 4]) () (.inl rfl) Try.results38 (.cons (.tmp rfl) .nil) rfl Splits.nil
 ·
  have h := condF hb1 h
  refine TO.move rfl dc rfl (TO.move rfl dc rfl (TO.lenStr rfl dc rfl Try.underlying9 (TO.bin rfl dc rfl rfl bin_gtr (TO.pick (b := false) rfl dc rfl rfl (TO.nil (TX.next ?_))))))
  refine TC.condB rfl (fun hb2 => ?_) (fun hb2 => ?_)
  ·
   have h := condT hb2 h
   refine TC.seq (TC.region (TO.assign rfl dc rfl (TO.nil (TX.next (TC.ret (TX.thenRet ?_))))))
   cases h
   exact TX.fin (rs := [.tmp 4]) () (.inl rfl) Try.results38 (.cons (.tmp rfl) .nil) rfl Splits.nil
  ·
   have h := condF hb2 h
   refine TC.skip (TX.next (TC.seq (TC.region (TO.move rfl dc rfl (TO.move rfl dc rfl ?_)))))
   obtain ⟨r1, hq1, h⟩ := andE h
   refine TO.callP (v := .tuple #[.agg #[.int .i64 r1.1.At, .int .i64 r1.1.Width, .int .i32 r1.1.Rune, .bool r1.1.Broken], .bool r1.2]) (vs := [.string s1, .int .i64 at1]) rfl dc rfl rfl rfl en_64 (runes_within_fn hq1) (TO.move rfl dc rfl (TO.extract rfl dc rfl rfl (TO.extract rfl dc rfl rfl ?_)))
   refine TO.alloc zr_89 rfl dc (fun b1 => ?_)
   refine TO.stores (k := 0) (vs := [.int .i64 r1.1.At, .int .i64 r1.1.Width, .int .i32 r1.1.Rune, .bool r1.1.Broken]) (l' := [.int .i64 r1.1.At, .int .i64 r1.1.Width, .int .i32 r1.1.Rune, .bool r1.1.Broken]) sz_89 rfl rfl rfl rfl rfl (show _ ≤ _ by simp) rfl rfl ?_
   show TO _ _ _ _ _ _ _ _ _ _ [cells b1 [.int .i64 r1.1.At, .int .i64 r1.1.Width, .int .i32 r1.1.Rune, .bool r1.1.Broken] 89]
   refine TO.assign rfl dc rfl (TO.nil (TX.next (TC.seq (TC.region (TO.move rfl dc rfl (TO.un rfl dc rfl un_not (TO.assign rfl dc rfl (TO.nil (TX.next (TC.ret ?_))))))))))
   cases h
   exact TX.fin (rs := [.tmp 4]) () (.inl rfl) Try.results38 (.cons (.tmp rfl) .nil) rfl Splits.nil
def runes_Seam_v (a1 : ByteArray) (b1 : ByteArray) : Option (Gapi_Span × Bool) := grd (I64 ((a1.size : Int) - 3)) <| grd (0 ≤ (max ((a1.size : Int) - 3) 0 : Int) ∧ (max ((a1.size : Int) - 3) 0 : Int) ≤ (a1.size : Int) ∧ ((a1.size : Int) : Int) ≤ (a1.size : Int)) <| grd (0 ≤ (0 : Int) ∧ (0 : Int) ≤ (min (b1.size : Int) 3) ∧ (min (b1.size : Int) 3 : Int) ≤ (b1.size : Int)) <| grd ((cutB a1 (max ((a1.size : Int) - 3) 0) (a1.size : Int)).size + (cutB b1 0 (min (b1.size : Int) 3)).size ≤ 9223372036854775807) <| andThen (runes_within_v ((cutB a1 (max ((a1.size : Int) - 3) 0) (a1.size : Int)) ++ (cutB b1 0 (min (b1.size : Int) 3))) ((cutB a1 (max ((a1.size : Int) - 3) 0) (a1.size : Int)).size : Int)) fun (r1 : (Gapi_Piece × Bool)) => bcond (!r1.2) ( some ((⟨0, 0⟩ : Gapi_Span), false)
) ( grd (I64 ((a1.size : Int) - ((cutB a1 (max ((a1.size : Int) - 3) 0) (a1.size : Int)).size : Int))) <| grd (I64 (((a1.size : Int) - ((cutB a1 (max ((a1.size : Int) - 3) 0) (a1.size : Int)).size : Int)) + r1.1.At)) <| grd (I64 ((((a1.size : Int) - ((cutB a1 (max ((a1.size : Int) - 3) 0) (a1.size : Int)).size : Int)) + r1.1.At) + r1.1.Width)) <| some ((⟨((a1.size : Int) - ((cutB a1 (max ((a1.size : Int) - 3) 0) (a1.size : Int)).size : Int)) + r1.1.At, (((a1.size : Int) - ((cutB a1 (max ((a1.size : Int) - 3) 0) (a1.size : Int)).size : Int)) + r1.1.At) + r1.1.Width⟩ : Gapi_Span), true)
)
set_option maxRecDepth 100000 in
set_option maxHeartbeats 4000000 in
theorem runes_Seam_fn {a1 : ByteArray} {b1 : ByteArray} {r : (Gapi_Span × Bool)} (h : runes_Seam_v a1 b1 = some r) : FnP Try.prog 40 [.string a1, .string b1] (.tuple #[.agg #[.int .i64 r.1.From, .int .i64 r.1.To], .bool r.2]) := by
 unfold runes_Seam_v at h
 refine FnP.intro Try.func40 rfl Try.ntmps40 (by simp) ?_
 intro w0 K
 refine TC.seq (TC.region ?_)
 refine TO.alloc zr_29 rfl dc (fun b2 => ?_)
 refine TO.assign rfl dc rfl (TO.nil (TX.next (TC.seq (TC.region (TO.move rfl dc rfl (TO.move rfl dc rfl (TO.lenStr rfl dc rfl Try.underlying9 ?_)))))))
 obtain ⟨hg1, h⟩ := grdE h
 refine TO.bin rfl dc rfl rfl (bin_sub (r := (a1.size : Int) - 3) (IntWalk.i64_in _ hg1)) (TO.max2 rfl dc rfl rfl ?_)
 obtain ⟨hg2, h⟩ := grdE h
 refine TO.slice rfl dc rfl rfl rfl (slice_stringI (i := max ((a1.size : Int) - 3) 0) (j := (a1.size : Int)) Try.underlying9 (.inr rfl) (.inl ⟨rfl, rfl⟩) hg2) (TO.assign rfl dc rfl (TO.nil (TX.next (TC.seq (TC.region (TO.move rfl dc rfl (TO.move rfl dc rfl (TO.move rfl dc rfl (TO.lenStr rfl dc rfl Try.underlying9 (TO.min2 rfl dc rfl rfl ?_))))))))))
 obtain ⟨hg3, h⟩ := grdE h
 refine TO.slice rfl dc rfl rfl rfl (slice_stringI (i := 0) (j := min (b1.size : Int) 3) Try.underlying9 (.inl ⟨rfl, rfl⟩) (.inr rfl) hg3) ?_
 obtain ⟨hg4, h⟩ := grdE h
 refine TO.bin rfl dc rfl rfl (bin_sadd hg4) (TO.move rfl dc rfl (TO.lenStr rfl dc rfl Try.underlying9 ?_))
 obtain ⟨r1, hq1, h⟩ := andE h
 refine TO.callP (v := .tuple #[.agg #[.int .i64 r1.1.At, .int .i64 r1.1.Width, .int .i32 r1.1.Rune, .bool r1.1.Broken], .bool r1.2]) (vs := [.string ((cutB a1 (max ((a1.size : Int) - 3) 0) (a1.size : Int)) ++ (cutB b1 0 (min (b1.size : Int) 3))), .int .i64 ((cutB a1 (max ((a1.size : Int) - 3) 0) (a1.size : Int)).size : Int)]) rfl dc rfl rfl rfl en_64 (runes_within_fn hq1) (TO.move rfl dc rfl (TO.extract rfl dc rfl rfl (TO.extract rfl dc rfl rfl ?_)))
 refine TO.alloc zr_89 rfl dc (fun b3 => ?_)
 show TO _ _ _ _ _ _ _ _ _ _ [cells b2 [.int .i64 0, .int .i64 0] 29, cells b3 [.int .i64 0, .int .i64 0, .int .i32 0, .bool false] 89]
 refine TO.stores (k := 1) (vs := [.int .i64 r1.1.At, .int .i64 r1.1.Width, .int .i32 r1.1.Rune, .bool r1.1.Broken]) (l' := [.int .i64 r1.1.At, .int .i64 r1.1.Width, .int .i32 r1.1.Rune, .bool r1.1.Broken]) sz_89 rfl rfl rfl rfl rfl (show _ ≤ _ by simp) rfl rfl (TO.assign rfl dc rfl (TO.nil (TX.next (TC.seq (TC.seq (TC.region (TO.move rfl dc rfl (TO.un rfl dc rfl un_not (TO.nil (TX.next ?_))))))))))
 refine TC.condB rfl (fun hb1 => ?_) (fun hb1 => ?_)
 ·
  have h := condT hb1 h
  refine TC.seq (TC.region ?_)
  refine TO.build (v := .agg #[.int .i64 0, .int .i64 0]) (ps := []) rfl dc rfl (fun _ => by kernel_rfl) ?_
  refine TO.stores (k := 0) (vs := [.int .i64 0, .int .i64 0]) (l' := [.int .i64 0, .int .i64 0]) sz_29 rfl rfl rfl rfl rfl (show _ ≤ _ by simp) rfl rfl ?_
  show TO _ _ _ _ _ _ _ _ _ _ [cells b2 [.int .i64 0, .int .i64 0] 29, cells b3 [.int .i64 r1.1.At, .int .i64 r1.1.Width, .int .i32 r1.1.Rune, .bool r1.1.Broken] 89]
  refine TO.assign rfl dc rfl (TO.nil (TX.next (TC.ret (TX.thenRet ?_))))
  cases h
  exact TX.fin (rs := [.cell 4 29, .tmp 5]) () (.inl rfl) Try.results40 (.cons (.cells rw_29 (k := 0) rfl rfl rfl) (.cons (.tmp rfl) .nil)) rfl Splits.nil
 ·
  have h := condF hb1 h
  refine TC.skip (TX.next (TC.seq (TC.region (TO.move rfl dc rfl (TO.lenStr rfl dc rfl Try.underlying9 (TO.move rfl dc rfl (TO.lenStr rfl dc rfl Try.underlying9 ?_)))))))
  obtain ⟨hg5, h⟩ := grdE h
  refine TO.bin rfl dc rfl rfl (bin_sub (r := (a1.size : Int) - ((cutB a1 (max ((a1.size : Int) - 3) 0) (a1.size : Int)).size : Int)) (IntWalk.i64_in _ hg5)) (TO.fieldAddr fl_89_0 rfl dc rfl (show _ = 0 from rfl) (TO.load (k := 1) sc_3 rfl dc rfl rfl rfl ?_))
  obtain ⟨hg6, h⟩ := grdE h
  refine TO.bin rfl dc rfl rfl (bin_add (r := ((a1.size : Int) - ((cutB a1 (max ((a1.size : Int) - 3) 0) (a1.size : Int)).size : Int)) + r1.1.At) (IntWalk.i64_in _ hg6)) (TO.assign rfl dc rfl (TO.nil (TX.next (TC.seq (TC.region (TO.move rfl dc rfl (TO.move rfl dc rfl (TO.fieldAddr fl_89_1 rfl dc rfl (show _ = 1 from rfl) (TO.load (k := 1) sc_3 rfl dc rfl rfl rfl ?_)))))))))
  obtain ⟨hg7, h⟩ := grdE h
  refine TO.bin rfl dc rfl rfl (bin_add (r := (((a1.size : Int) - ((cutB a1 (max ((a1.size : Int) - 3) 0) (a1.size : Int)).size : Int)) + r1.1.At) + r1.1.Width) (IntWalk.i64_in _ hg7)) ?_
  refine TO.build (v := .agg #[.int .i64 (((a1.size : Int) - ((cutB a1 (max ((a1.size : Int) - 3) 0) (a1.size : Int)).size : Int)) + r1.1.At), .int .i64 ((((a1.size : Int) - ((cutB a1 (max ((a1.size : Int) - 3) 0) (a1.size : Int)).size : Int)) + r1.1.At) + r1.1.Width)]) (ps := [(0, .tmp 40), (1, .tmp 44)]) rfl dc rfl (fun _ => by kernel_rfl) ?_
  refine TO.stores (k := 0) (vs := [.int .i64 (((a1.size : Int) - ((cutB a1 (max ((a1.size : Int) - 3) 0) (a1.size : Int)).size : Int)) + r1.1.At), .int .i64 ((((a1.size : Int) - ((cutB a1 (max ((a1.size : Int) - 3) 0) (a1.size : Int)).size : Int)) + r1.1.At) + r1.1.Width)]) (l' := [.int .i64 (((a1.size : Int) - ((cutB a1 (max ((a1.size : Int) - 3) 0) (a1.size : Int)).size : Int)) + r1.1.At), .int .i64 ((((a1.size : Int) - ((cutB a1 (max ((a1.size : Int) - 3) 0) (a1.size : Int)).size : Int)) + r1.1.At) + r1.1.Width)]) sz_29 rfl rfl rfl rfl rfl (show _ ≤ _ by simp) rfl rfl ?_
  show TO _ _ _ _ _ _ _ _ _ _ [cells b2 [.int .i64 (((a1.size : Int) - ((cutB a1 (max ((a1.size : Int) - 3) 0) (a1.size : Int)).size : Int)) + r1.1.At), .int .i64 ((((a1.size : Int) - ((cutB a1 (max ((a1.size : Int) - 3) 0) (a1.size : Int)).size : Int)) + r1.1.At) + r1.1.Width)] 29, cells b3 [.int .i64 r1.1.At, .int .i64 r1.1.Width, .int .i32 r1.1.Rune, .bool r1.1.Broken] 89]
  refine TO.assign rfl dc rfl (TO.nil (TX.next (TC.ret ?_)))
  cases h
  exact TX.fin (rs := [.cell 4 29, .tmp 5]) () (.inl rfl) Try.results40 (.cons (.cells rw_29 (k := 0) rfl rfl rfl) (.cons (.tmp rfl) .nil)) rfl Splits.nil
def runes_Encode_v (r1 : Int) : Option ByteArray := joinK (fun (j1 : Int → Option ByteArray) => andThen (runes_Width_v r1) fun (r3 : Int) => bcond ((r3 : Int) == 0) ( j1 65533
) ( j1 r1
)
) (fun (r2 : Int) => bcond (decide ((r2 : Int) < 128)) ( grd (∀ x ∈ ([IntKind.u8.wrap r2] : List Int), U8 x) <| some (bytesOf ([IntKind.u8.wrap r2] : List Int))
) ( bcond (decide ((r2 : Int) < 2048)) ( andThen (runes_tail_v r2) fun (r4 : Int) => grd (∀ x ∈ ([orI .u8 192 (IntKind.u8.wrap (shrI .i32 r2 6)), r4] : List Int), U8 x) <| some (bytesOf ([orI .u8 192 (IntKind.u8.wrap (shrI .i32 r2 6)), r4] : List Int))
) ( bcond (decide ((r2 : Int) < 65536)) ( andThen (runes_tail_v (shrI .i32 r2 6)) fun (r5 : Int) => andThen (runes_tail_v r2) fun (r6 : Int) => grd (∀ x ∈ ([orI .u8 224 (IntKind.u8.wrap (shrI .i32 r2 12)), r5, r6] : List Int), U8 x) <| some (bytesOf ([orI .u8 224 (IntKind.u8.wrap (shrI .i32 r2 12)), r5, r6] : List Int))
) ( andThen (runes_tail_v (shrI .i32 r2 12)) fun (r7 : Int) => andThen (runes_tail_v (shrI .i32 r2 6)) fun (r8 : Int) => andThen (runes_tail_v r2) fun (r9 : Int) => grd (∀ x ∈ ([orI .u8 240 (IntKind.u8.wrap (shrI .i32 r2 18)), r7, r8, r9] : List Int), U8 x) <| some (bytesOf ([orI .u8 240 (IntKind.u8.wrap (shrI .i32 r2 18)), r7, r8, r9] : List Int))
)
)
)
)
set_option maxRecDepth 100000 in
set_option maxHeartbeats 4000000 in
theorem runes_Encode_fn {r1 : Int} {r : ByteArray} (h : runes_Encode_v r1 = some r) : FnP Try.prog 63 [.int .i32 r1] (.string r) := by
 unfold runes_Encode_v at h
 refine FnP.intro Try.func63 rfl Try.ntmps63 (by simp) ?_
 intro w0 K
 obtain ⟨j1, hj1, h⟩ := joinE h
 refine TC.cutN (β := Int) 1 rfl (fun b => j1 b = some r) (fun b => []) (fun b => [(0, .int .i32 b)]) (fun b => []) (fun cut => ?_) ?_
 ·
  refine TC.seq (TC.region (TO.assign rfl dc rfl (TO.nil (TX.next (cut (TC.seq (TC.region (TO.move rfl dc rfl ?_))))))))
  obtain ⟨r3, hq1, h⟩ := andE h
  refine TO.callP (v := .int .i64 r3) (vs := [.int .i32 r1]) rfl dc rfl rfl rfl en_76 (runes_Width_fn hq1) (TO.bin rfl dc rfl rfl bin_eql (TO.nil (TX.next ?_)))
  refine TC.condB rfl (fun hb1 => ?_) (fun hb1 => ?_)
  ·
   have h := condT hb1 h
   refine TC.region (TO.assign rfl dc rfl (TO.nil ?_))
   exact TX.meetD 65533 h rfl (Sbs.cons rfl (Sbs.nil)) Splits.nil
  ·
   have h := condF hb1 h
   refine TC.skip ?_
   exact TX.meetD r1 h rfl (Sbs.cons rfl (Sbs.nil)) Splits.nil
 ·
  rintro r2 h
  rw [hj1] at h
  show TC _ _ _ _ _ ([]) _ _ [(0, .int .i32 r2)] []
  refine TC.seq (TC.block (TC.seq (TC.region (TO.move rfl dc rfl (TO.bin rfl dc rfl rfl bin_lss (TO.assign rfl dc rfl (TO.nil (TX.next ?_))))))))
  refine TC.condB rfl (fun hb2 => ?_) (fun hb2 => ?_)
  ·
   have h := condT hb2 h
   refine TC.seq (TC.region (TO.move rfl dc rfl (TO.conv rfl dc rfl (conv_wrap Try.underlying21 Try.underlying5) ?_)))
   refine TO.buildSlice (cs := [.int .u8 (IntKind.u8.wrap r2)]) (te := 5) (ps := [(0, .tmp 10)]) rfl dc rfl (fun _ => by kernel_rfl) (fun b1 => ?_)
   refine TO.toVec ([IntKind.u8.wrap r2] : List Int) (k := 0) rfl encI_len rfl (show 1 ≤ maxLen by decide) ?_
   show TO _ _ _ _ _ _ _ _ _ _ [vec (encI (.u8)) 5 1 (.slice (some ⟨b1, 0, none⟩) 1 1) ([IntKind.u8.wrap r2] : List Int)]
   obtain ⟨hg1, h⟩ := grdE h
   refine TO.rewE (k := 0) rfl (vec_byt hg1) ?_
   show TO _ _ _ _ _ _ _ _ _ _ [byt 5 (.slice (some ⟨b1, 0, none⟩) 1 1) (bytesOf ([IntKind.u8.wrap r2] : List Int))]
   refine TO.bytStr (k := 0) rfl dc rfl rfl Try.underlying69 Try.underlying5 Try.underlying9 (TO.assign rfl dc rfl (TO.nil (TX.next (TC.ret (TX.blockRet (TX.thenRet ?_))))))
   cases h
   exact TX.fin (rs := [.tmp 2]) () (.inl rfl) Try.results63 (.cons (.tmp rfl) .nil) rfl Splits.nil
  ·
   have h := condF hb2 h
   refine TC.seq (TC.region (TO.move rfl dc rfl (TO.bin rfl dc rfl rfl bin_lss (TO.assign rfl dc rfl (TO.nil (TX.next ?_))))))
   refine TC.condB rfl (fun hb3 => ?_) (fun hb3 => ?_)
   ·
    have h := condT hb3 h
    refine TC.seq (TC.region (TO.move rfl dc rfl (TO.bin rfl dc rfl rfl (bin_shr dc) (TO.conv rfl dc rfl (conv_wrap Try.underlying21 Try.underlying5) (TO.bin rfl dc rfl rfl bin_or (TO.move rfl dc rfl ?_))))))
    obtain ⟨r4, hq2, h⟩ := andE h
    refine TO.callP (v := .int .u8 r4) (vs := [.int .i32 r2]) rfl dc rfl rfl rfl en_77 (runes_tail_fn hq2) ?_
    refine TO.buildSlice (cs := [.int .u8 (orI .u8 192 (IntKind.u8.wrap (shrI .i32 r2 6))), .int .u8 r4]) (te := 5) (ps := [(0, .tmp 19), (1, .tmp 21)]) rfl dc rfl (fun _ => by kernel_rfl) (fun b2 => ?_)
    refine TO.toVec ([orI .u8 192 (IntKind.u8.wrap (shrI .i32 r2 6)), r4] : List Int) (k := 0) rfl encI_len rfl (show 2 ≤ maxLen by decide) ?_
    show TO _ _ _ _ _ _ _ _ _ _ [vec (encI (.u8)) 5 1 (.slice (some ⟨b2, 0, none⟩) 2 2) ([orI .u8 192 (IntKind.u8.wrap (shrI .i32 r2 6)), r4] : List Int)]
    obtain ⟨hg2, h⟩ := grdE h
    refine TO.rewE (k := 0) rfl (vec_byt hg2) ?_
    show TO _ _ _ _ _ _ _ _ _ _ [byt 5 (.slice (some ⟨b2, 0, none⟩) 2 2) (bytesOf ([orI .u8 192 (IntKind.u8.wrap (shrI .i32 r2 6)), r4] : List Int))]
    refine TO.bytStr (k := 0) rfl dc rfl rfl Try.underlying69 Try.underlying5 Try.underlying9 (TO.assign rfl dc rfl (TO.nil (TX.next (TC.ret (TX.blockRet (TX.thenRet ?_))))))
    cases h
    exact TX.fin (rs := [.tmp 2]) () (.inl rfl) Try.results63 (.cons (.tmp rfl) .nil) rfl Splits.nil
   ·
    have h := condF hb3 h
    refine TC.seq (TC.region (TO.move rfl dc rfl (TO.bin rfl dc rfl rfl bin_lss (TO.assign rfl dc rfl (TO.nil (TX.next ?_))))))
    refine TC.condB rfl (fun hb4 => ?_) (fun hb4 => ?_)
    ·
     have h := condT hb4 h
     refine TC.seq (TC.region (TO.move rfl dc rfl (TO.bin rfl dc rfl rfl (bin_shr dc) (TO.conv rfl dc rfl (conv_wrap Try.underlying21 Try.underlying5) (TO.bin rfl dc rfl rfl bin_or (TO.move rfl dc rfl (TO.bin rfl dc rfl rfl (bin_shr dc) ?_)))))))
     obtain ⟨r5, hq3, h⟩ := andE h
     refine TO.callP (v := .int .u8 r5) (vs := [.int .i32 (shrI .i32 r2 6)]) rfl dc rfl rfl rfl en_77 (runes_tail_fn hq3) (TO.move rfl dc rfl ?_)
     obtain ⟨r6, hq4, h⟩ := andE h
     refine TO.callP (v := .int .u8 r6) (vs := [.int .i32 r2]) rfl dc rfl rfl rfl en_77 (runes_tail_fn hq4) ?_
     refine TO.buildSlice (cs := [.int .u8 (orI .u8 224 (IntKind.u8.wrap (shrI .i32 r2 12))), .int .u8 r5, .int .u8 r6]) (te := 5) (ps := [(0, .tmp 30), (1, .tmp 33), (2, .tmp 35)]) rfl dc rfl (fun _ => by kernel_rfl) (fun b3 => ?_)
     refine TO.toVec ([orI .u8 224 (IntKind.u8.wrap (shrI .i32 r2 12)), r5, r6] : List Int) (k := 0) rfl encI_len rfl (show 3 ≤ maxLen by decide) ?_
     show TO _ _ _ _ _ _ _ _ _ _ [vec (encI (.u8)) 5 1 (.slice (some ⟨b3, 0, none⟩) 3 3) ([orI .u8 224 (IntKind.u8.wrap (shrI .i32 r2 12)), r5, r6] : List Int)]
     obtain ⟨hg3, h⟩ := grdE h
     refine TO.rewE (k := 0) rfl (vec_byt hg3) ?_
     show TO _ _ _ _ _ _ _ _ _ _ [byt 5 (.slice (some ⟨b3, 0, none⟩) 3 3) (bytesOf ([orI .u8 224 (IntKind.u8.wrap (shrI .i32 r2 12)), r5, r6] : List Int))]
     refine TO.bytStr (k := 0) rfl dc rfl rfl Try.underlying69 Try.underlying5 Try.underlying9 (TO.assign rfl dc rfl (TO.nil (TX.next (TC.ret (TX.blockRet (TX.thenRet ?_))))))
     cases h
     exact TX.fin (rs := [.tmp 2]) () (.inl rfl) Try.results63 (.cons (.tmp rfl) .nil) rfl Splits.nil
    ·
     have h := condF hb4 h
     refine TC.skip (TX.blockNormal (TX.next (TC.seq (TC.region (TO.move rfl dc rfl (TO.bin rfl dc rfl rfl (bin_shr dc) (TO.conv rfl dc rfl (conv_wrap Try.underlying21 Try.underlying5) (TO.bin rfl dc rfl rfl bin_or (TO.move rfl dc rfl (TO.bin rfl dc rfl rfl (bin_shr dc) ?_))))))))))
     obtain ⟨r7, hq5, h⟩ := andE h
     refine TO.callP (v := .int .u8 r7) (vs := [.int .i32 (shrI .i32 r2 12)]) rfl dc rfl rfl rfl en_77 (runes_tail_fn hq5) (TO.move rfl dc rfl (TO.bin rfl dc rfl rfl (bin_shr dc) ?_))
     obtain ⟨r8, hq6, h⟩ := andE h
     refine TO.callP (v := .int .u8 r8) (vs := [.int .i32 (shrI .i32 r2 6)]) rfl dc rfl rfl rfl en_77 (runes_tail_fn hq6) (TO.move rfl dc rfl ?_)
     obtain ⟨r9, hq7, h⟩ := andE h
     refine TO.callP (v := .int .u8 r9) (vs := [.int .i32 r2]) rfl dc rfl rfl rfl en_77 (runes_tail_fn hq7) ?_
     refine TO.buildSlice (cs := [.int .u8 (orI .u8 240 (IntKind.u8.wrap (shrI .i32 r2 18))), .int .u8 r7, .int .u8 r8, .int .u8 r9]) (te := 5) (ps := [(0, .tmp 41), (1, .tmp 44), (2, .tmp 47), (3, .tmp 49)]) rfl dc rfl (fun _ => by kernel_rfl) (fun b4 => ?_)
     refine TO.toVec ([orI .u8 240 (IntKind.u8.wrap (shrI .i32 r2 18)), r7, r8, r9] : List Int) (k := 0) rfl encI_len rfl (show 4 ≤ maxLen by decide) ?_
     show TO _ _ _ _ _ _ _ _ _ _ [vec (encI (.u8)) 5 1 (.slice (some ⟨b4, 0, none⟩) 4 4) ([orI .u8 240 (IntKind.u8.wrap (shrI .i32 r2 18)), r7, r8, r9] : List Int)]
     obtain ⟨hg4, h⟩ := grdE h
     refine TO.rewE (k := 0) rfl (vec_byt hg4) ?_
     show TO _ _ _ _ _ _ _ _ _ _ [byt 5 (.slice (some ⟨b4, 0, none⟩) 4 4) (bytesOf ([orI .u8 240 (IntKind.u8.wrap (shrI .i32 r2 18)), r7, r8, r9] : List Int))]
     refine TO.bytStr (k := 0) rfl dc rfl rfl Try.underlying69 Try.underlying5 Try.underlying9 (TO.assign rfl dc rfl (TO.nil (TX.next (TC.ret ?_))))
     cases h
     exact TX.fin (rs := [.tmp 2]) () (.inl rfl) Try.results63 (.cons (.tmp rfl) .nil) rfl Splits.nil
def runes_Pieces_1_s1 (c0 : ByteArray) (ag1 : Nat → Option (List Gapi_Piece)) (m3 : Nat) : Option (List Gapi_Piece) := bcond (decide (m3 < (pcs c0.data.toList).length)) ( andThen ((pcs c0.data.toList)[m3]?) fun (p1 : Pc) => andThen (runes_read_v c0 (p1.i : Int)) fun (r1 : Gapi_Piece) => consO r1 <| ag1 (m3 + 1)
) ( some []
)
def runes_Pieces_1_v (c0 : ByteArray) : Option (List Gapi_Piece) := loopG (fun _ => none) (runes_Pieces_1_s1 c0) fuel 0
set_option maxRecDepth 100000 in
set_option maxHeartbeats 4000000 in
theorem runes_Pieces_1_itr {b_c0 : Nat} {c0 : ByteArray} {xs : (List Gapi_Piece)} (h : runes_Pieces_1_v c0 = some xs) : Itr Try.prog 81 [.pointer (some ⟨b_c0, 0, none⟩)] (fun q : Gapi_Piece => [.agg #[.int .i64 q.At, .int .i64 q.Width, .int .i32 q.Rune, .bool q.Broken]]) xs [(b_c0, .cells #[.string c0] 9 (0, 0))] := by
 unfold runes_Pieces_1_v at h
 refine Itr.intro Try.func81 rfl Try.ntmps81 (by simp) ?_
 intro l w0 K I X hRo hy
 obtain ⟨r0, hx0⟩ : ∃ r, xs = [] ++ r := ⟨xs, rfl⟩
 have hr0 : xs = r0 := hx0
 rw [hr0] at h
 refine TC.seq (TC.region (TO.loadRo (i := 0) hRo sc_9 rfl dc rfl rfl rfl ?_))
 refine TO.rangeStr Try.underlying9 rfl dc rfl (fun b1 => ?_)
 refine TO.nil (TX.next (TC.block ?_))
 refine TC.loopD (β := Nat × Nat × (List Gapi_Piece) × (List Gapi_Piece)) (fun b => loopG (fun _ => none) (runes_Pieces_1_s1 c0) b.1 b.2.1 = some b.2.2.2 ∧ xs = b.2.2.1 ++ b.2.2.2) (fun b => []) (fun b => [(0, .func (.yield l) #[] #[]), (1, .pointer (some ⟨b_c0, 0, none⟩)), (5, .pointer (some ⟨b1, 0, none⟩))]) (fun b => [I b.2.2.1, obj b1 (.stringIter c0 (posAt c0 b.2.1))]) (fun b => b.1) (fuel, 0, ([] : List Gapi_Piece), r0) ⟨h, hx0⟩ rfl (Sbs.cons rfl (Sbs.cons rfl (Sbs.cons rfl (Sbs.nil)))) (Splits.of [0, 1] kr rfl) ?_
 rintro ⟨n1, m3, acc3, rr3⟩ ⟨h, hx3⟩
 cases n1 with
 | zero => exact noneE h
 | succ n1 =>
  obtain ⟨ag1, hag1⟩ : ∃ ag, ag = loopG (fun _ => none) (runes_Pieces_1_s1 c0) n1 := ⟨_, rfl⟩
  have h : runes_Pieces_1_s1 c0 ag1 m3 = some rr3 := by rw [hag1]; exact h
  unfold runes_Pieces_1_s1 at h
  show TC _ _ _ _ _ ([]) _ _ [(0, .func (.yield l) #[] #[]), (1, .pointer (some ⟨b_c0, 0, none⟩)), (5, .pointer (some ⟨b1, 0, none⟩))] [I acc3, obj b1 (.stringIter c0 (posAt c0 m3))]
  refine TC.seq (TC.region ?_)
  refine TO.bySplit (b := decide (m3 < (pcs c0.data.toList).length)) (fun hb1 => ?_) (fun hb1 => ?_)
  ·
   have h := condT hb1 h
   obtain ⟨p1, hq1, h⟩ := andE h
   refine TO.nextStr (k := 1) (m := m3) (p := p1) rfl dc rfl rfl hq1 (TO.extract rfl dc rfl rfl (TO.nil (TX.next (TC.seq (TC.condT rfl (TC.skip (TX.next (TC.block (TC.seq (TC.region (TO.extract rfl dc rfl rfl (TO.assign rfl dc rfl (TO.nil ?_)))))))))))))
   refine TX.next (TC.seq (TC.region (TO.move rfl dc rfl (TO.loadRo (i := 0) hRo sc_9 rfl dc rfl rfl rfl (TO.move rfl dc rfl ?_)))))
   obtain ⟨r1, hq2, h⟩ := andE h
   refine TO.callP (v := .agg #[.int .i64 r1.At, .int .i64 r1.Width, .int .i32 r1.Rune, .bool r1.Broken]) (vs := [.string c0, .int .i64 (p1.i : Int)]) rfl dc rfl rfl rfl en_78 (runes_read_fn hq2) ?_
   obtain ⟨rr4, hr1, h⟩ := consE h
   have hx4 : xs = acc3 ++ r1 :: rr4 := by rw [hx3, hr1]
   refine TO.yield hy rfl dc rfl hx4 rfl (k := 0) rfl ?_ ?_
   ·
    have hx5 : xs = (acc3 ++ [r1]) ++ rr4 := by rw [hx4]; simp
    show TO _ _ _ _ _ _ _ _ _ _ [I (acc3 ++ [r1]), obj b1 (.stringIter c0 (posAt c0 (m3 + 1)))]
    refine TO.un rfl dc rfl un_not (TO.nil (TX.next (TC.condF rfl (TC.skip (TX.blockNormal ?_)))))
    subst hag1
    exact TX.againD (n1, m3 + 1, acc3 ++ [r1], rr4) ⟨h, hx5⟩ (Nat.lt_succ_self _) rfl (Sbs.cons rfl (Sbs.cons rfl (Sbs.cons rfl (Sbs.nil)))) (Splits.of [0, 1] kr rfl)
   ·
    show TO _ _ _ _ _ _ _ _ _ _ [X (acc3 ++ [r1]), obj b1 (.stringIter c0 (posAt c0 (m3 + 1)))]
    refine TO.un rfl dc rfl un_not (TO.nil (TX.next (TC.condT rfl (TC.ret (TX.blockRet (TX.thenRet (TX.blockRet ?_)))))))
    exact TX.finX (ds := []) acc3 r1 rr4 hx4 (.inl rfl) Splits.nil Try.results81 (Splits.of [0] kr rfl)
  ·
   have h := condF hb1 h
   refine TO.nextEnd (k := 1) (m := m3) rfl dc rfl rfl (Nat.le_of_not_lt (of_decide_eq_false hb1)) (TO.extract rfl dc rfl rfl (TO.nil (TX.next (TC.seq (TC.condF rfl (TC.exit (TX.thenExit (TX.thenExit (TX.blockHere ?_)))))))))
   cases h
   exact TX.finY (ds := []) (.inr rfl) Splits.nil Try.results81 (congrArg I (hx3.trans (List.append_nil _))) (Splits.of [0] kr rfl)
def runes_Pieces_v (s1 : ByteArray) : Option ByteArray := some s1
set_option maxRecDepth 100000 in
set_option maxHeartbeats 4000000 in
theorem runes_Pieces_fn {s1 : ByteArray} {r : ByteArray} (h : runes_Pieces_v s1 = some r) : Fn Try.prog 67 [.string s1] [] (fun v0 : Nat => .func (.func 81) #[] #[.pointer (some ⟨v0, 0, none⟩)]) (fun v0 => [cells v0 [.string r] 9]) := by
 unfold runes_Pieces_v at h
 refine Fn.intro Try.func67 rfl Try.ntmps67 (by simp) ?_
 intro w0 K
 refine TC.seq (TC.region ?_)
 refine TO.box rfl dc rfl (fun b1 => ?_)
 refine TO.assign rfl dc rfl (TO.nil (TX.next (TC.seq (TC.region (TO.makeFunc (x1 := []) (x2 := [.tmp 1]) rfl dc rfl rfl (TO.assign rfl dc rfl (TO.nil (TX.next (TC.ret ?_)))))))))
 cases h
 exact TX.fin (rs := [.tmp 2]) b1 (.inl rfl) Try.results67 (.cons (.tmp rfl) .nil) rfl (Splits.of [0] kr rfl)
end Go.Proofs.Ythjkafeklflgbaa
namespace Go.Proofs.Ythjkafeklflgbaa
open Go.RowKit Go.Lib
set_option linter.unusedVariables false
set_option linter.unusedSimpArgs false
theorem encNeLost (r : Int) (hv : 0 ≤ r ∧ (r < 55296 ∨ (57343 < r ∧ r ≤ 1114111))) (hr : ¬ r = 65533) : ¬ Utf8.encode r = ⟨#[239, 191, 189]⟩ := by
  intro h
  obtain ⟨n, rfl⟩ := Int.eq_ofNat_of_zero_le hv.1
  have h1 : encodeRune ((n : Nat) : Int) = [239, 191, 189] := by rw [← encode_list, h]
  have h2 := dec_enc n (by omega) []
  have h3 := dec_enc 65533 (by omega) []
  rw [h1] at h2
  rw [enc_lost] at h3
  rw [h2] at h3
  have := (Prod.mk.inj h3).1
  omega
theorem rwidthV (r : Int) (hv : vr r) : runes_Width_v r = some ((Utf8.encode r).size : Int) := by
  unfold runes_Width_v
  refine joinI ?_
  by_cases h : r = 65533
  · exact condFI (bne_eq_false_iff_eq.2 h) rfl
  · exact condTI (bne_iff_ne.2 h) (condFI (decide_eq_false (encNeLost r (by unfold vr at hv; omega) h)) rfl)
theorem readV (s : ByteArray) (a : Nat) (ha : a < s.size) (hsz : s.size ≤ 9223372036854775000) : runes_read_v s (a : Int) = some (pcG ⟨a, (decodeL (s.data.toList.drop a)).2, (decodeL (s.data.toList.drop a)).1⟩) := by
  unfold runes_read_v
  obtain ⟨F, hF, _⟩ := fuel_eq 1 (by omega)
  rw [hF]
  refine joinI (grdI ⟨by omega, by omega, by omega⟩ ?_)
  rw [loopI]
  generalize loopG _ _ F = ag
  unfold runes_read_s1
  have hne : s.data.toList.drop a ≠ [] := by
    intro h; have := congrArg List.length h; simp at this; omega
  have hok := decOk _ hne
  have hlen : (s.data.toList.drop a).length = s.size - a := by simp
  have hle := hok.le
  have e : (cutB s (a : Int) (s.size : Int)).data.toList = s.data.toList.drop a := by unfold cutB; exact ext_end s a
  have hp : pcs (cutB s (a : Int) (s.size : Int)).data.toList = ⟨0, (decodeL (s.data.toList.drop a)).2, (decodeL (s.data.toList.drop a)).1⟩ :: pcsFrom (0 + (decodeL (s.data.toList.drop a)).2) ((s.data.toList.drop a).drop (decodeL (s.data.toList.drop a)).2) := by
    rw [e]; unfold pcs; rw [pcsFrom_cons _ _ hne]
  have hvr : vr ((decodeL (s.data.toList.drop a)).1 : Int) := by have := hok.valid; unfold vr; omega
  refine condTI (decide_eq_true (by rw [hp]; simp)) (thenI (by rw [hp]; rfl) (joinI (thenI (rwidthV _ hvr) ?_)))
  simp only
  unfold pcG Pc.broken
  have hw := hok.width
  have hl3 := hok.lost_ok
  have hl1 := hok.lost_bad
  generalize decodeL (s.data.toList.drop a) = d at *
  rcases d with ⟨r, w⟩
  simp only at *
  by_cases hr : r = 65533
  · subst hr
    refine condTI (by decide) (grdI ⟨by omega, by omega⟩ ?_)
    by_cases h3 : (s.size : Int) - a < 3
    · refine condTI (decide_eq_true h3) ?_
      have hw1 : w = 1 := by
        by_cases hw1 : w = 1
        · exact hw1
        · have := (hl3 rfl hw1).2; omega
      subst hw1; rfl
    · have e3 := cutB_list s a 3
      refine condFI (decide_eq_false h3) (grdI ⟨by omega, by omega⟩ (grdI ⟨by omega, by omega, by omega⟩ ?_))
      by_cases hw1 : w = 1
      · refine condTI ?_ (by subst hw1; rfl)
        rw [decide_eq_false]
        · rfl
        · intro h
          exact hl1 rfl hw1 (by rw [← e3]; exact congrArg (fun b : ByteArray => b.data.toList) h)
      · obtain ⟨h4, h5⟩ := hl3 rfl hw1
        refine condFI ?_ ?_
        · rw [decide_eq_true]
          · rfl
          · apply ByteArray.ext; apply Array.toList_inj.1; rw [show ((a : Int) + 3) = (a : Int) + (3 : Nat) from rfl, e3, h4]
        · rw [encode_size, hw (by omega)]
          subst h5; rfl
  · refine condFI (by rw [beq_eq_false_iff_ne]; omega) ?_
    rw [encode_size, hw (by omega)]
    have : (r == 65533 && w == 1) = false := by simp [hr]
    rw [this]
theorem piecesI (s : ByteArray) (hs : s.size ≤ 2147483648) : runes_Pieces_1_v s = some ((pcs s.data.toList).map pcG) := by
  unfold runes_Pieces_1_v
  have hc : (pcs s.data.toList).length ≤ s.size := by have := runesOf_len s; unfold runesOf at this; simpa using this
  have key : ∀ (n k : Nat), k ≤ (pcs s.data.toList).length → (pcs s.data.toList).length - k < n → loopG (fun _ => none) (runes_Pieces_1_s1 s) n k = some (((pcs s.data.toList).drop k).map pcG) := by
    intro n
    induction n with
    | zero => intro k _ h; omega
    | succ n ih =>
      intro k hk hn
      rw [loopI]
      generalize loopG (fun _ => none) (runes_Pieces_1_s1 s) n = ag at ih ⊢
      unfold runes_Pieces_1_s1
      by_cases h : k < (pcs s.data.toList).length
      · have hx : (pcs s.data.toList)[k]? = some (pcs s.data.toList)[k] := List.getElem?_eq_getElem h
        have hm := List.mem_of_getElem? hx
        generalize (pcs s.data.toList)[k] = p at hx hm
        obtain ⟨g1, g2, hok⟩ := pcs_pos s.data.toList p hm
        have hlen : s.data.toList.length = s.size := by rw [Array.length_toList]; rfl
        have hw := hok.pos
        have hr : runes_read_v s (p.i : Int) = some (pcG p) := by
          have := readV s p.i (by omega) (by omega)
          rw [this]
          have he := hok.eq
          rw [he]
        refine condTI (decide_eq_true h) (thenI hx (thenI hr ?_))
        rw [ih (k + 1) (by omega) (by omega)]
        have hd : (pcs s.data.toList).drop k = p :: (pcs s.data.toList).drop (k + 1) := by
          obtain ⟨hlt, he⟩ := List.getElem?_eq_some_iff.1 hx
          rw [← he]; exact List.drop_eq_getElem_cons hlt
        rw [hd]; rfl
      · have : k = (pcs s.data.toList).length := by omega
        subst this
        exact condFI (decide_eq_false (by omega)) (by rw [List.drop_length]; rfl)
  have := key fuel 0 (Nat.zero_le _) (by unfold fuel; omega)
  simpa using this
end Go.Proofs.Ythjkafeklflgbaa
