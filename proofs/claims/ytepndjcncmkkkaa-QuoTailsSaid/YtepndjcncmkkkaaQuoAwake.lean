/- The examples of layer 3, as the program asks them. -/
import Derived.Test.YtepndjcncmkkkaaQuoLaw
namespace Go.Proofs.QL
open Go.RowKit
open Go.Proofs
open Go.Proofs.NP
open Go.Proofs.SL
open Go.Proofs.NR
set_option linter.unusedVariables false
set_option linter.unusedSimpArgs false
set_option maxHeartbeats 4000000 in
set_option maxRecDepth 100000 in
theorem awake (w : World) : Calls Try.prog 12 #[] w fun e w' => e = .returned (.bool true) ∧ Kp w w' := by
  have K : Kp w w := Kp.refl w
  go_enter Try.func12, Try.ntmps12
  go_wp2_with fail
  refine (QR.div1 (xs := [17]) (ys := [5]) (by repeat (first | exact Rd.litn [17] #[.int .u64 17] (ws_of _ (by decide +kernel)) rfl (by decide) (by simp) | with_reducible apply Rd.al)) (by repeat (first | exact Rd.litn [5] #[.int .u64 5] (ws_of _ (by decide +kernel)) rfl (by decide) (by simp) | with_reducible apply Rd.al)) rfl rfl (by decide) (by decide) [3] [2] 0 (L_of (by decide +kernel) (by decide +kernel) (by decide +kernel)) (QL.drL_of (by decide +kernel) (L_of (by decide +kernel) (by decide +kernel) (by decide +kernel))) (QL.dE_of (by decide +kernel))).mono ?_; rintro e u1 ⟨pa, qa, pb, qb, rfl, ho, ho2, _, hb⟩
  replace K : Kp w u1 := Kp.nx (by repeat (first | with_reducible exact K | with_reducible apply Kp.al | with_reducible apply Kp.dr | with_reducible apply Kp.dr1)) hb
  have Sa : Rd u1 pa qa ([3]) := ho.rd
  have Sb : Rd u1 pb qb ([2]) := ho2.rd
  clear ho ho2 hb
  go_wp2_with fail
  refine (QR.div1 (xs := [0, 1]) (ys := [3]) (by repeat (first | exact Rd.litn [0, 1] #[.int .u64 0, .int .u64 1] (ws_of _ (by decide +kernel)) rfl (by decide) (by simp) | with_reducible apply Rd.al)) (by repeat (first | exact Rd.litn [3] #[.int .u64 3] (ws_of _ (by decide +kernel)) rfl (by decide) (by simp) | with_reducible apply Rd.al)) rfl rfl (by decide) (by decide) [6148914691236517205] [1] 0 (L_of (by decide +kernel) (by decide +kernel) (by decide +kernel)) (QL.drL_of (by decide +kernel) (L_of (by decide +kernel) (by decide +kernel) (by decide +kernel))) (QL.dE_of (by decide +kernel))).mono ?_; rintro e u2 ⟨pc, qc, pd, qd, rfl, ho, ho2, _, hb⟩
  replace Sa : Rd u2 pa qa ([3]) := Rd.nx (by repeat (first | with_reducible exact Sa | with_reducible apply Rd.al | with_reducible apply Rd.dr | with_reducible apply Rd.dr1)) hb
  replace Sb : Rd u2 pb qb ([2]) := Rd.nx (by repeat (first | with_reducible exact Sb | with_reducible apply Rd.al | with_reducible apply Rd.dr | with_reducible apply Rd.dr1)) hb
  replace K : Kp w u2 := Kp.nx (by repeat (first | with_reducible exact K | with_reducible apply Kp.al | with_reducible apply Kp.dr | with_reducible apply Kp.dr1)) hb
  have Sc : Rd u2 pc qc ([6148914691236517205]) := ho.rd
  have Sd : Rd u2 pd qd ([1]) := ho2.rd
  clear ho ho2 hb
  go_wp2_with fail
  refine (QR.div1 (xs := [5]) (ys := [17]) (by repeat (first | exact Rd.litn [5] #[.int .u64 5] (ws_of _ (by decide +kernel)) rfl (by decide) (by simp) | with_reducible apply Rd.al)) (by repeat (first | exact Rd.litn [17] #[.int .u64 17] (ws_of _ (by decide +kernel)) rfl (by decide) (by simp) | with_reducible apply Rd.al)) rfl rfl (by decide) (by decide) [] [5] 0 (L_of (by decide +kernel) (by decide +kernel) (by decide +kernel)) (QL.drL_of (by decide +kernel) (L_of (by decide +kernel) (by decide +kernel) (by decide +kernel))) (QL.dE_of (by decide +kernel))).mono ?_; rintro e u3 ⟨pe1, qe1, pf, qf, rfl, ho, ho2, _, hb⟩
  replace Sa : Rd u3 pa qa ([3]) := Rd.nx (by repeat (first | with_reducible exact Sa | with_reducible apply Rd.al | with_reducible apply Rd.dr | with_reducible apply Rd.dr1)) hb
  replace Sb : Rd u3 pb qb ([2]) := Rd.nx (by repeat (first | with_reducible exact Sb | with_reducible apply Rd.al | with_reducible apply Rd.dr | with_reducible apply Rd.dr1)) hb
  replace Sc : Rd u3 pc qc ([6148914691236517205]) := Rd.nx (by repeat (first | with_reducible exact Sc | with_reducible apply Rd.al | with_reducible apply Rd.dr | with_reducible apply Rd.dr1)) hb
  replace Sd : Rd u3 pd qd ([1]) := Rd.nx (by repeat (first | with_reducible exact Sd | with_reducible apply Rd.al | with_reducible apply Rd.dr | with_reducible apply Rd.dr1)) hb
  replace K : Kp w u3 := Kp.nx (by repeat (first | with_reducible exact K | with_reducible apply Kp.al | with_reducible apply Kp.dr | with_reducible apply Kp.dr1)) hb
  have Se1 : Rd u3 pe1 qe1 ([]) := ho.rd
  have Sf : Rd u3 pf qf ([5]) := ho2.rd
  clear ho ho2 hb
  go_wp2_with fail
  refine (QR.div1 (xs := [5]) (ys := []) (by repeat (first | exact Rd.litn [5] #[.int .u64 5] (ws_of _ (by decide +kernel)) rfl (by decide) (by simp) | with_reducible apply Rd.al)) (by exact Rd.nil _) rfl rfl (by decide) (by decide) [] [] 7 (QL.dq_zero (by rfl)) (QL.drL_zero (by rfl)) (QL.dE_zero (by rfl))).mono ?_; rintro e u4 ⟨ph1, qh1, ph2, qh2, rfl, ho, ho2, _, hb⟩
  replace Sa : Rd u4 pa qa ([3]) := Rd.nx (by repeat (first | with_reducible exact Sa | with_reducible apply Rd.al | with_reducible apply Rd.dr | with_reducible apply Rd.dr1)) hb
  replace Sb : Rd u4 pb qb ([2]) := Rd.nx (by repeat (first | with_reducible exact Sb | with_reducible apply Rd.al | with_reducible apply Rd.dr | with_reducible apply Rd.dr1)) hb
  replace Sc : Rd u4 pc qc ([6148914691236517205]) := Rd.nx (by repeat (first | with_reducible exact Sc | with_reducible apply Rd.al | with_reducible apply Rd.dr | with_reducible apply Rd.dr1)) hb
  replace Sd : Rd u4 pd qd ([1]) := Rd.nx (by repeat (first | with_reducible exact Sd | with_reducible apply Rd.al | with_reducible apply Rd.dr | with_reducible apply Rd.dr1)) hb
  replace Se1 : Rd u4 pe1 qe1 ([]) := Rd.nx (by repeat (first | with_reducible exact Se1 | with_reducible apply Rd.al | with_reducible apply Rd.dr | with_reducible apply Rd.dr1)) hb
  replace Sf : Rd u4 pf qf ([5]) := Rd.nx (by repeat (first | with_reducible exact Sf | with_reducible apply Rd.al | with_reducible apply Rd.dr | with_reducible apply Rd.dr1)) hb
  replace K : Kp w u4 := Kp.nx (by repeat (first | with_reducible exact K | with_reducible apply Kp.al | with_reducible apply Kp.dr | with_reducible apply Kp.dr1)) hb
  have Sh1 : Rd u4 ph1 qh1 ([]) := ho.rd
  have Sh2 : Rd u4 ph2 qh2 ([]) := ho2.rd
  clear ho ho2 hb
  go_wp2_with fail
  refine (QR.pow1_ok (zs := [0, 1]) (xs := [2]) (by repeat (first | exact Rd.litn [2] #[.int .u64 2] (ws_of _ (by decide +kernel)) rfl (by decide) (by simp) | with_reducible apply Rd.al)) rfl (by decide) 64 2 (by decide +kernel) (by decide) (by decide) (L_of (by decide +kernel) (by decide +kernel) (by decide +kernel))).mono ?_; rintro e u5 ⟨px, qx, rfl, ho, hb⟩
  replace Sa : Rd u5 pa qa ([3]) := Rd.nx (by repeat (first | with_reducible exact Sa | with_reducible apply Rd.al | with_reducible apply Rd.dr | with_reducible apply Rd.dr1)) hb
  replace Sb : Rd u5 pb qb ([2]) := Rd.nx (by repeat (first | with_reducible exact Sb | with_reducible apply Rd.al | with_reducible apply Rd.dr | with_reducible apply Rd.dr1)) hb
  replace Sc : Rd u5 pc qc ([6148914691236517205]) := Rd.nx (by repeat (first | with_reducible exact Sc | with_reducible apply Rd.al | with_reducible apply Rd.dr | with_reducible apply Rd.dr1)) hb
  replace Sd : Rd u5 pd qd ([1]) := Rd.nx (by repeat (first | with_reducible exact Sd | with_reducible apply Rd.al | with_reducible apply Rd.dr | with_reducible apply Rd.dr1)) hb
  replace Se1 : Rd u5 pe1 qe1 ([]) := Rd.nx (by repeat (first | with_reducible exact Se1 | with_reducible apply Rd.al | with_reducible apply Rd.dr | with_reducible apply Rd.dr1)) hb
  replace Sf : Rd u5 pf qf ([5]) := Rd.nx (by repeat (first | with_reducible exact Sf | with_reducible apply Rd.al | with_reducible apply Rd.dr | with_reducible apply Rd.dr1)) hb
  replace Sh1 : Rd u5 ph1 qh1 ([]) := Rd.nx (by repeat (first | with_reducible exact Sh1 | with_reducible apply Rd.al | with_reducible apply Rd.dr | with_reducible apply Rd.dr1)) hb
  replace Sh2 : Rd u5 ph2 qh2 ([]) := Rd.nx (by repeat (first | with_reducible exact Sh2 | with_reducible apply Rd.al | with_reducible apply Rd.dr | with_reducible apply Rd.dr1)) hb
  replace K : Kp w u5 := Kp.nx (by repeat (first | with_reducible exact K | with_reducible apply Kp.al | with_reducible apply Kp.dr | with_reducible apply Kp.dr1)) hb
  have Sx : Rd u5 px qx ([0, 1]) := ho.rd
  clear ho hb
  go_wp2_with fail
  refine (QR.pow1_ok (zs := [1]) (xs := []) (by exact Rd.nil _) rfl (by decide) 0 0 (by decide +kernel) (by decide) (by decide) (L_of (by decide +kernel) (by decide +kernel) (by decide +kernel))).mono ?_; rintro e u6 ⟨py, qy, rfl, ho, hb⟩
  replace Sa : Rd u6 pa qa ([3]) := Rd.nx (by repeat (first | with_reducible exact Sa | with_reducible apply Rd.al | with_reducible apply Rd.dr | with_reducible apply Rd.dr1)) hb
  replace Sb : Rd u6 pb qb ([2]) := Rd.nx (by repeat (first | with_reducible exact Sb | with_reducible apply Rd.al | with_reducible apply Rd.dr | with_reducible apply Rd.dr1)) hb
  replace Sc : Rd u6 pc qc ([6148914691236517205]) := Rd.nx (by repeat (first | with_reducible exact Sc | with_reducible apply Rd.al | with_reducible apply Rd.dr | with_reducible apply Rd.dr1)) hb
  replace Sd : Rd u6 pd qd ([1]) := Rd.nx (by repeat (first | with_reducible exact Sd | with_reducible apply Rd.al | with_reducible apply Rd.dr | with_reducible apply Rd.dr1)) hb
  replace Se1 : Rd u6 pe1 qe1 ([]) := Rd.nx (by repeat (first | with_reducible exact Se1 | with_reducible apply Rd.al | with_reducible apply Rd.dr | with_reducible apply Rd.dr1)) hb
  replace Sf : Rd u6 pf qf ([5]) := Rd.nx (by repeat (first | with_reducible exact Sf | with_reducible apply Rd.al | with_reducible apply Rd.dr | with_reducible apply Rd.dr1)) hb
  replace Sh1 : Rd u6 ph1 qh1 ([]) := Rd.nx (by repeat (first | with_reducible exact Sh1 | with_reducible apply Rd.al | with_reducible apply Rd.dr | with_reducible apply Rd.dr1)) hb
  replace Sh2 : Rd u6 ph2 qh2 ([]) := Rd.nx (by repeat (first | with_reducible exact Sh2 | with_reducible apply Rd.al | with_reducible apply Rd.dr | with_reducible apply Rd.dr1)) hb
  replace Sx : Rd u6 px qx ([0, 1]) := Rd.nx (by repeat (first | with_reducible exact Sx | with_reducible apply Rd.al | with_reducible apply Rd.dr | with_reducible apply Rd.dr1)) hb
  replace K : Kp w u6 := Kp.nx (by repeat (first | with_reducible exact K | with_reducible apply Kp.al | with_reducible apply Kp.dr | with_reducible apply Kp.dr1)) hb
  have Sy : Rd u6 py qy ([1]) := ho.rd
  clear ho hb
  go_wp2_with fail
  refine (QL.same_yes (xs := [3]) (ys := [3]) (by repeat (first | with_reducible exact Sa | with_reducible apply Rd.al | with_reducible apply Rd.dr | with_reducible apply Rd.dr1)) (by repeat (first | exact Rd.litn [3] #[.int .u64 3] (ws_of _ (by decide +kernel)) rfl (by decide) (by simp) | with_reducible apply Rd.al)) rfl rfl (by decide) (by decide +kernel)).mono ?_; rintro e u7 ⟨rfl, hb⟩
  replace Sa : Rd u7 pa qa ([3]) := Rd.nx (by repeat (first | with_reducible exact Sa | with_reducible apply Rd.al | with_reducible apply Rd.dr | with_reducible apply Rd.dr1)) hb
  replace Sb : Rd u7 pb qb ([2]) := Rd.nx (by repeat (first | with_reducible exact Sb | with_reducible apply Rd.al | with_reducible apply Rd.dr | with_reducible apply Rd.dr1)) hb
  replace Sc : Rd u7 pc qc ([6148914691236517205]) := Rd.nx (by repeat (first | with_reducible exact Sc | with_reducible apply Rd.al | with_reducible apply Rd.dr | with_reducible apply Rd.dr1)) hb
  replace Sd : Rd u7 pd qd ([1]) := Rd.nx (by repeat (first | with_reducible exact Sd | with_reducible apply Rd.al | with_reducible apply Rd.dr | with_reducible apply Rd.dr1)) hb
  replace Se1 : Rd u7 pe1 qe1 ([]) := Rd.nx (by repeat (first | with_reducible exact Se1 | with_reducible apply Rd.al | with_reducible apply Rd.dr | with_reducible apply Rd.dr1)) hb
  replace Sf : Rd u7 pf qf ([5]) := Rd.nx (by repeat (first | with_reducible exact Sf | with_reducible apply Rd.al | with_reducible apply Rd.dr | with_reducible apply Rd.dr1)) hb
  replace Sh1 : Rd u7 ph1 qh1 ([]) := Rd.nx (by repeat (first | with_reducible exact Sh1 | with_reducible apply Rd.al | with_reducible apply Rd.dr | with_reducible apply Rd.dr1)) hb
  replace Sh2 : Rd u7 ph2 qh2 ([]) := Rd.nx (by repeat (first | with_reducible exact Sh2 | with_reducible apply Rd.al | with_reducible apply Rd.dr | with_reducible apply Rd.dr1)) hb
  replace Sx : Rd u7 px qx ([0, 1]) := Rd.nx (by repeat (first | with_reducible exact Sx | with_reducible apply Rd.al | with_reducible apply Rd.dr | with_reducible apply Rd.dr1)) hb
  replace Sy : Rd u7 py qy ([1]) := Rd.nx (by repeat (first | with_reducible exact Sy | with_reducible apply Rd.al | with_reducible apply Rd.dr | with_reducible apply Rd.dr1)) hb
  replace K : Kp w u7 := Kp.nx (by repeat (first | with_reducible exact K | with_reducible apply Kp.al | with_reducible apply Kp.dr | with_reducible apply Kp.dr1)) hb
  clear hb
  go_wp2_with fail
  refine (QL.same_yes (xs := [2]) (ys := [2]) (by repeat (first | with_reducible exact Sb | with_reducible apply Rd.al | with_reducible apply Rd.dr | with_reducible apply Rd.dr1)) (by repeat (first | exact Rd.litn [2] #[.int .u64 2] (ws_of _ (by decide +kernel)) rfl (by decide) (by simp) | with_reducible apply Rd.al)) rfl rfl (by decide) (by decide +kernel)).mono ?_; rintro e u8 ⟨rfl, hb⟩
  replace Sa : Rd u8 pa qa ([3]) := Rd.nx (by repeat (first | with_reducible exact Sa | with_reducible apply Rd.al | with_reducible apply Rd.dr | with_reducible apply Rd.dr1)) hb
  replace Sb : Rd u8 pb qb ([2]) := Rd.nx (by repeat (first | with_reducible exact Sb | with_reducible apply Rd.al | with_reducible apply Rd.dr | with_reducible apply Rd.dr1)) hb
  replace Sc : Rd u8 pc qc ([6148914691236517205]) := Rd.nx (by repeat (first | with_reducible exact Sc | with_reducible apply Rd.al | with_reducible apply Rd.dr | with_reducible apply Rd.dr1)) hb
  replace Sd : Rd u8 pd qd ([1]) := Rd.nx (by repeat (first | with_reducible exact Sd | with_reducible apply Rd.al | with_reducible apply Rd.dr | with_reducible apply Rd.dr1)) hb
  replace Se1 : Rd u8 pe1 qe1 ([]) := Rd.nx (by repeat (first | with_reducible exact Se1 | with_reducible apply Rd.al | with_reducible apply Rd.dr | with_reducible apply Rd.dr1)) hb
  replace Sf : Rd u8 pf qf ([5]) := Rd.nx (by repeat (first | with_reducible exact Sf | with_reducible apply Rd.al | with_reducible apply Rd.dr | with_reducible apply Rd.dr1)) hb
  replace Sh1 : Rd u8 ph1 qh1 ([]) := Rd.nx (by repeat (first | with_reducible exact Sh1 | with_reducible apply Rd.al | with_reducible apply Rd.dr | with_reducible apply Rd.dr1)) hb
  replace Sh2 : Rd u8 ph2 qh2 ([]) := Rd.nx (by repeat (first | with_reducible exact Sh2 | with_reducible apply Rd.al | with_reducible apply Rd.dr | with_reducible apply Rd.dr1)) hb
  replace Sx : Rd u8 px qx ([0, 1]) := Rd.nx (by repeat (first | with_reducible exact Sx | with_reducible apply Rd.al | with_reducible apply Rd.dr | with_reducible apply Rd.dr1)) hb
  replace Sy : Rd u8 py qy ([1]) := Rd.nx (by repeat (first | with_reducible exact Sy | with_reducible apply Rd.al | with_reducible apply Rd.dr | with_reducible apply Rd.dr1)) hb
  replace K : Kp w u8 := Kp.nx (by repeat (first | with_reducible exact K | with_reducible apply Kp.al | with_reducible apply Kp.dr | with_reducible apply Kp.dr1)) hb
  clear hb
  go_wp2_with fail
  refine (QL.same_yes (xs := [6148914691236517205]) (ys := [6148914691236517205]) (by repeat (first | with_reducible exact Sc | with_reducible apply Rd.al | with_reducible apply Rd.dr | with_reducible apply Rd.dr1)) (by repeat (first | exact Rd.litn [6148914691236517205] #[.int .u64 6148914691236517205] (ws_of _ (by decide +kernel)) rfl (by decide) (by simp) | with_reducible apply Rd.al)) rfl rfl (by decide) (by decide +kernel)).mono ?_; rintro e u9 ⟨rfl, hb⟩
  replace Sa : Rd u9 pa qa ([3]) := Rd.nx (by repeat (first | with_reducible exact Sa | with_reducible apply Rd.al | with_reducible apply Rd.dr | with_reducible apply Rd.dr1)) hb
  replace Sb : Rd u9 pb qb ([2]) := Rd.nx (by repeat (first | with_reducible exact Sb | with_reducible apply Rd.al | with_reducible apply Rd.dr | with_reducible apply Rd.dr1)) hb
  replace Sc : Rd u9 pc qc ([6148914691236517205]) := Rd.nx (by repeat (first | with_reducible exact Sc | with_reducible apply Rd.al | with_reducible apply Rd.dr | with_reducible apply Rd.dr1)) hb
  replace Sd : Rd u9 pd qd ([1]) := Rd.nx (by repeat (first | with_reducible exact Sd | with_reducible apply Rd.al | with_reducible apply Rd.dr | with_reducible apply Rd.dr1)) hb
  replace Se1 : Rd u9 pe1 qe1 ([]) := Rd.nx (by repeat (first | with_reducible exact Se1 | with_reducible apply Rd.al | with_reducible apply Rd.dr | with_reducible apply Rd.dr1)) hb
  replace Sf : Rd u9 pf qf ([5]) := Rd.nx (by repeat (first | with_reducible exact Sf | with_reducible apply Rd.al | with_reducible apply Rd.dr | with_reducible apply Rd.dr1)) hb
  replace Sh1 : Rd u9 ph1 qh1 ([]) := Rd.nx (by repeat (first | with_reducible exact Sh1 | with_reducible apply Rd.al | with_reducible apply Rd.dr | with_reducible apply Rd.dr1)) hb
  replace Sh2 : Rd u9 ph2 qh2 ([]) := Rd.nx (by repeat (first | with_reducible exact Sh2 | with_reducible apply Rd.al | with_reducible apply Rd.dr | with_reducible apply Rd.dr1)) hb
  replace Sx : Rd u9 px qx ([0, 1]) := Rd.nx (by repeat (first | with_reducible exact Sx | with_reducible apply Rd.al | with_reducible apply Rd.dr | with_reducible apply Rd.dr1)) hb
  replace Sy : Rd u9 py qy ([1]) := Rd.nx (by repeat (first | with_reducible exact Sy | with_reducible apply Rd.al | with_reducible apply Rd.dr | with_reducible apply Rd.dr1)) hb
  replace K : Kp w u9 := Kp.nx (by repeat (first | with_reducible exact K | with_reducible apply Kp.al | with_reducible apply Kp.dr | with_reducible apply Kp.dr1)) hb
  clear hb
  go_wp2_with fail
  refine (QL.same_yes (xs := [1]) (ys := [1]) (by repeat (first | with_reducible exact Sd | with_reducible apply Rd.al | with_reducible apply Rd.dr | with_reducible apply Rd.dr1)) (by repeat (first | exact Rd.litn [1] #[.int .u64 1] (ws_of _ (by decide +kernel)) rfl (by decide) (by simp) | with_reducible apply Rd.al)) rfl rfl (by decide) (by decide +kernel)).mono ?_; rintro e u10 ⟨rfl, hb⟩
  replace Sa : Rd u10 pa qa ([3]) := Rd.nx (by repeat (first | with_reducible exact Sa | with_reducible apply Rd.al | with_reducible apply Rd.dr | with_reducible apply Rd.dr1)) hb
  replace Sb : Rd u10 pb qb ([2]) := Rd.nx (by repeat (first | with_reducible exact Sb | with_reducible apply Rd.al | with_reducible apply Rd.dr | with_reducible apply Rd.dr1)) hb
  replace Sc : Rd u10 pc qc ([6148914691236517205]) := Rd.nx (by repeat (first | with_reducible exact Sc | with_reducible apply Rd.al | with_reducible apply Rd.dr | with_reducible apply Rd.dr1)) hb
  replace Sd : Rd u10 pd qd ([1]) := Rd.nx (by repeat (first | with_reducible exact Sd | with_reducible apply Rd.al | with_reducible apply Rd.dr | with_reducible apply Rd.dr1)) hb
  replace Se1 : Rd u10 pe1 qe1 ([]) := Rd.nx (by repeat (first | with_reducible exact Se1 | with_reducible apply Rd.al | with_reducible apply Rd.dr | with_reducible apply Rd.dr1)) hb
  replace Sf : Rd u10 pf qf ([5]) := Rd.nx (by repeat (first | with_reducible exact Sf | with_reducible apply Rd.al | with_reducible apply Rd.dr | with_reducible apply Rd.dr1)) hb
  replace Sh1 : Rd u10 ph1 qh1 ([]) := Rd.nx (by repeat (first | with_reducible exact Sh1 | with_reducible apply Rd.al | with_reducible apply Rd.dr | with_reducible apply Rd.dr1)) hb
  replace Sh2 : Rd u10 ph2 qh2 ([]) := Rd.nx (by repeat (first | with_reducible exact Sh2 | with_reducible apply Rd.al | with_reducible apply Rd.dr | with_reducible apply Rd.dr1)) hb
  replace Sx : Rd u10 px qx ([0, 1]) := Rd.nx (by repeat (first | with_reducible exact Sx | with_reducible apply Rd.al | with_reducible apply Rd.dr | with_reducible apply Rd.dr1)) hb
  replace Sy : Rd u10 py qy ([1]) := Rd.nx (by repeat (first | with_reducible exact Sy | with_reducible apply Rd.al | with_reducible apply Rd.dr | with_reducible apply Rd.dr1)) hb
  replace K : Kp w u10 := Kp.nx (by repeat (first | with_reducible exact K | with_reducible apply Kp.al | with_reducible apply Kp.dr | with_reducible apply Kp.dr1)) hb
  clear hb
  go_wp2_with fail
  refine (QL.same_yes (xs := [5]) (ys := [5]) (by repeat (first | with_reducible exact Sf | with_reducible apply Rd.al | with_reducible apply Rd.dr | with_reducible apply Rd.dr1)) (by repeat (first | exact Rd.litn [5] #[.int .u64 5] (ws_of _ (by decide +kernel)) rfl (by decide) (by simp) | with_reducible apply Rd.al)) rfl rfl (by decide) (by decide +kernel)).mono ?_; rintro e u11 ⟨rfl, hb⟩
  replace Sa : Rd u11 pa qa ([3]) := Rd.nx (by repeat (first | with_reducible exact Sa | with_reducible apply Rd.al | with_reducible apply Rd.dr | with_reducible apply Rd.dr1)) hb
  replace Sb : Rd u11 pb qb ([2]) := Rd.nx (by repeat (first | with_reducible exact Sb | with_reducible apply Rd.al | with_reducible apply Rd.dr | with_reducible apply Rd.dr1)) hb
  replace Sc : Rd u11 pc qc ([6148914691236517205]) := Rd.nx (by repeat (first | with_reducible exact Sc | with_reducible apply Rd.al | with_reducible apply Rd.dr | with_reducible apply Rd.dr1)) hb
  replace Sd : Rd u11 pd qd ([1]) := Rd.nx (by repeat (first | with_reducible exact Sd | with_reducible apply Rd.al | with_reducible apply Rd.dr | with_reducible apply Rd.dr1)) hb
  replace Se1 : Rd u11 pe1 qe1 ([]) := Rd.nx (by repeat (first | with_reducible exact Se1 | with_reducible apply Rd.al | with_reducible apply Rd.dr | with_reducible apply Rd.dr1)) hb
  replace Sf : Rd u11 pf qf ([5]) := Rd.nx (by repeat (first | with_reducible exact Sf | with_reducible apply Rd.al | with_reducible apply Rd.dr | with_reducible apply Rd.dr1)) hb
  replace Sh1 : Rd u11 ph1 qh1 ([]) := Rd.nx (by repeat (first | with_reducible exact Sh1 | with_reducible apply Rd.al | with_reducible apply Rd.dr | with_reducible apply Rd.dr1)) hb
  replace Sh2 : Rd u11 ph2 qh2 ([]) := Rd.nx (by repeat (first | with_reducible exact Sh2 | with_reducible apply Rd.al | with_reducible apply Rd.dr | with_reducible apply Rd.dr1)) hb
  replace Sx : Rd u11 px qx ([0, 1]) := Rd.nx (by repeat (first | with_reducible exact Sx | with_reducible apply Rd.al | with_reducible apply Rd.dr | with_reducible apply Rd.dr1)) hb
  replace Sy : Rd u11 py qy ([1]) := Rd.nx (by repeat (first | with_reducible exact Sy | with_reducible apply Rd.al | with_reducible apply Rd.dr | with_reducible apply Rd.dr1)) hb
  replace K : Kp w u11 := Kp.nx (by repeat (first | with_reducible exact K | with_reducible apply Kp.al | with_reducible apply Kp.dr | with_reducible apply Kp.dr1)) hb
  clear hb
  go_wp2_with fail
  refine (QR.gcd1 (zs := [6]) (xs := [12]) (ys := [18]) (by repeat (first | exact Rd.litn [12] #[.int .u64 12] (ws_of _ (by decide +kernel)) rfl (by decide) (by simp) | with_reducible apply Rd.al)) (by repeat (first | exact Rd.litn [18] #[.int .u64 18] (ws_of _ (by decide +kernel)) rfl (by decide) (by simp) | with_reducible apply Rd.al)) rfl rfl (by decide) (by decide) (L_of (by decide +kernel) (by decide +kernel) (by decide +kernel))).mono ?_; rintro e u12 ⟨pg1, qg1, rfl, ho, hb⟩
  replace Sa : Rd u12 pa qa ([3]) := Rd.nx (by repeat (first | with_reducible exact Sa | with_reducible apply Rd.al | with_reducible apply Rd.dr | with_reducible apply Rd.dr1)) hb
  replace Sb : Rd u12 pb qb ([2]) := Rd.nx (by repeat (first | with_reducible exact Sb | with_reducible apply Rd.al | with_reducible apply Rd.dr | with_reducible apply Rd.dr1)) hb
  replace Sc : Rd u12 pc qc ([6148914691236517205]) := Rd.nx (by repeat (first | with_reducible exact Sc | with_reducible apply Rd.al | with_reducible apply Rd.dr | with_reducible apply Rd.dr1)) hb
  replace Sd : Rd u12 pd qd ([1]) := Rd.nx (by repeat (first | with_reducible exact Sd | with_reducible apply Rd.al | with_reducible apply Rd.dr | with_reducible apply Rd.dr1)) hb
  replace Se1 : Rd u12 pe1 qe1 ([]) := Rd.nx (by repeat (first | with_reducible exact Se1 | with_reducible apply Rd.al | with_reducible apply Rd.dr | with_reducible apply Rd.dr1)) hb
  replace Sf : Rd u12 pf qf ([5]) := Rd.nx (by repeat (first | with_reducible exact Sf | with_reducible apply Rd.al | with_reducible apply Rd.dr | with_reducible apply Rd.dr1)) hb
  replace Sh1 : Rd u12 ph1 qh1 ([]) := Rd.nx (by repeat (first | with_reducible exact Sh1 | with_reducible apply Rd.al | with_reducible apply Rd.dr | with_reducible apply Rd.dr1)) hb
  replace Sh2 : Rd u12 ph2 qh2 ([]) := Rd.nx (by repeat (first | with_reducible exact Sh2 | with_reducible apply Rd.al | with_reducible apply Rd.dr | with_reducible apply Rd.dr1)) hb
  replace Sx : Rd u12 px qx ([0, 1]) := Rd.nx (by repeat (first | with_reducible exact Sx | with_reducible apply Rd.al | with_reducible apply Rd.dr | with_reducible apply Rd.dr1)) hb
  replace Sy : Rd u12 py qy ([1]) := Rd.nx (by repeat (first | with_reducible exact Sy | with_reducible apply Rd.al | with_reducible apply Rd.dr | with_reducible apply Rd.dr1)) hb
  replace K : Kp w u12 := Kp.nx (by repeat (first | with_reducible exact K | with_reducible apply Kp.al | with_reducible apply Kp.dr | with_reducible apply Kp.dr1)) hb
  have Sg1 : Rd u12 pg1 qg1 ([6]) := ho.rd
  clear ho hb
  go_wp2_with fail
  refine (QL.same_yes (xs := [6]) (ys := [6]) (by repeat (first | with_reducible exact Sg1 | with_reducible apply Rd.al | with_reducible apply Rd.dr | with_reducible apply Rd.dr1)) (by repeat (first | exact Rd.litn [6] #[.int .u64 6] (ws_of _ (by decide +kernel)) rfl (by decide) (by simp) | with_reducible apply Rd.al)) rfl rfl (by decide) (by decide +kernel)).mono ?_; rintro e u13 ⟨rfl, hb⟩
  replace Sa : Rd u13 pa qa ([3]) := Rd.nx (by repeat (first | with_reducible exact Sa | with_reducible apply Rd.al | with_reducible apply Rd.dr | with_reducible apply Rd.dr1)) hb
  replace Sb : Rd u13 pb qb ([2]) := Rd.nx (by repeat (first | with_reducible exact Sb | with_reducible apply Rd.al | with_reducible apply Rd.dr | with_reducible apply Rd.dr1)) hb
  replace Sc : Rd u13 pc qc ([6148914691236517205]) := Rd.nx (by repeat (first | with_reducible exact Sc | with_reducible apply Rd.al | with_reducible apply Rd.dr | with_reducible apply Rd.dr1)) hb
  replace Sd : Rd u13 pd qd ([1]) := Rd.nx (by repeat (first | with_reducible exact Sd | with_reducible apply Rd.al | with_reducible apply Rd.dr | with_reducible apply Rd.dr1)) hb
  replace Se1 : Rd u13 pe1 qe1 ([]) := Rd.nx (by repeat (first | with_reducible exact Se1 | with_reducible apply Rd.al | with_reducible apply Rd.dr | with_reducible apply Rd.dr1)) hb
  replace Sf : Rd u13 pf qf ([5]) := Rd.nx (by repeat (first | with_reducible exact Sf | with_reducible apply Rd.al | with_reducible apply Rd.dr | with_reducible apply Rd.dr1)) hb
  replace Sh1 : Rd u13 ph1 qh1 ([]) := Rd.nx (by repeat (first | with_reducible exact Sh1 | with_reducible apply Rd.al | with_reducible apply Rd.dr | with_reducible apply Rd.dr1)) hb
  replace Sh2 : Rd u13 ph2 qh2 ([]) := Rd.nx (by repeat (first | with_reducible exact Sh2 | with_reducible apply Rd.al | with_reducible apply Rd.dr | with_reducible apply Rd.dr1)) hb
  replace Sx : Rd u13 px qx ([0, 1]) := Rd.nx (by repeat (first | with_reducible exact Sx | with_reducible apply Rd.al | with_reducible apply Rd.dr | with_reducible apply Rd.dr1)) hb
  replace Sy : Rd u13 py qy ([1]) := Rd.nx (by repeat (first | with_reducible exact Sy | with_reducible apply Rd.al | with_reducible apply Rd.dr | with_reducible apply Rd.dr1)) hb
  replace Sg1 : Rd u13 pg1 qg1 ([6]) := Rd.nx (by repeat (first | with_reducible exact Sg1 | with_reducible apply Rd.al | with_reducible apply Rd.dr | with_reducible apply Rd.dr1)) hb
  replace K : Kp w u13 := Kp.nx (by repeat (first | with_reducible exact K | with_reducible apply Kp.al | with_reducible apply Kp.dr | with_reducible apply Kp.dr1)) hb
  clear hb
  go_wp2_with fail
  refine (QR.gcd1 (zs := [7]) (xs := []) (ys := [7]) (by exact Rd.nil _) (by repeat (first | exact Rd.litn [7] #[.int .u64 7] (ws_of _ (by decide +kernel)) rfl (by decide) (by simp) | with_reducible apply Rd.al)) rfl rfl (by decide) (by decide) (L_of (by decide +kernel) (by decide +kernel) (by decide +kernel))).mono ?_; rintro e u14 ⟨pg2, qg2, rfl, ho, hb⟩
  replace Sa : Rd u14 pa qa ([3]) := Rd.nx (by repeat (first | with_reducible exact Sa | with_reducible apply Rd.al | with_reducible apply Rd.dr | with_reducible apply Rd.dr1)) hb
  replace Sb : Rd u14 pb qb ([2]) := Rd.nx (by repeat (first | with_reducible exact Sb | with_reducible apply Rd.al | with_reducible apply Rd.dr | with_reducible apply Rd.dr1)) hb
  replace Sc : Rd u14 pc qc ([6148914691236517205]) := Rd.nx (by repeat (first | with_reducible exact Sc | with_reducible apply Rd.al | with_reducible apply Rd.dr | with_reducible apply Rd.dr1)) hb
  replace Sd : Rd u14 pd qd ([1]) := Rd.nx (by repeat (first | with_reducible exact Sd | with_reducible apply Rd.al | with_reducible apply Rd.dr | with_reducible apply Rd.dr1)) hb
  replace Se1 : Rd u14 pe1 qe1 ([]) := Rd.nx (by repeat (first | with_reducible exact Se1 | with_reducible apply Rd.al | with_reducible apply Rd.dr | with_reducible apply Rd.dr1)) hb
  replace Sf : Rd u14 pf qf ([5]) := Rd.nx (by repeat (first | with_reducible exact Sf | with_reducible apply Rd.al | with_reducible apply Rd.dr | with_reducible apply Rd.dr1)) hb
  replace Sh1 : Rd u14 ph1 qh1 ([]) := Rd.nx (by repeat (first | with_reducible exact Sh1 | with_reducible apply Rd.al | with_reducible apply Rd.dr | with_reducible apply Rd.dr1)) hb
  replace Sh2 : Rd u14 ph2 qh2 ([]) := Rd.nx (by repeat (first | with_reducible exact Sh2 | with_reducible apply Rd.al | with_reducible apply Rd.dr | with_reducible apply Rd.dr1)) hb
  replace Sx : Rd u14 px qx ([0, 1]) := Rd.nx (by repeat (first | with_reducible exact Sx | with_reducible apply Rd.al | with_reducible apply Rd.dr | with_reducible apply Rd.dr1)) hb
  replace Sy : Rd u14 py qy ([1]) := Rd.nx (by repeat (first | with_reducible exact Sy | with_reducible apply Rd.al | with_reducible apply Rd.dr | with_reducible apply Rd.dr1)) hb
  replace Sg1 : Rd u14 pg1 qg1 ([6]) := Rd.nx (by repeat (first | with_reducible exact Sg1 | with_reducible apply Rd.al | with_reducible apply Rd.dr | with_reducible apply Rd.dr1)) hb
  replace K : Kp w u14 := Kp.nx (by repeat (first | with_reducible exact K | with_reducible apply Kp.al | with_reducible apply Kp.dr | with_reducible apply Kp.dr1)) hb
  have Sg2 : Rd u14 pg2 qg2 ([7]) := ho.rd
  clear ho hb
  go_wp2_with fail
  refine (QL.same_yes (xs := [7]) (ys := [7]) (by repeat (first | with_reducible exact Sg2 | with_reducible apply Rd.al | with_reducible apply Rd.dr | with_reducible apply Rd.dr1)) (by repeat (first | exact Rd.litn [7] #[.int .u64 7] (ws_of _ (by decide +kernel)) rfl (by decide) (by simp) | with_reducible apply Rd.al)) rfl rfl (by decide) (by decide +kernel)).mono ?_; rintro e u15 ⟨rfl, hb⟩
  replace Sa : Rd u15 pa qa ([3]) := Rd.nx (by repeat (first | with_reducible exact Sa | with_reducible apply Rd.al | with_reducible apply Rd.dr | with_reducible apply Rd.dr1)) hb
  replace Sb : Rd u15 pb qb ([2]) := Rd.nx (by repeat (first | with_reducible exact Sb | with_reducible apply Rd.al | with_reducible apply Rd.dr | with_reducible apply Rd.dr1)) hb
  replace Sc : Rd u15 pc qc ([6148914691236517205]) := Rd.nx (by repeat (first | with_reducible exact Sc | with_reducible apply Rd.al | with_reducible apply Rd.dr | with_reducible apply Rd.dr1)) hb
  replace Sd : Rd u15 pd qd ([1]) := Rd.nx (by repeat (first | with_reducible exact Sd | with_reducible apply Rd.al | with_reducible apply Rd.dr | with_reducible apply Rd.dr1)) hb
  replace Se1 : Rd u15 pe1 qe1 ([]) := Rd.nx (by repeat (first | with_reducible exact Se1 | with_reducible apply Rd.al | with_reducible apply Rd.dr | with_reducible apply Rd.dr1)) hb
  replace Sf : Rd u15 pf qf ([5]) := Rd.nx (by repeat (first | with_reducible exact Sf | with_reducible apply Rd.al | with_reducible apply Rd.dr | with_reducible apply Rd.dr1)) hb
  replace Sh1 : Rd u15 ph1 qh1 ([]) := Rd.nx (by repeat (first | with_reducible exact Sh1 | with_reducible apply Rd.al | with_reducible apply Rd.dr | with_reducible apply Rd.dr1)) hb
  replace Sh2 : Rd u15 ph2 qh2 ([]) := Rd.nx (by repeat (first | with_reducible exact Sh2 | with_reducible apply Rd.al | with_reducible apply Rd.dr | with_reducible apply Rd.dr1)) hb
  replace Sx : Rd u15 px qx ([0, 1]) := Rd.nx (by repeat (first | with_reducible exact Sx | with_reducible apply Rd.al | with_reducible apply Rd.dr | with_reducible apply Rd.dr1)) hb
  replace Sy : Rd u15 py qy ([1]) := Rd.nx (by repeat (first | with_reducible exact Sy | with_reducible apply Rd.al | with_reducible apply Rd.dr | with_reducible apply Rd.dr1)) hb
  replace Sg1 : Rd u15 pg1 qg1 ([6]) := Rd.nx (by repeat (first | with_reducible exact Sg1 | with_reducible apply Rd.al | with_reducible apply Rd.dr | with_reducible apply Rd.dr1)) hb
  replace Sg2 : Rd u15 pg2 qg2 ([7]) := Rd.nx (by repeat (first | with_reducible exact Sg2 | with_reducible apply Rd.al | with_reducible apply Rd.dr | with_reducible apply Rd.dr1)) hb
  replace K : Kp w u15 := Kp.nx (by repeat (first | with_reducible exact K | with_reducible apply Kp.al | with_reducible apply Kp.dr | with_reducible apply Kp.dr1)) hb
  clear hb
  go_wp2_with fail
  refine (QL.same_yes (xs := [0, 1]) (ys := [0, 1]) (by repeat (first | with_reducible exact Sx | with_reducible apply Rd.al | with_reducible apply Rd.dr | with_reducible apply Rd.dr1)) (by repeat (first | exact Rd.litn [0, 1] #[.int .u64 0, .int .u64 1] (ws_of _ (by decide +kernel)) rfl (by decide) (by simp) | with_reducible apply Rd.al)) rfl rfl (by decide) (by decide +kernel)).mono ?_; rintro e u16 ⟨rfl, hb⟩
  replace Sa : Rd u16 pa qa ([3]) := Rd.nx (by repeat (first | with_reducible exact Sa | with_reducible apply Rd.al | with_reducible apply Rd.dr | with_reducible apply Rd.dr1)) hb
  replace Sb : Rd u16 pb qb ([2]) := Rd.nx (by repeat (first | with_reducible exact Sb | with_reducible apply Rd.al | with_reducible apply Rd.dr | with_reducible apply Rd.dr1)) hb
  replace Sc : Rd u16 pc qc ([6148914691236517205]) := Rd.nx (by repeat (first | with_reducible exact Sc | with_reducible apply Rd.al | with_reducible apply Rd.dr | with_reducible apply Rd.dr1)) hb
  replace Sd : Rd u16 pd qd ([1]) := Rd.nx (by repeat (first | with_reducible exact Sd | with_reducible apply Rd.al | with_reducible apply Rd.dr | with_reducible apply Rd.dr1)) hb
  replace Se1 : Rd u16 pe1 qe1 ([]) := Rd.nx (by repeat (first | with_reducible exact Se1 | with_reducible apply Rd.al | with_reducible apply Rd.dr | with_reducible apply Rd.dr1)) hb
  replace Sf : Rd u16 pf qf ([5]) := Rd.nx (by repeat (first | with_reducible exact Sf | with_reducible apply Rd.al | with_reducible apply Rd.dr | with_reducible apply Rd.dr1)) hb
  replace Sh1 : Rd u16 ph1 qh1 ([]) := Rd.nx (by repeat (first | with_reducible exact Sh1 | with_reducible apply Rd.al | with_reducible apply Rd.dr | with_reducible apply Rd.dr1)) hb
  replace Sh2 : Rd u16 ph2 qh2 ([]) := Rd.nx (by repeat (first | with_reducible exact Sh2 | with_reducible apply Rd.al | with_reducible apply Rd.dr | with_reducible apply Rd.dr1)) hb
  replace Sx : Rd u16 px qx ([0, 1]) := Rd.nx (by repeat (first | with_reducible exact Sx | with_reducible apply Rd.al | with_reducible apply Rd.dr | with_reducible apply Rd.dr1)) hb
  replace Sy : Rd u16 py qy ([1]) := Rd.nx (by repeat (first | with_reducible exact Sy | with_reducible apply Rd.al | with_reducible apply Rd.dr | with_reducible apply Rd.dr1)) hb
  replace Sg1 : Rd u16 pg1 qg1 ([6]) := Rd.nx (by repeat (first | with_reducible exact Sg1 | with_reducible apply Rd.al | with_reducible apply Rd.dr | with_reducible apply Rd.dr1)) hb
  replace Sg2 : Rd u16 pg2 qg2 ([7]) := Rd.nx (by repeat (first | with_reducible exact Sg2 | with_reducible apply Rd.al | with_reducible apply Rd.dr | with_reducible apply Rd.dr1)) hb
  replace K : Kp w u16 := Kp.nx (by repeat (first | with_reducible exact K | with_reducible apply Kp.al | with_reducible apply Kp.dr | with_reducible apply Kp.dr1)) hb
  clear hb
  go_wp2_with fail
  refine (QL.same_yes (xs := [1]) (ys := [1]) (by repeat (first | with_reducible exact Sy | with_reducible apply Rd.al | with_reducible apply Rd.dr | with_reducible apply Rd.dr1)) (by repeat (first | exact Rd.litn [1] #[.int .u64 1] (ws_of _ (by decide +kernel)) rfl (by decide) (by simp) | with_reducible apply Rd.al)) rfl rfl (by decide) (by decide +kernel)).mono ?_; rintro e u17 ⟨rfl, hb⟩
  replace Sa : Rd u17 pa qa ([3]) := Rd.nx (by repeat (first | with_reducible exact Sa | with_reducible apply Rd.al | with_reducible apply Rd.dr | with_reducible apply Rd.dr1)) hb
  replace Sb : Rd u17 pb qb ([2]) := Rd.nx (by repeat (first | with_reducible exact Sb | with_reducible apply Rd.al | with_reducible apply Rd.dr | with_reducible apply Rd.dr1)) hb
  replace Sc : Rd u17 pc qc ([6148914691236517205]) := Rd.nx (by repeat (first | with_reducible exact Sc | with_reducible apply Rd.al | with_reducible apply Rd.dr | with_reducible apply Rd.dr1)) hb
  replace Sd : Rd u17 pd qd ([1]) := Rd.nx (by repeat (first | with_reducible exact Sd | with_reducible apply Rd.al | with_reducible apply Rd.dr | with_reducible apply Rd.dr1)) hb
  replace Se1 : Rd u17 pe1 qe1 ([]) := Rd.nx (by repeat (first | with_reducible exact Se1 | with_reducible apply Rd.al | with_reducible apply Rd.dr | with_reducible apply Rd.dr1)) hb
  replace Sf : Rd u17 pf qf ([5]) := Rd.nx (by repeat (first | with_reducible exact Sf | with_reducible apply Rd.al | with_reducible apply Rd.dr | with_reducible apply Rd.dr1)) hb
  replace Sh1 : Rd u17 ph1 qh1 ([]) := Rd.nx (by repeat (first | with_reducible exact Sh1 | with_reducible apply Rd.al | with_reducible apply Rd.dr | with_reducible apply Rd.dr1)) hb
  replace Sh2 : Rd u17 ph2 qh2 ([]) := Rd.nx (by repeat (first | with_reducible exact Sh2 | with_reducible apply Rd.al | with_reducible apply Rd.dr | with_reducible apply Rd.dr1)) hb
  replace Sx : Rd u17 px qx ([0, 1]) := Rd.nx (by repeat (first | with_reducible exact Sx | with_reducible apply Rd.al | with_reducible apply Rd.dr | with_reducible apply Rd.dr1)) hb
  replace Sy : Rd u17 py qy ([1]) := Rd.nx (by repeat (first | with_reducible exact Sy | with_reducible apply Rd.al | with_reducible apply Rd.dr | with_reducible apply Rd.dr1)) hb
  replace Sg1 : Rd u17 pg1 qg1 ([6]) := Rd.nx (by repeat (first | with_reducible exact Sg1 | with_reducible apply Rd.al | with_reducible apply Rd.dr | with_reducible apply Rd.dr1)) hb
  replace Sg2 : Rd u17 pg2 qg2 ([7]) := Rd.nx (by repeat (first | with_reducible exact Sg2 | with_reducible apply Rd.al | with_reducible apply Rd.dr | with_reducible apply Rd.dr1)) hb
  replace K : Kp w u17 := Kp.nx (by repeat (first | with_reducible exact K | with_reducible apply Kp.al | with_reducible apply Kp.dr | with_reducible apply Kp.dr1)) hb
  clear hb
  go_wp2_with fail
  go_ret
  exact ⟨rfl, (by repeat (first | with_reducible exact K | with_reducible apply Kp.al | with_reducible apply Kp.dr | with_reducible apply Kp.dr1))⟩
end Go.Proofs.QL
