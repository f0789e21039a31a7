/- The examples of layer 2, as the program asks them. -/
import Derived.Test.YtacjfbjhkogdaaaNatR
namespace Go.Proofs.LN
open Go.RowKit
open Go.Proofs
open Go.Proofs.NP
open Go.Proofs.SL
open Go.Proofs.NR
set_option linter.unusedVariables false
set_option maxHeartbeats 2000000 in
set_option maxRecDepth 100000 in
theorem awake (w : World) : Calls Try.prog 13 #[] w fun e w' => e = .returned (.bool true) ∧ Kp w w' := by
  have Sa : Rd (w.alloc (.cells #[.int .u64 18446744073709551615] 34)) (some ⟨w.heap.size, 0, none⟩) 1 [18446744073709551615] := Rd.litn [18446744073709551615] _ (ws_of _ (by decide +kernel)) rfl (by decide +kernel) (by simp)
  have Sb : Rd ((w.alloc (.cells #[.int .u64 18446744073709551615] 34)).alloc (.cells #[.int .u64 1] 34)) (some ⟨w.heap.size + 1, 0, none⟩) 1 [1] := Rd.litn [1] _ (ws_of _ (by decide +kernel)) rfl (by decide +kernel) (by simp)
  have K : Kp w w := Kp.refl w
  go_enter Try.func13, Try.ntmps13
  go_wp2_with fail
  refine (NR.sub_ok (xs := [0, 1]) (ys := [1]) (zs := [18446744073709551615]) (by repeat (first | exact Rd.litn [0, 1] #[.int .u64 0, .int .u64 1] (ws_of _ (by decide +kernel)) rfl (by decide) (by simp) | with_reducible apply Rd.al)) (by repeat (first | with_reducible exact Sb | with_reducible apply Rd.al | with_reducible apply Rd.dr | with_reducible apply Rd.dr1)) rfl rfl (by decide) (by decide) (L_of (by decide +kernel) (by decide +kernel) (by decide +kernel)) (by decide +kernel)).mono ?_; rintro e w1 ⟨px, qx, rfl, ho, hb⟩
  replace Sa : Rd w1 (some ⟨w.heap.size, 0, none⟩) 1 ([18446744073709551615]) := Rd.nx (by repeat (first | with_reducible exact Sa | with_reducible apply Rd.al | with_reducible apply Rd.dr | with_reducible apply Rd.dr1)) hb
  replace Sb : Rd w1 (some ⟨w.heap.size + 1, 0, none⟩) 1 ([1]) := Rd.nx (by repeat (first | with_reducible exact Sb | with_reducible apply Rd.al | with_reducible apply Rd.dr | with_reducible apply Rd.dr1)) hb
  replace K : Kp w w1 := Kp.nx (by repeat (first | with_reducible exact K | with_reducible apply Kp.al | with_reducible apply Kp.dr | with_reducible apply Kp.dr1)) hb
  have Sx : Rd w1 px qx ([18446744073709551615]) := ho.rd
  clear ho hb
  go_wp2_with fail
  refine (NR.sub_no (xs := [1]) (ys := [2]) (by repeat (first | with_reducible exact Sb | with_reducible apply Rd.al | with_reducible apply Rd.dr | with_reducible apply Rd.dr1)) (by repeat (first | exact Rd.litn [2] #[.int .u64 2] (ws_of _ (by decide +kernel)) rfl (by decide) (by simp) | with_reducible apply Rd.al)) rfl rfl (by decide) (by decide)  (by decide +kernel)).mono ?_; rintro e w' ⟨rfl, rfl⟩
  go_wp2_with fail
  refine (NR.shl_ok (xs := [1]) (zs := [0, 1]) (by repeat (first | with_reducible exact Sb | with_reducible apply Rd.al | with_reducible apply Rd.dr | with_reducible apply Rd.dr1)) rfl (by decide) 64 (by decide) (L_of (by decide +kernel) (by decide +kernel) (by decide +kernel))).mono ?_; rintro e w2 ⟨py, qy, rfl, ho, hb⟩
  replace Sa : Rd w2 (some ⟨w.heap.size, 0, none⟩) 1 ([18446744073709551615]) := Rd.nx (by repeat (first | with_reducible exact Sa | with_reducible apply Rd.al | with_reducible apply Rd.dr | with_reducible apply Rd.dr1)) hb
  replace Sb : Rd w2 (some ⟨w.heap.size + 1, 0, none⟩) 1 ([1]) := Rd.nx (by repeat (first | with_reducible exact Sb | with_reducible apply Rd.al | with_reducible apply Rd.dr | with_reducible apply Rd.dr1)) hb
  replace Sx : Rd w2 px qx ([18446744073709551615]) := Rd.nx (by repeat (first | with_reducible exact Sx | with_reducible apply Rd.al | with_reducible apply Rd.dr | with_reducible apply Rd.dr1)) hb
  replace K : Kp w w2 := Kp.nx (by repeat (first | with_reducible exact K | with_reducible apply Kp.al | with_reducible apply Kp.dr | with_reducible apply Kp.dr1)) hb
  have Sy : Rd w2 py qy ([0, 1]) := ho.rd
  clear ho hb
  go_wp2_with fail
  refine (NT.shl_no _ _ _ 65537 _ (by decide +kernel)).mono ?_; rintro e w' ⟨rfl, rfl⟩
  go_wp2_with fail
  refine (NR.trim (xs := [1, 0]) (zs := [1]) (by repeat (first | exact Rd.litn [1, 0] #[.int .u64 1, .int .u64 0] (ws_of _ (by decide +kernel)) rfl (by decide) (by simp) | with_reducible apply Rd.al)) rfl (by decide)  (L_of (by decide +kernel) (by decide +kernel) (by decide +kernel))).mono ?_; rintro e w3 ⟨pt, qt, rfl, ho, hb⟩
  replace Sa : Rd w3 (some ⟨w.heap.size, 0, none⟩) 1 ([18446744073709551615]) := Rd.nx (by repeat (first | with_reducible exact Sa | with_reducible apply Rd.al | with_reducible apply Rd.dr | with_reducible apply Rd.dr1)) hb
  replace Sb : Rd w3 (some ⟨w.heap.size + 1, 0, none⟩) 1 ([1]) := Rd.nx (by repeat (first | with_reducible exact Sb | with_reducible apply Rd.al | with_reducible apply Rd.dr | with_reducible apply Rd.dr1)) hb
  replace Sx : Rd w3 px qx ([18446744073709551615]) := Rd.nx (by repeat (first | with_reducible exact Sx | with_reducible apply Rd.al | with_reducible apply Rd.dr | with_reducible apply Rd.dr1)) hb
  replace Sy : Rd w3 py qy ([0, 1]) := Rd.nx (by repeat (first | with_reducible exact Sy | with_reducible apply Rd.al | with_reducible apply Rd.dr | with_reducible apply Rd.dr1)) hb
  replace K : Kp w w3 := Kp.nx (by repeat (first | with_reducible exact K | with_reducible apply Kp.al | with_reducible apply Kp.dr | with_reducible apply Kp.dr1)) hb
  have St : Rd w3 pt qt ([1]) := ho.rd
  clear ho hb
  go_wp2_with fail
  refine (NR.same_yes (xs := [1]) (ys := [1]) (by repeat (first | with_reducible exact St | with_reducible apply Rd.al | with_reducible apply Rd.dr | with_reducible apply Rd.dr1)) (by repeat (first | with_reducible exact Sb | with_reducible apply Rd.al | with_reducible apply Rd.dr | with_reducible apply Rd.dr1)) rfl rfl (by decide) (by decide +kernel)).mono ?_; rintro e w4 ⟨rfl, hb⟩
  replace Sa : Rd w4 (some ⟨w.heap.size, 0, none⟩) 1 ([18446744073709551615]) := Rd.nx (by repeat (first | with_reducible exact Sa | with_reducible apply Rd.al | with_reducible apply Rd.dr | with_reducible apply Rd.dr1)) hb
  replace Sb : Rd w4 (some ⟨w.heap.size + 1, 0, none⟩) 1 ([1]) := Rd.nx (by repeat (first | with_reducible exact Sb | with_reducible apply Rd.al | with_reducible apply Rd.dr | with_reducible apply Rd.dr1)) hb
  replace Sx : Rd w4 px qx ([18446744073709551615]) := Rd.nx (by repeat (first | with_reducible exact Sx | with_reducible apply Rd.al | with_reducible apply Rd.dr | with_reducible apply Rd.dr1)) hb
  replace Sy : Rd w4 py qy ([0, 1]) := Rd.nx (by repeat (first | with_reducible exact Sy | with_reducible apply Rd.al | with_reducible apply Rd.dr | with_reducible apply Rd.dr1)) hb
  replace St : Rd w4 pt qt ([1]) := Rd.nx (by repeat (first | with_reducible exact St | with_reducible apply Rd.al | with_reducible apply Rd.dr | with_reducible apply Rd.dr1)) hb
  replace K : Kp w w4 := Kp.nx (by repeat (first | with_reducible exact K | with_reducible apply Kp.al | with_reducible apply Kp.dr | with_reducible apply Kp.dr1)) hb
  clear hb
  go_wp2_with fail
  refine (NR.add (xs := [18446744073709551615]) (ys := [1]) (zs := [0, 1]) (by repeat (first | with_reducible exact Sa | with_reducible apply Rd.al | with_reducible apply Rd.dr | with_reducible apply Rd.dr1)) (by repeat (first | with_reducible exact Sb | with_reducible apply Rd.al | with_reducible apply Rd.dr | with_reducible apply Rd.dr1)) rfl rfl (by decide) (by decide)  (L_of (by decide +kernel) (by decide +kernel) (by decide +kernel))).mono ?_; rintro e w5 ⟨ps, qs, rfl, ho, hb⟩
  replace Sa : Rd w5 (some ⟨w.heap.size, 0, none⟩) 1 ([18446744073709551615]) := Rd.nx (by repeat (first | with_reducible exact Sa | with_reducible apply Rd.al | with_reducible apply Rd.dr | with_reducible apply Rd.dr1)) hb
  replace Sb : Rd w5 (some ⟨w.heap.size + 1, 0, none⟩) 1 ([1]) := Rd.nx (by repeat (first | with_reducible exact Sb | with_reducible apply Rd.al | with_reducible apply Rd.dr | with_reducible apply Rd.dr1)) hb
  replace Sx : Rd w5 px qx ([18446744073709551615]) := Rd.nx (by repeat (first | with_reducible exact Sx | with_reducible apply Rd.al | with_reducible apply Rd.dr | with_reducible apply Rd.dr1)) hb
  replace Sy : Rd w5 py qy ([0, 1]) := Rd.nx (by repeat (first | with_reducible exact Sy | with_reducible apply Rd.al | with_reducible apply Rd.dr | with_reducible apply Rd.dr1)) hb
  replace St : Rd w5 pt qt ([1]) := Rd.nx (by repeat (first | with_reducible exact St | with_reducible apply Rd.al | with_reducible apply Rd.dr | with_reducible apply Rd.dr1)) hb
  replace K : Kp w w5 := Kp.nx (by repeat (first | with_reducible exact K | with_reducible apply Kp.al | with_reducible apply Kp.dr | with_reducible apply Kp.dr1)) hb
  have Ss : Rd w5 ps qs ([0, 1]) := ho.rd
  clear ho hb
  go_wp2_with fail
  refine (NR.same_yes (xs := [0, 1]) (ys := [0, 1]) (by repeat (first | with_reducible exact Ss | with_reducible apply Rd.al | with_reducible apply Rd.dr | with_reducible apply Rd.dr1)) (by repeat (first | exact Rd.litn [0, 1] #[.int .u64 0, .int .u64 1] (ws_of _ (by decide +kernel)) rfl (by decide) (by simp) | with_reducible apply Rd.al)) rfl rfl (by decide) (by decide +kernel)).mono ?_; rintro e w6 ⟨rfl, hb⟩
  replace Sa : Rd w6 (some ⟨w.heap.size, 0, none⟩) 1 ([18446744073709551615]) := Rd.nx (by repeat (first | with_reducible exact Sa | with_reducible apply Rd.al | with_reducible apply Rd.dr | with_reducible apply Rd.dr1)) hb
  replace Sb : Rd w6 (some ⟨w.heap.size + 1, 0, none⟩) 1 ([1]) := Rd.nx (by repeat (first | with_reducible exact Sb | with_reducible apply Rd.al | with_reducible apply Rd.dr | with_reducible apply Rd.dr1)) hb
  replace Sx : Rd w6 px qx ([18446744073709551615]) := Rd.nx (by repeat (first | with_reducible exact Sx | with_reducible apply Rd.al | with_reducible apply Rd.dr | with_reducible apply Rd.dr1)) hb
  replace Sy : Rd w6 py qy ([0, 1]) := Rd.nx (by repeat (first | with_reducible exact Sy | with_reducible apply Rd.al | with_reducible apply Rd.dr | with_reducible apply Rd.dr1)) hb
  replace St : Rd w6 pt qt ([1]) := Rd.nx (by repeat (first | with_reducible exact St | with_reducible apply Rd.al | with_reducible apply Rd.dr | with_reducible apply Rd.dr1)) hb
  replace Ss : Rd w6 ps qs ([0, 1]) := Rd.nx (by repeat (first | with_reducible exact Ss | with_reducible apply Rd.al | with_reducible apply Rd.dr | with_reducible apply Rd.dr1)) hb
  replace K : Kp w w6 := Kp.nx (by repeat (first | with_reducible exact K | with_reducible apply Kp.al | with_reducible apply Kp.dr | with_reducible apply Kp.dr1)) hb
  clear hb
  go_wp2_with fail
  refine (NR.mul (xs := [18446744073709551615]) (ys := [18446744073709551615]) (zs := [1, 18446744073709551614]) (by repeat (first | with_reducible exact Sa | with_reducible apply Rd.al | with_reducible apply Rd.dr | with_reducible apply Rd.dr1)) (by repeat (first | with_reducible exact Sa | with_reducible apply Rd.al | with_reducible apply Rd.dr | with_reducible apply Rd.dr1)) rfl rfl (by decide) (by decide)  (L_of (by decide +kernel) (by decide +kernel) (by decide +kernel))).mono ?_; rintro e w7 ⟨pp, qp, rfl, ho, hb⟩
  replace Sa : Rd w7 (some ⟨w.heap.size, 0, none⟩) 1 ([18446744073709551615]) := Rd.nx (by repeat (first | with_reducible exact Sa | with_reducible apply Rd.al | with_reducible apply Rd.dr | with_reducible apply Rd.dr1)) hb
  replace Sb : Rd w7 (some ⟨w.heap.size + 1, 0, none⟩) 1 ([1]) := Rd.nx (by repeat (first | with_reducible exact Sb | with_reducible apply Rd.al | with_reducible apply Rd.dr | with_reducible apply Rd.dr1)) hb
  replace Sx : Rd w7 px qx ([18446744073709551615]) := Rd.nx (by repeat (first | with_reducible exact Sx | with_reducible apply Rd.al | with_reducible apply Rd.dr | with_reducible apply Rd.dr1)) hb
  replace Sy : Rd w7 py qy ([0, 1]) := Rd.nx (by repeat (first | with_reducible exact Sy | with_reducible apply Rd.al | with_reducible apply Rd.dr | with_reducible apply Rd.dr1)) hb
  replace St : Rd w7 pt qt ([1]) := Rd.nx (by repeat (first | with_reducible exact St | with_reducible apply Rd.al | with_reducible apply Rd.dr | with_reducible apply Rd.dr1)) hb
  replace Ss : Rd w7 ps qs ([0, 1]) := Rd.nx (by repeat (first | with_reducible exact Ss | with_reducible apply Rd.al | with_reducible apply Rd.dr | with_reducible apply Rd.dr1)) hb
  replace K : Kp w w7 := Kp.nx (by repeat (first | with_reducible exact K | with_reducible apply Kp.al | with_reducible apply Kp.dr | with_reducible apply Kp.dr1)) hb
  have Sp : Rd w7 pp qp ([1, 18446744073709551614]) := ho.rd
  clear ho hb
  go_wp2_with fail
  refine (NR.same_yes (xs := [1, 18446744073709551614]) (ys := [1, 18446744073709551614]) (by repeat (first | with_reducible exact Sp | with_reducible apply Rd.al | with_reducible apply Rd.dr | with_reducible apply Rd.dr1)) (by repeat (first | exact Rd.litn [1, 18446744073709551614] #[.int .u64 1, .int .u64 18446744073709551614] (ws_of _ (by decide +kernel)) rfl (by decide) (by simp) | with_reducible apply Rd.al)) rfl rfl (by decide) (by decide +kernel)).mono ?_; rintro e w8 ⟨rfl, hb⟩
  replace Sa : Rd w8 (some ⟨w.heap.size, 0, none⟩) 1 ([18446744073709551615]) := Rd.nx (by repeat (first | with_reducible exact Sa | with_reducible apply Rd.al | with_reducible apply Rd.dr | with_reducible apply Rd.dr1)) hb
  replace Sb : Rd w8 (some ⟨w.heap.size + 1, 0, none⟩) 1 ([1]) := Rd.nx (by repeat (first | with_reducible exact Sb | with_reducible apply Rd.al | with_reducible apply Rd.dr | with_reducible apply Rd.dr1)) hb
  replace Sx : Rd w8 px qx ([18446744073709551615]) := Rd.nx (by repeat (first | with_reducible exact Sx | with_reducible apply Rd.al | with_reducible apply Rd.dr | with_reducible apply Rd.dr1)) hb
  replace Sy : Rd w8 py qy ([0, 1]) := Rd.nx (by repeat (first | with_reducible exact Sy | with_reducible apply Rd.al | with_reducible apply Rd.dr | with_reducible apply Rd.dr1)) hb
  replace St : Rd w8 pt qt ([1]) := Rd.nx (by repeat (first | with_reducible exact St | with_reducible apply Rd.al | with_reducible apply Rd.dr | with_reducible apply Rd.dr1)) hb
  replace Ss : Rd w8 ps qs ([0, 1]) := Rd.nx (by repeat (first | with_reducible exact Ss | with_reducible apply Rd.al | with_reducible apply Rd.dr | with_reducible apply Rd.dr1)) hb
  replace Sp : Rd w8 pp qp ([1, 18446744073709551614]) := Rd.nx (by repeat (first | with_reducible exact Sp | with_reducible apply Rd.al | with_reducible apply Rd.dr | with_reducible apply Rd.dr1)) hb
  replace K : Kp w w8 := Kp.nx (by repeat (first | with_reducible exact K | with_reducible apply Kp.al | with_reducible apply Kp.dr | with_reducible apply Kp.dr1)) hb
  clear hb
  go_wp2_with fail
  refine (NR.same_yes (xs := [18446744073709551615]) (ys := [18446744073709551615]) (by repeat (first | with_reducible exact Sx | with_reducible apply Rd.al | with_reducible apply Rd.dr | with_reducible apply Rd.dr1)) (by repeat (first | with_reducible exact Sa | with_reducible apply Rd.al | with_reducible apply Rd.dr | with_reducible apply Rd.dr1)) rfl rfl (by decide) (by decide +kernel)).mono ?_; rintro e w9 ⟨rfl, hb⟩
  replace Sa : Rd w9 (some ⟨w.heap.size, 0, none⟩) 1 ([18446744073709551615]) := Rd.nx (by repeat (first | with_reducible exact Sa | with_reducible apply Rd.al | with_reducible apply Rd.dr | with_reducible apply Rd.dr1)) hb
  replace Sb : Rd w9 (some ⟨w.heap.size + 1, 0, none⟩) 1 ([1]) := Rd.nx (by repeat (first | with_reducible exact Sb | with_reducible apply Rd.al | with_reducible apply Rd.dr | with_reducible apply Rd.dr1)) hb
  replace Sx : Rd w9 px qx ([18446744073709551615]) := Rd.nx (by repeat (first | with_reducible exact Sx | with_reducible apply Rd.al | with_reducible apply Rd.dr | with_reducible apply Rd.dr1)) hb
  replace Sy : Rd w9 py qy ([0, 1]) := Rd.nx (by repeat (first | with_reducible exact Sy | with_reducible apply Rd.al | with_reducible apply Rd.dr | with_reducible apply Rd.dr1)) hb
  replace St : Rd w9 pt qt ([1]) := Rd.nx (by repeat (first | with_reducible exact St | with_reducible apply Rd.al | with_reducible apply Rd.dr | with_reducible apply Rd.dr1)) hb
  replace Ss : Rd w9 ps qs ([0, 1]) := Rd.nx (by repeat (first | with_reducible exact Ss | with_reducible apply Rd.al | with_reducible apply Rd.dr | with_reducible apply Rd.dr1)) hb
  replace Sp : Rd w9 pp qp ([1, 18446744073709551614]) := Rd.nx (by repeat (first | with_reducible exact Sp | with_reducible apply Rd.al | with_reducible apply Rd.dr | with_reducible apply Rd.dr1)) hb
  replace K : Kp w w9 := Kp.nx (by repeat (first | with_reducible exact K | with_reducible apply Kp.al | with_reducible apply Kp.dr | with_reducible apply Kp.dr1)) hb
  clear hb
  go_wp2_with fail
  refine (NR.len (xs := []) (by exact Rd.nil _) rfl (by decide) 0 (by decide +kernel)).mono ?_; rintro e w' ⟨rfl, rfl⟩
  go_wp2_with fail
  refine (NR.len (xs := [255]) (by repeat (first | exact Rd.litn [255] #[.int .u64 255] (ws_of _ (by decide +kernel)) rfl (by decide) (by simp) | with_reducible apply Rd.al)) rfl (by decide) 8 (by decide +kernel)).mono ?_; rintro e w' ⟨rfl, rfl⟩
  go_wp2_with fail
  refine (NR.len (xs := [0, 1]) (by repeat (first | exact Rd.litn [0, 1] #[.int .u64 0, .int .u64 1] (ws_of _ (by decide +kernel)) rfl (by decide) (by simp) | with_reducible apply Rd.al)) rfl (by decide) 65 (by decide +kernel)).mono ?_; rintro e w' ⟨rfl, rfl⟩
  go_wp2_with fail
  refine (NR.same_yes (xs := [0, 1]) (ys := [0, 1]) (by repeat (first | with_reducible exact Sy | with_reducible apply Rd.al | with_reducible apply Rd.dr | with_reducible apply Rd.dr1)) (by repeat (first | exact Rd.litn [0, 1] #[.int .u64 0, .int .u64 1] (ws_of _ (by decide +kernel)) rfl (by decide) (by simp) | with_reducible apply Rd.al)) rfl rfl (by decide) (by decide +kernel)).mono ?_; rintro e w10 ⟨rfl, hb⟩
  replace Sa : Rd w10 (some ⟨w.heap.size, 0, none⟩) 1 ([18446744073709551615]) := Rd.nx (by repeat (first | with_reducible exact Sa | with_reducible apply Rd.al | with_reducible apply Rd.dr | with_reducible apply Rd.dr1)) hb
  replace Sb : Rd w10 (some ⟨w.heap.size + 1, 0, none⟩) 1 ([1]) := Rd.nx (by repeat (first | with_reducible exact Sb | with_reducible apply Rd.al | with_reducible apply Rd.dr | with_reducible apply Rd.dr1)) hb
  replace Sx : Rd w10 px qx ([18446744073709551615]) := Rd.nx (by repeat (first | with_reducible exact Sx | with_reducible apply Rd.al | with_reducible apply Rd.dr | with_reducible apply Rd.dr1)) hb
  replace Sy : Rd w10 py qy ([0, 1]) := Rd.nx (by repeat (first | with_reducible exact Sy | with_reducible apply Rd.al | with_reducible apply Rd.dr | with_reducible apply Rd.dr1)) hb
  replace St : Rd w10 pt qt ([1]) := Rd.nx (by repeat (first | with_reducible exact St | with_reducible apply Rd.al | with_reducible apply Rd.dr | with_reducible apply Rd.dr1)) hb
  replace Ss : Rd w10 ps qs ([0, 1]) := Rd.nx (by repeat (first | with_reducible exact Ss | with_reducible apply Rd.al | with_reducible apply Rd.dr | with_reducible apply Rd.dr1)) hb
  replace Sp : Rd w10 pp qp ([1, 18446744073709551614]) := Rd.nx (by repeat (first | with_reducible exact Sp | with_reducible apply Rd.al | with_reducible apply Rd.dr | with_reducible apply Rd.dr1)) hb
  replace K : Kp w w10 := Kp.nx (by repeat (first | with_reducible exact K | with_reducible apply Kp.al | with_reducible apply Kp.dr | with_reducible apply Kp.dr1)) hb
  clear hb
  go_wp2_with fail
  go_ret
  exact ⟨rfl, (by repeat (first | with_reducible exact K | with_reducible apply Kp.al | with_reducible apply Kp.dr | with_reducible apply Kp.dr1))⟩
end Go.Proofs.LN
