/- The statement NatNames: the examples; carries over many limbs; 0; shifts at their ends. A closed statement. -/
import Derived.Test.YtacjfbjhkogdaaaRows
import Derived.WalkKit
import Derived.ProofKit
import Derived.OpenShut
import Derived.Test.YtacjfbjhkogdaaaNatLaw
import Derived.ShutString
import Derived.Below
namespace Go.Proofs.Ytacjfbjhkogdaaa.natNames
open Go.ChangeShapes Go.WideShapes Go.ChangeAt Go.RowKit
open Go.Proofs
open Go.ChangeMaps (open_string shut_string)
set_option linter.unusedVariables false      -- a walk need not use every 'w<i>' (that an integer argument fits its kind)

theorem own : ownKnob Try.prog.godebug = none := by kernel_rfl

open Go.Proofs.NP Go.Proofs.SL Go.Proofs.NR Go.Lib
set_option linter.unusedSimpArgs false

theorem shlI {w : World} {a : Option Addr} {ca l : Nat} {xs zs : List Nat} (hx : Rd w a ca xs) (lx : xs.length = l) (h : l ≤ 100000) (z : Int) (i : Nat) (hz : z = (i : Int)) (hi : i ≤ 65536) (hzs : zs = L (V xs * 2 ^ i)) : Calls Try.prog 27 #[.slice a l ca, .int .i64 z] w (GivesE 34 w zs) := by
  subst hz; exact NR.shl_ok hx lx h i hi hzs
theorem shrI {w : World} {a : Option Addr} {ca l : Nat} {xs zs : List Nat} (hx : Rd w a ca xs) (lx : xs.length = l) (h : l ≤ 100000) (z : Int) (i : Nat) (hz : z = (i : Int)) (hi : i ≤ 65536) (hzs : zs = L (V xs / 2 ^ i)) : Calls Try.prog 28 #[.slice a l ca, .int .i64 z] w (GivesE 34 w zs) := by
  subst hz; exact NR.shr_ok hx lx h i hi hzs
theorem smallY {w : World} {a : Option Addr} {ca l : Nat} {xs : List Nat} (hx : Rd w a ca xs) (lx : xs.length = l) (h : l ≤ 100000) (z : Nat) (hz : z = V xs) (hv : V xs < 18446744073709551616) : Calls Try.prog 34 #[.slice a l ca] w fun e w' => e = .returned (.tuple #[.int .u64 (z : Nat), .bool true]) ∧ w = w' := by
  subst lx hz; exact NT.small_ok _ a ca xs w hx.sl (by omega) hv
theorem smallN {w : World} {a : Option Addr} {ca l : Nat} {xs : List Nat} (hx : Rd w a ca xs) (lx : xs.length = l) (h : l ≤ 100000) (hv : 18446744073709551616 ≤ V xs) : Calls Try.prog 34 #[.slice a l ca] w fun e w' => e = .returned (.tuple #[.int .u64 0, .bool false]) ∧ w = w' := by
  subst lx; exact NT.small_no _ a ca xs w hx.sl (by omega) hv
theorem pow_lim (n k : Nat) (h : n = 64 * k) : (2 : Nat) ^ n = 18446744073709551616 ^ k := by
  rw [h, Nat.pow_mul]
/-- the limbs of a power of 2 -/
theorem pow_len {xs : List Nat} {n k : Nat} (h : n = 64 * k) (hw : Ws xs) (hx : xs = L (2 ^ n)) : xs.length ≤ k + 1 ∧ k + 1 ≤ xs.length := by
  constructor
  · refine len_of hx ?_
    unfold Fits
    rw [pow_lim n k h]
    exact Nat.pow_lt_pow_right (by decide) (by omega)
  · rcases Nat.lt_or_ge k xs.length with h' | h'
    · exact h'
    · have h1 := V_lt hw
      have h2 : 18446744073709551616 ^ xs.length ≤ 18446744073709551616 ^ k := Nat.pow_le_pow_right (by decide) h'
      rw [hx, V_L, ← hx, pow_lim n k h] at h1
      omega
theorem pow_bitLen (n : Nat) : bitLen (2 ^ n) = n + 1 := bitLen_unique _ _ (Nat.le_refl _) (Nat.pow_lt_pow_right (by decide) (by omega))
theorem pow_bit (n : Nat) : true = (2 ^ n / 2 ^ n % 2 == 1) := by rw [Nat.div_self (Nat.two_pow_pos n)]; rfl
theorem pow_bit_below (n k : Nat) (h : n = k + 1) : false = (2 ^ n / 2 ^ k % 2 == 1) := by
  rw [h, Nat.pow_succ, Nat.mul_comm, Nat.mul_div_cancel _ (Nat.two_pow_pos k)]; rfl
theorem pow_bit_above (n k : Nat) (h : n < k) : false = (2 ^ n / 2 ^ k % 2 == 1) := by
  rw [Nat.div_eq_of_lt (Nat.pow_lt_pow_right (by decide) h)]; rfl
theorem pow_half (n k : Nat) (h : n = k + 1) : 2 ^ n / 2 ^ k = 2 := by
  rw [h, Nat.pow_succ, Nat.mul_comm, Nat.mul_div_cancel _ (Nat.two_pow_pos k)]

/-! ### STEP 1: THE WALK: the Go text returns true. 'Grown w w'': the world has at most new blocks (Derived/RowKit3.lean). Part the cases AHEAD of 'go_enter' where a test parts the walk; take each callee by a contract of your own. -/
set_option maxHeartbeats 4000000 in
set_option maxRecDepth 100000 in
theorem walk (w : World) :
    Calls Try.prog 11 #[] w fun e w' => e = .returned (.bool true) ∧ Below w.heap.size w w' := by
  have K : Kp w w := Kp.refl w
  obtain ⟨N, hN⟩ : ∃ N : Nat, N = 65536 := ⟨_, rfl⟩
  obtain ⟨M, hM⟩ : ∃ M : Nat, M = 65535 := ⟨_, rfl⟩
  have HN := Lib.hid hN; have HM := Lib.hid hM; clear hN hM
  go_enter Try.func11, Try.ntmps11
  go_wp2_with fail
  refine (LN.awake _).mono ?_; rintro e u1 ⟨rfl, hb⟩
  replace K : Kp w u1 := Kp.nx (by repeat (first | with_reducible exact K | with_reducible apply Kp.al | with_reducible apply Kp.dr | with_reducible apply Kp.dr1)) hb
  clear hb
  have So : Rd (u1.alloc (.cells #[.int .u64 18446744073709551615, .int .u64 18446744073709551615, .int .u64 18446744073709551615, .int .u64 18446744073709551615] 34)) (some ⟨u1.heap.size, 0, none⟩) 4 [18446744073709551615, 18446744073709551615, 18446744073709551615, 18446744073709551615] := Rd.litn [18446744073709551615, 18446744073709551615, 18446744073709551615, 18446744073709551615] _ (ws_of _ (by decide +kernel)) rfl (by decide) rfl
  go_wp2_with fail
  refine (NR.add (xs := [18446744073709551615, 18446744073709551615, 18446744073709551615, 18446744073709551615]) (ys := [1]) (zs := [0, 0, 0, 0, 1]) (by repeat (first | with_reducible exact So | with_reducible apply Rd.al | with_reducible apply Rd.dr | with_reducible apply Rd.dr1)) (by repeat (first | exact Rd.litn [1] #[.int .u64 1] (ws_of _ (by decide +kernel)) rfl (by decide) (by simp) | with_reducible apply Rd.al)) rfl rfl (by decide) (by decide)  (L_of (by decide +kernel) (by decide +kernel) (by decide +kernel))).mono ?_; rintro e u2 ⟨px, qx, rfl, ho, hb⟩
  replace So : Rd u2 (some ⟨u1.heap.size, 0, none⟩) 4 ([18446744073709551615, 18446744073709551615, 18446744073709551615, 18446744073709551615]) := Rd.nx (by repeat (first | with_reducible exact So | with_reducible apply Rd.al | with_reducible apply Rd.dr | with_reducible apply Rd.dr1)) hb
  replace K : Kp w u2 := Kp.nx (by repeat (first | with_reducible exact K | with_reducible apply Kp.al | with_reducible apply Kp.dr | with_reducible apply Kp.dr1)) hb
  have Sx : Rd u2 px qx ([0, 0, 0, 0, 1]) := ho.rd
  clear ho hb
  go_wp2_with fail
  refine (NR.sub_ok (xs := [0, 0, 0, 0, 1]) (ys := [1]) (zs := [18446744073709551615, 18446744073709551615, 18446744073709551615, 18446744073709551615]) (by repeat (first | with_reducible exact Sx | with_reducible apply Rd.al | with_reducible apply Rd.dr | with_reducible apply Rd.dr1)) (by repeat (first | exact Rd.litn [1] #[.int .u64 1] (ws_of _ (by decide +kernel)) rfl (by decide) (by simp) | with_reducible apply Rd.al)) rfl rfl (by decide) (by decide) (L_of (by decide +kernel) (by decide +kernel) (by decide +kernel)) (by decide +kernel)).mono ?_; rintro e u3 ⟨py, qy, rfl, ho, hb⟩
  replace So : Rd u3 (some ⟨u1.heap.size, 0, none⟩) 4 ([18446744073709551615, 18446744073709551615, 18446744073709551615, 18446744073709551615]) := Rd.nx (by repeat (first | with_reducible exact So | with_reducible apply Rd.al | with_reducible apply Rd.dr | with_reducible apply Rd.dr1)) hb
  replace Sx : Rd u3 px qx ([0, 0, 0, 0, 1]) := Rd.nx (by repeat (first | with_reducible exact Sx | with_reducible apply Rd.al | with_reducible apply Rd.dr | with_reducible apply Rd.dr1)) hb
  replace K : Kp w u3 := Kp.nx (by repeat (first | with_reducible exact K | with_reducible apply Kp.al | with_reducible apply Kp.dr | with_reducible apply Kp.dr1)) hb
  have Sy : Rd u3 py qy ([18446744073709551615, 18446744073709551615, 18446744073709551615, 18446744073709551615]) := ho.rd
  clear ho hb
  obtain ⟨jz, hjz⟩ : ∃ z : List Nat, z = L (2 ^ N) := ⟨_, rfl⟩
  have Nz : Hid (V jz = 2 ^ N) := Lib.hid (by rw [hjz, V_L])
  have lz := pow_len (k := 1024) HN.out (by rw [hjz]; exact Ws_L _) hjz
  obtain ⟨lz1, lz2⟩ := lz
  have Hz := Lib.hid hjz; clear hjz
  go_wp2_with fail
  refine (shlI (xs := [1]) (zs := jz) (by repeat (first | exact Rd.litn [1] #[.int .u64 1] (ws_of _ (by decide +kernel)) rfl (by decide) (by simp) | with_reducible apply Rd.al)) rfl (by decide) _ N (by have := HN.out; omega) (by have := HN.out; omega) (by rw [LN.V_one, Nat.one_mul]; exact Hz.out)).mono ?_; rintro e u4 ⟨pz, qz, rfl, ho, hb⟩
  replace So : Rd u4 (some ⟨u1.heap.size, 0, none⟩) 4 ([18446744073709551615, 18446744073709551615, 18446744073709551615, 18446744073709551615]) := Rd.nx (by repeat (first | with_reducible exact So | with_reducible apply Rd.al | with_reducible apply Rd.dr | with_reducible apply Rd.dr1)) hb
  replace Sx : Rd u4 px qx ([0, 0, 0, 0, 1]) := Rd.nx (by repeat (first | with_reducible exact Sx | with_reducible apply Rd.al | with_reducible apply Rd.dr | with_reducible apply Rd.dr1)) hb
  replace Sy : Rd u4 py qy ([18446744073709551615, 18446744073709551615, 18446744073709551615, 18446744073709551615]) := Rd.nx (by repeat (first | with_reducible exact Sy | with_reducible apply Rd.al | with_reducible apply Rd.dr | with_reducible apply Rd.dr1)) hb
  replace K : Kp w u4 := Kp.nx (by repeat (first | with_reducible exact K | with_reducible apply Kp.al | with_reducible apply Kp.dr | with_reducible apply Kp.dr1)) hb
  have Sz : Rd u4 pz qz (jz) := ho.rd
  clear ho hb
  go_wp2_with fail
  refine (shrI (xs := jz) (zs := [1]) (by repeat (first | with_reducible exact Sz | with_reducible apply Rd.al | with_reducible apply Rd.dr | with_reducible apply Rd.dr1)) rfl (by omega) _ N (by have := HN.out; omega) (by have := HN.out; omega) (by rw [Nz.out, Nat.div_self (Nat.two_pow_pos N)]; exact (L_of (by decide +kernel) (by decide +kernel) (by decide +kernel)))).mono ?_; rintro e u5 ⟨pv, qv, rfl, ho, hb⟩
  replace So : Rd u5 (some ⟨u1.heap.size, 0, none⟩) 4 ([18446744073709551615, 18446744073709551615, 18446744073709551615, 18446744073709551615]) := Rd.nx (by repeat (first | with_reducible exact So | with_reducible apply Rd.al | with_reducible apply Rd.dr | with_reducible apply Rd.dr1)) hb
  replace Sx : Rd u5 px qx ([0, 0, 0, 0, 1]) := Rd.nx (by repeat (first | with_reducible exact Sx | with_reducible apply Rd.al | with_reducible apply Rd.dr | with_reducible apply Rd.dr1)) hb
  replace Sy : Rd u5 py qy ([18446744073709551615, 18446744073709551615, 18446744073709551615, 18446744073709551615]) := Rd.nx (by repeat (first | with_reducible exact Sy | with_reducible apply Rd.al | with_reducible apply Rd.dr | with_reducible apply Rd.dr1)) hb
  replace Sz : Rd u5 pz qz (jz) := Rd.nx (by repeat (first | with_reducible exact Sz | with_reducible apply Rd.al | with_reducible apply Rd.dr | with_reducible apply Rd.dr1)) hb
  replace K : Kp w u5 := Kp.nx (by repeat (first | with_reducible exact K | with_reducible apply Kp.al | with_reducible apply Kp.dr | with_reducible apply Kp.dr1)) hb
  have Sv : Rd u5 pv qv ([1]) := ho.rd
  clear ho hb
  go_wp2_with fail
  refine (NT.shr_no _ _ _ _ _ (by omega)).mono ?_; rintro e w' ⟨rfl, rfl⟩
  go_wp2_with fail
  refine (shrI (xs := jz) (zs := [2]) (by repeat (first | with_reducible exact Sz | with_reducible apply Rd.al | with_reducible apply Rd.dr | with_reducible apply Rd.dr1)) rfl (by omega) _ M (by have := HM.out; omega) (by have := HM.out; omega) (by rw [Nz.out, pow_half N M (by have := HN.out; have := HM.out; omega)]; exact (L_of (by decide +kernel) (by decide +kernel) (by decide +kernel)))).mono ?_; rintro e u6 ⟨ph, qh, rfl, ho, hb⟩
  replace So : Rd u6 (some ⟨u1.heap.size, 0, none⟩) 4 ([18446744073709551615, 18446744073709551615, 18446744073709551615, 18446744073709551615]) := Rd.nx (by repeat (first | with_reducible exact So | with_reducible apply Rd.al | with_reducible apply Rd.dr | with_reducible apply Rd.dr1)) hb
  replace Sx : Rd u6 px qx ([0, 0, 0, 0, 1]) := Rd.nx (by repeat (first | with_reducible exact Sx | with_reducible apply Rd.al | with_reducible apply Rd.dr | with_reducible apply Rd.dr1)) hb
  replace Sy : Rd u6 py qy ([18446744073709551615, 18446744073709551615, 18446744073709551615, 18446744073709551615]) := Rd.nx (by repeat (first | with_reducible exact Sy | with_reducible apply Rd.al | with_reducible apply Rd.dr | with_reducible apply Rd.dr1)) hb
  replace Sz : Rd u6 pz qz (jz) := Rd.nx (by repeat (first | with_reducible exact Sz | with_reducible apply Rd.al | with_reducible apply Rd.dr | with_reducible apply Rd.dr1)) hb
  replace Sv : Rd u6 pv qv ([1]) := Rd.nx (by repeat (first | with_reducible exact Sv | with_reducible apply Rd.al | with_reducible apply Rd.dr | with_reducible apply Rd.dr1)) hb
  replace K : Kp w u6 := Kp.nx (by repeat (first | with_reducible exact K | with_reducible apply Kp.al | with_reducible apply Kp.dr | with_reducible apply Kp.dr1)) hb
  have Sh : Rd u6 ph qh ([2]) := ho.rd
  clear ho hb
  go_wp2_with fail
  refine (NR.sub_ok (xs := [18446744073709551615, 18446744073709551615, 18446744073709551615, 18446744073709551615]) (ys := [18446744073709551615, 18446744073709551615, 18446744073709551615, 18446744073709551615, 0, 0]) (zs := []) (by repeat (first | with_reducible exact So | with_reducible apply Rd.al | with_reducible apply Rd.dr | with_reducible apply Rd.dr1)) (by repeat (first | exact Rd.litn [18446744073709551615, 18446744073709551615, 18446744073709551615, 18446744073709551615, 0, 0] #[.int .u64 18446744073709551615, .int .u64 18446744073709551615, .int .u64 18446744073709551615, .int .u64 18446744073709551615, .int .u64 0, .int .u64 0] (ws_of _ (by decide +kernel)) rfl (by decide) (by simp) | with_reducible apply Rd.al)) rfl rfl (by decide) (by decide) (by decide +kernel) (by decide +kernel)).mono ?_; rintro e u7 ⟨pe, qe, rfl, ho, hb⟩
  replace So : Rd u7 (some ⟨u1.heap.size, 0, none⟩) 4 ([18446744073709551615, 18446744073709551615, 18446744073709551615, 18446744073709551615]) := Rd.nx (by repeat (first | with_reducible exact So | with_reducible apply Rd.al | with_reducible apply Rd.dr | with_reducible apply Rd.dr1)) hb
  replace Sx : Rd u7 px qx ([0, 0, 0, 0, 1]) := Rd.nx (by repeat (first | with_reducible exact Sx | with_reducible apply Rd.al | with_reducible apply Rd.dr | with_reducible apply Rd.dr1)) hb
  replace Sy : Rd u7 py qy ([18446744073709551615, 18446744073709551615, 18446744073709551615, 18446744073709551615]) := Rd.nx (by repeat (first | with_reducible exact Sy | with_reducible apply Rd.al | with_reducible apply Rd.dr | with_reducible apply Rd.dr1)) hb
  replace Sz : Rd u7 pz qz (jz) := Rd.nx (by repeat (first | with_reducible exact Sz | with_reducible apply Rd.al | with_reducible apply Rd.dr | with_reducible apply Rd.dr1)) hb
  replace Sv : Rd u7 pv qv ([1]) := Rd.nx (by repeat (first | with_reducible exact Sv | with_reducible apply Rd.al | with_reducible apply Rd.dr | with_reducible apply Rd.dr1)) hb
  replace Sh : Rd u7 ph qh ([2]) := Rd.nx (by repeat (first | with_reducible exact Sh | with_reducible apply Rd.al | with_reducible apply Rd.dr | with_reducible apply Rd.dr1)) hb
  replace K : Kp w u7 := Kp.nx (by repeat (first | with_reducible exact K | with_reducible apply Kp.al | with_reducible apply Kp.dr | with_reducible apply Kp.dr1)) hb
  have Se : Rd u7 pe qe ([]) := ho.rd
  clear ho hb
  go_wp2_with fail
  refine (smallY (xs := [5, 0, 0]) (by repeat (first | exact Rd.litn [5, 0, 0] #[.int .u64 5, .int .u64 0, .int .u64 0] (ws_of _ (by decide +kernel)) rfl (by decide) (by simp) | with_reducible apply Rd.al)) rfl (by decide) 5 (by decide +kernel) (by decide +kernel)).mono ?_; rintro e w' ⟨rfl, rfl⟩
  go_wp2_with fail
  refine (smallN (xs := [0, 0, 0, 0, 1]) (by repeat (first | with_reducible exact Sx | with_reducible apply Rd.al | with_reducible apply Rd.dr | with_reducible apply Rd.dr1)) rfl (by decide) (by decide +kernel)).mono ?_; rintro e w' ⟨rfl, rfl⟩
  go_wp2_with fail
  refine (smallY (xs := []) (by exact Rd.nil _) rfl (by decide) 0 rfl (by decide +kernel)).mono ?_; rintro e w' ⟨rfl, rfl⟩
  go_wp2_with fail
  refine (NR.same_yes (xs := [0, 0, 0, 0, 1]) (ys := [0, 0, 0, 0, 1]) (by repeat (first | with_reducible exact Sx | with_reducible apply Rd.al | with_reducible apply Rd.dr | with_reducible apply Rd.dr1)) (by repeat (first | exact Rd.litn [0, 0, 0, 0, 1] #[.int .u64 0, .int .u64 0, .int .u64 0, .int .u64 0, .int .u64 1] (ws_of _ (by decide +kernel)) rfl (by decide) (by simp) | with_reducible apply Rd.al)) rfl rfl (by decide) (by decide +kernel)).mono ?_; rintro e u8 ⟨rfl, hb⟩
  replace So : Rd u8 (some ⟨u1.heap.size, 0, none⟩) 4 ([18446744073709551615, 18446744073709551615, 18446744073709551615, 18446744073709551615]) := Rd.nx (by repeat (first | with_reducible exact So | with_reducible apply Rd.al | with_reducible apply Rd.dr | with_reducible apply Rd.dr1)) hb
  replace Sx : Rd u8 px qx ([0, 0, 0, 0, 1]) := Rd.nx (by repeat (first | with_reducible exact Sx | with_reducible apply Rd.al | with_reducible apply Rd.dr | with_reducible apply Rd.dr1)) hb
  replace Sy : Rd u8 py qy ([18446744073709551615, 18446744073709551615, 18446744073709551615, 18446744073709551615]) := Rd.nx (by repeat (first | with_reducible exact Sy | with_reducible apply Rd.al | with_reducible apply Rd.dr | with_reducible apply Rd.dr1)) hb
  replace Sz : Rd u8 pz qz (jz) := Rd.nx (by repeat (first | with_reducible exact Sz | with_reducible apply Rd.al | with_reducible apply Rd.dr | with_reducible apply Rd.dr1)) hb
  replace Sv : Rd u8 pv qv ([1]) := Rd.nx (by repeat (first | with_reducible exact Sv | with_reducible apply Rd.al | with_reducible apply Rd.dr | with_reducible apply Rd.dr1)) hb
  replace Sh : Rd u8 ph qh ([2]) := Rd.nx (by repeat (first | with_reducible exact Sh | with_reducible apply Rd.al | with_reducible apply Rd.dr | with_reducible apply Rd.dr1)) hb
  replace Se : Rd u8 pe qe ([]) := Rd.nx (by repeat (first | with_reducible exact Se | with_reducible apply Rd.al | with_reducible apply Rd.dr | with_reducible apply Rd.dr1)) hb
  replace K : Kp w u8 := Kp.nx (by repeat (first | with_reducible exact K | with_reducible apply Kp.al | with_reducible apply Kp.dr | with_reducible apply Kp.dr1)) hb
  clear hb
  go_wp2_with fail
  refine (NR.same_yes (xs := [18446744073709551615, 18446744073709551615, 18446744073709551615, 18446744073709551615]) (ys := [18446744073709551615, 18446744073709551615, 18446744073709551615, 18446744073709551615]) (by repeat (first | with_reducible exact Sy | with_reducible apply Rd.al | with_reducible apply Rd.dr | with_reducible apply Rd.dr1)) (by repeat (first | with_reducible exact So | with_reducible apply Rd.al | with_reducible apply Rd.dr | with_reducible apply Rd.dr1)) rfl rfl (by decide) (by decide +kernel)).mono ?_; rintro e u9 ⟨rfl, hb⟩
  replace So : Rd u9 (some ⟨u1.heap.size, 0, none⟩) 4 ([18446744073709551615, 18446744073709551615, 18446744073709551615, 18446744073709551615]) := Rd.nx (by repeat (first | with_reducible exact So | with_reducible apply Rd.al | with_reducible apply Rd.dr | with_reducible apply Rd.dr1)) hb
  replace Sx : Rd u9 px qx ([0, 0, 0, 0, 1]) := Rd.nx (by repeat (first | with_reducible exact Sx | with_reducible apply Rd.al | with_reducible apply Rd.dr | with_reducible apply Rd.dr1)) hb
  replace Sy : Rd u9 py qy ([18446744073709551615, 18446744073709551615, 18446744073709551615, 18446744073709551615]) := Rd.nx (by repeat (first | with_reducible exact Sy | with_reducible apply Rd.al | with_reducible apply Rd.dr | with_reducible apply Rd.dr1)) hb
  replace Sz : Rd u9 pz qz (jz) := Rd.nx (by repeat (first | with_reducible exact Sz | with_reducible apply Rd.al | with_reducible apply Rd.dr | with_reducible apply Rd.dr1)) hb
  replace Sv : Rd u9 pv qv ([1]) := Rd.nx (by repeat (first | with_reducible exact Sv | with_reducible apply Rd.al | with_reducible apply Rd.dr | with_reducible apply Rd.dr1)) hb
  replace Sh : Rd u9 ph qh ([2]) := Rd.nx (by repeat (first | with_reducible exact Sh | with_reducible apply Rd.al | with_reducible apply Rd.dr | with_reducible apply Rd.dr1)) hb
  replace Se : Rd u9 pe qe ([]) := Rd.nx (by repeat (first | with_reducible exact Se | with_reducible apply Rd.al | with_reducible apply Rd.dr | with_reducible apply Rd.dr1)) hb
  replace K : Kp w u9 := Kp.nx (by repeat (first | with_reducible exact K | with_reducible apply Kp.al | with_reducible apply Kp.dr | with_reducible apply Kp.dr1)) hb
  clear hb
  go_wp2_with fail
  refine (NR.len (xs := jz) (by repeat (first | with_reducible exact Sz | with_reducible apply Rd.al | with_reducible apply Rd.dr | with_reducible apply Rd.dr1)) rfl (by omega) 65537 (by rw [Nz.out, pow_bitLen]; have := HN.out; omega)).mono ?_; rintro e w' ⟨rfl, rfl⟩
  go_wp2_with fail
  refine (LN.bitI (xs := jz) (by repeat (first | with_reducible exact Sz | with_reducible apply Rd.al | with_reducible apply Rd.dr | with_reducible apply Rd.dr1)) rfl _ N (by have := HN.out; have := HM.out; omega) (by have := HN.out; have := HM.out; omega) true (by rw [Nz.out]; exact pow_bit N)).mono ?_; rintro e w' ⟨rfl, rfl⟩
  go_wp2_with fail
  refine (LN.bitI (xs := jz) (by repeat (first | with_reducible exact Sz | with_reducible apply Rd.al | with_reducible apply Rd.dr | with_reducible apply Rd.dr1)) rfl _ M (by have := HN.out; have := HM.out; omega) (by have := HN.out; have := HM.out; omega) false (by rw [Nz.out]; exact pow_bit_below N M (by have := HN.out; have := HM.out; omega))).mono ?_; rintro e w' ⟨rfl, rfl⟩
  go_wp2_with fail
  refine (NR.bit_no (xs := jz) (by repeat (first | with_reducible exact Sz | with_reducible apply Rd.al | with_reducible apply Rd.dr | with_reducible apply Rd.dr1)) rfl _ (by omega)).mono ?_; rintro e w' ⟨rfl, rfl⟩
  obtain ⟨P, hP⟩ : ∃ P : Nat, P = 4611686018427387904 := ⟨_, rfl⟩
  have HP := Lib.hid hP; clear hP
  go_wp2_with fail
  refine (LN.bitI (xs := jz) (by repeat (first | with_reducible exact Sz | with_reducible apply Rd.al | with_reducible apply Rd.dr | with_reducible apply Rd.dr1)) rfl _ P (by have := HP.out; omega) (by have := HP.out; omega) false (by rw [Nz.out]; exact pow_bit_above N P (by have := HN.out; have := HP.out; omega))).mono ?_; rintro e w' ⟨rfl, rfl⟩
  go_wp2_with fail
  refine (NR.same_yes (xs := [1]) (ys := [1]) (by repeat (first | with_reducible exact Sv | with_reducible apply Rd.al | with_reducible apply Rd.dr | with_reducible apply Rd.dr1)) (by repeat (first | exact Rd.litn [1] #[.int .u64 1] (ws_of _ (by decide +kernel)) rfl (by decide) (by simp) | with_reducible apply Rd.al)) rfl rfl (by decide) (by decide +kernel)).mono ?_; rintro e u10 ⟨rfl, hb⟩
  replace So : Rd u10 (some ⟨u1.heap.size, 0, none⟩) 4 ([18446744073709551615, 18446744073709551615, 18446744073709551615, 18446744073709551615]) := Rd.nx (by repeat (first | with_reducible exact So | with_reducible apply Rd.al | with_reducible apply Rd.dr | with_reducible apply Rd.dr1)) hb
  replace Sx : Rd u10 px qx ([0, 0, 0, 0, 1]) := Rd.nx (by repeat (first | with_reducible exact Sx | with_reducible apply Rd.al | with_reducible apply Rd.dr | with_reducible apply Rd.dr1)) hb
  replace Sy : Rd u10 py qy ([18446744073709551615, 18446744073709551615, 18446744073709551615, 18446744073709551615]) := Rd.nx (by repeat (first | with_reducible exact Sy | with_reducible apply Rd.al | with_reducible apply Rd.dr | with_reducible apply Rd.dr1)) hb
  replace Sz : Rd u10 pz qz (jz) := Rd.nx (by repeat (first | with_reducible exact Sz | with_reducible apply Rd.al | with_reducible apply Rd.dr | with_reducible apply Rd.dr1)) hb
  replace Sv : Rd u10 pv qv ([1]) := Rd.nx (by repeat (first | with_reducible exact Sv | with_reducible apply Rd.al | with_reducible apply Rd.dr | with_reducible apply Rd.dr1)) hb
  replace Sh : Rd u10 ph qh ([2]) := Rd.nx (by repeat (first | with_reducible exact Sh | with_reducible apply Rd.al | with_reducible apply Rd.dr | with_reducible apply Rd.dr1)) hb
  replace Se : Rd u10 pe qe ([]) := Rd.nx (by repeat (first | with_reducible exact Se | with_reducible apply Rd.al | with_reducible apply Rd.dr | with_reducible apply Rd.dr1)) hb
  replace K : Kp w u10 := Kp.nx (by repeat (first | with_reducible exact K | with_reducible apply Kp.al | with_reducible apply Kp.dr | with_reducible apply Kp.dr1)) hb
  clear hb
  go_wp2_with fail
  refine (NR.same_yes (xs := [2]) (ys := [2]) (by repeat (first | with_reducible exact Sh | with_reducible apply Rd.al | with_reducible apply Rd.dr | with_reducible apply Rd.dr1)) (by repeat (first | exact Rd.litn [2] #[.int .u64 2] (ws_of _ (by decide +kernel)) rfl (by decide) (by simp) | with_reducible apply Rd.al)) rfl rfl (by decide) (by decide +kernel)).mono ?_; rintro e u11 ⟨rfl, hb⟩
  replace So : Rd u11 (some ⟨u1.heap.size, 0, none⟩) 4 ([18446744073709551615, 18446744073709551615, 18446744073709551615, 18446744073709551615]) := Rd.nx (by repeat (first | with_reducible exact So | with_reducible apply Rd.al | with_reducible apply Rd.dr | with_reducible apply Rd.dr1)) hb
  replace Sx : Rd u11 px qx ([0, 0, 0, 0, 1]) := Rd.nx (by repeat (first | with_reducible exact Sx | with_reducible apply Rd.al | with_reducible apply Rd.dr | with_reducible apply Rd.dr1)) hb
  replace Sy : Rd u11 py qy ([18446744073709551615, 18446744073709551615, 18446744073709551615, 18446744073709551615]) := Rd.nx (by repeat (first | with_reducible exact Sy | with_reducible apply Rd.al | with_reducible apply Rd.dr | with_reducible apply Rd.dr1)) hb
  replace Sz : Rd u11 pz qz (jz) := Rd.nx (by repeat (first | with_reducible exact Sz | with_reducible apply Rd.al | with_reducible apply Rd.dr | with_reducible apply Rd.dr1)) hb
  replace Sv : Rd u11 pv qv ([1]) := Rd.nx (by repeat (first | with_reducible exact Sv | with_reducible apply Rd.al | with_reducible apply Rd.dr | with_reducible apply Rd.dr1)) hb
  replace Sh : Rd u11 ph qh ([2]) := Rd.nx (by repeat (first | with_reducible exact Sh | with_reducible apply Rd.al | with_reducible apply Rd.dr | with_reducible apply Rd.dr1)) hb
  replace Se : Rd u11 pe qe ([]) := Rd.nx (by repeat (first | with_reducible exact Se | with_reducible apply Rd.al | with_reducible apply Rd.dr | with_reducible apply Rd.dr1)) hb
  replace K : Kp w u11 := Kp.nx (by repeat (first | with_reducible exact K | with_reducible apply Kp.al | with_reducible apply Kp.dr | with_reducible apply Kp.dr1)) hb
  clear hb
  go_wp2_with fail
  refine (NR.zero (xs := []) (by exact Rd.nil _) rfl (by decide) true rfl).mono ?_; rintro e w' ⟨rfl, rfl⟩
  go_wp2_with fail
  refine (NR.zero (xs := [0, 0]) (by repeat (first | exact Rd.litn [0, 0] #[.int .u64 0, .int .u64 0] (ws_of _ (by decide +kernel)) rfl (by decide) (by simp) | with_reducible apply Rd.al)) rfl (by decide) true (by decide +kernel)).mono ?_; rintro e w' ⟨rfl, rfl⟩
  go_wp2_with fail
  refine (NR.zero (xs := [0, 1]) (by repeat (first | exact Rd.litn [0, 1] #[.int .u64 0, .int .u64 1] (ws_of _ (by decide +kernel)) rfl (by decide) (by simp) | with_reducible apply Rd.al)) rfl (by decide) false (by decide +kernel)).mono ?_; rintro e w' ⟨rfl, rfl⟩
  go_wp2_with fail
  refine (NR.cmp (xs := [0, 1]) (ys := [18446744073709551615]) (by repeat (first | exact Rd.litn [0, 1] #[.int .u64 0, .int .u64 1] (ws_of _ (by decide +kernel)) rfl (by decide) (by simp) | with_reducible apply Rd.al)) (by repeat (first | exact Rd.litn [18446744073709551615] #[.int .u64 18446744073709551615] (ws_of _ (by decide +kernel)) rfl (by decide) (by simp) | with_reducible apply Rd.al)) rfl rfl (by decide) (by decide) (1) (by decide +kernel)).mono ?_; rintro e w' ⟨rfl, rfl⟩
  go_wp2_with fail
  refine (NR.cmp (xs := [3, 0]) (ys := [3]) (by repeat (first | exact Rd.litn [3, 0] #[.int .u64 3, .int .u64 0] (ws_of _ (by decide +kernel)) rfl (by decide) (by simp) | with_reducible apply Rd.al)) (by repeat (first | exact Rd.litn [3] #[.int .u64 3] (ws_of _ (by decide +kernel)) rfl (by decide) (by simp) | with_reducible apply Rd.al)) rfl rfl (by decide) (by decide) (0) (by decide +kernel)).mono ?_; rintro e w' ⟨rfl, rfl⟩
  go_wp2_with fail
  refine (NR.mul (xs := [18446744073709551615, 18446744073709551615, 18446744073709551615, 18446744073709551615]) (ys := [0]) (zs := []) (by repeat (first | with_reducible exact So | with_reducible apply Rd.al | with_reducible apply Rd.dr | with_reducible apply Rd.dr1)) (by repeat (first | exact Rd.litn [0] #[.int .u64 0] (ws_of _ (by decide +kernel)) rfl (by decide) (by simp) | with_reducible apply Rd.al)) rfl rfl (by decide) (by decide)  (by decide +kernel)).mono ?_; rintro e u12 ⟨pq, qq, rfl, ho, hb⟩
  replace So : Rd u12 (some ⟨u1.heap.size, 0, none⟩) 4 ([18446744073709551615, 18446744073709551615, 18446744073709551615, 18446744073709551615]) := Rd.nx (by repeat (first | with_reducible exact So | with_reducible apply Rd.al | with_reducible apply Rd.dr | with_reducible apply Rd.dr1)) hb
  replace Sx : Rd u12 px qx ([0, 0, 0, 0, 1]) := Rd.nx (by repeat (first | with_reducible exact Sx | with_reducible apply Rd.al | with_reducible apply Rd.dr | with_reducible apply Rd.dr1)) hb
  replace Sy : Rd u12 py qy ([18446744073709551615, 18446744073709551615, 18446744073709551615, 18446744073709551615]) := Rd.nx (by repeat (first | with_reducible exact Sy | with_reducible apply Rd.al | with_reducible apply Rd.dr | with_reducible apply Rd.dr1)) hb
  replace Sz : Rd u12 pz qz (jz) := Rd.nx (by repeat (first | with_reducible exact Sz | with_reducible apply Rd.al | with_reducible apply Rd.dr | with_reducible apply Rd.dr1)) hb
  replace Sv : Rd u12 pv qv ([1]) := Rd.nx (by repeat (first | with_reducible exact Sv | with_reducible apply Rd.al | with_reducible apply Rd.dr | with_reducible apply Rd.dr1)) hb
  replace Sh : Rd u12 ph qh ([2]) := Rd.nx (by repeat (first | with_reducible exact Sh | with_reducible apply Rd.al | with_reducible apply Rd.dr | with_reducible apply Rd.dr1)) hb
  replace Se : Rd u12 pe qe ([]) := Rd.nx (by repeat (first | with_reducible exact Se | with_reducible apply Rd.al | with_reducible apply Rd.dr | with_reducible apply Rd.dr1)) hb
  replace K : Kp w u12 := Kp.nx (by repeat (first | with_reducible exact K | with_reducible apply Kp.al | with_reducible apply Kp.dr | with_reducible apply Kp.dr1)) hb
  have Sq : Rd u12 pq qq ([]) := ho.rd
  clear ho hb
  go_wp2_with fail
  go_ret
  exact ⟨rfl, Kp.below (by repeat (first | with_reducible exact K | with_reducible apply Kp.al | with_reducible apply Kp.dr | with_reducible apply Kp.dr1))⟩

/-! ### THE ROW's STEP: WRITTEN OUT: LEAVE IT -/
set_option maxRecDepth 100000 in
theorem lifted (os : Os) (started : os.Started) (H : Type) (enc : TypeId × Value → H) :
    ReturnsInHanded {} Try.checked os 11 .any (Rows.natNamesSpec.pre6 enc Try.prog Try.f11 Rows.natNamesRow.domain false) (Rows.natNamesSpec.post enc Try.prog Try.f11 false true false false) := by
  refine returnsInHanded_of_change (C := Try.checked) own started (by kernel_rfl) Try.func11
    (ChangeSpec.witness6 (enc := enc) (C := Try.checked) false ⟨#[], #[], []⟩ 8 (by kernel_rfl) (by kernel_rfl) (by kernel_rfl) (by kernel_rfl)) ?_
  intro W base args ds gs before hval0 hW hcnd _
  have hval : ∀ (j : Nat) t v, Try.f11.params[j]? = some t → args[j]? = some v → Value.okWide Try.prog W .any base t v := hval0
  have hW' := hW
  obtain ⟨p, q, hA0, hV, rfl, hfz, hnd⟩ := hW
  have hA : DataW.TrodAll enc Try.prog W 0 (fun _ => true) true Try.f11.params.toList args.toList ds p := hA0
  rw [Try.params11] at hA hval
  obtain ⟨rfl, rfl, rfl⟩ := trodAll_none hA
  obtain ⟨rfl, rfl⟩ := trodVars_none hV
  clear hA0 hval0
  simp only [List.append_nil] at hW'
  refine (walk  W).mono fun e W' ⟨he, hg⟩ => ?_
  subst he
  exact ⟨_, rfl, _, _, _, [], [], [], hW', trodAll_mk1 (shut_bool Try.underlying4 _), trodAll_mk0, rfl, hg.frame _, fun h => by cases h⟩

theorem over : Rows.natNamesRow.holds Try.pinned (OpenSpec.ofChange Rows.natNamesSpec) :=
  OpenClaim.holds_of_wide 11 Try.f11 rfl rfl rfl rfl rfl rfl rfl ⟨rfl, rfl, rfl, rfl, rfl⟩ rfl rfl rfl rfl rfl (by kernel_rfl) Try.func11 (by kernel_rfl)
    (of_decide_eq_true (by kernel_rfl)) (by unfold Func.isWrapper; first | (rw [if_pos (by decide +kernel)]; kernel_rfl) | (rw [if_neg (by decide +kernel)]; exact ⟨rfl, rfl⟩))
    (fun os started H enc _ => lifted os started H enc)

/-- ████ THE STATEMENT ████ -/
theorem proved : Rows.NatNamesSaid :=
  over
#print axioms proved
end Go.Proofs.Ytacjfbjhkogdaaa.natNames
