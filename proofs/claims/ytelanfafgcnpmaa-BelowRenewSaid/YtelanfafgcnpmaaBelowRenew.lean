/- The statement BelowRenew: m is above 2 to the power of the width less 1, and not above 2 to the power of the width; the cost is at least the width, and below twice that; it is the width, and, as often as a try fails, the cost again. No condition. -/
import Derived.Test.YtelanfafgcnpmaaRows
import Derived.WalkKit
import Derived.ProofKit
import Derived.OpenShut
import Derived.Test.YtelanfafgcnpmaaBelS
import Derived.Deep.RegionHeld3
import Derived.ShutString
import Derived.Below
namespace Go.Proofs.Ytelanfafgcnpmaa.belowRenew
open Go.ChangeShapes Go.WideShapes Go.ChangeAt Go.RowKit
open Go.Proofs
open Go.ChangeMaps (open_string shut_string)
set_option linter.unusedVariables false      -- a walk need not use every 'w<i>' (that an integer argument fits its kind)

theorem own : ownKnob Try.prog.godebug = none := by kernel_rfl

open Go.Proofs.BL Go.Proofs.SL Go.Proofs.RA Go.Proofs.NP
open Go.Proofs.NR (Fits)
set_option linter.unusedSimpArgs false

/-! ### STEP 1: THE WALK: the Go text returns true. 'Grown w w'': the world has at most new blocks (Derived/RowKit3.lean). Part the cases AHEAD of 'go_enter' where a test parts the walk; take each callee by a contract of your own. -/
set_option maxHeartbeats 8000000 in
set_option maxRecDepth 100000 in
theorem walk (a0 : Int) (w0 : (Lit.int .u64 a0).wf = true) (w : World) :
    Calls Try.prog 10 #[.int .u64 a0] w fun e w' => e = .returned (.bool true) ∧ Below w.heap.size w w' := by
  have hb2 := bounds_u64 w0
  obtain ⟨m, rfl⟩ : ∃ m : Nat, a0 = m := ⟨a0.toNat, by omega⟩
  have hm : m < 18446744073709551616 := by omega
  by_cases hm0 : m = 0
  · subst hm0
    show Calls Try.prog 10 #[.int .u64 0] w _
    go_enter Try.func10, Try.ntmps10
    go_wp2_with fail
    refine (awake _).mono ?_; rintro e w5 ⟨rfl, hb⟩
    have K := Lib.hid hb
    go_wp2_with fail
    go_ret
    exact ⟨rfl, K.out⟩
  have hm1 : ((m : Int) == 0) = false := by rw [beq_eq_false_iff_ne]; omega
  have hmp : 0 < m := by omega
  obtain ⟨z, hz⟩ : ∃ z, z = wid m := ⟨_, rfl⟩
  have hz64 : z ≤ 64 := by rw [hz]; exact wid_le m hm
  obtain ⟨P, hP⟩ : ∃ P, P = 2 ^ z := ⟨_, rfl⟩
  have hPm : m ≤ P := by rw [hP, hz]; exact lt_wid m hmp
  have hP64 : P ≤ 18446744073709551616 := by
    have : 2 ^ z ≤ 2 ^ 64 := Nat.pow_le_pow_right (by decide) hz64
    rw [hP]; exact this
  have hcN : cN m = z * P := by rw [cN, hP, hz]
  have hcf := cN_fits m hm
  -- the numbers on the way
  obtain ⟨F, hF⟩ : ∃ F, F = P - m := ⟨_, rfl⟩
  obtain ⟨x, hx⟩ : ∃ x, x = F / Nat.gcd F P := ⟨_, rfl⟩
  obtain ⟨y, hy⟩ : ∃ y, y = P / Nat.gcd F P := ⟨_, rfl⟩
  obtain ⟨x', hx'⟩ : ∃ x', x' = z * P / Nat.gcd (z * P) m := ⟨_, rfl⟩
  obtain ⟨y', hy'⟩ : ∃ y', y' = m / Nat.gcd (z * P) m := ⟨_, rfl⟩
  obtain ⟨N, hN⟩ : ∃ N, N = x / Nat.gcd x y * (x' / Nat.gcd x' y') := ⟨_, rfl⟩
  obtain ⟨D, hD⟩ : ∃ D, D = y / Nat.gcd x y * (y' / Nat.gcd x' y') := ⟨_, rfl⟩
  obtain ⟨n, hn⟩ : ∃ n, n = N / Nat.gcd N D := ⟨_, rfl⟩
  obtain ⟨d, hd⟩ : ∃ d, d = D / Nat.gcd N D := ⟨_, rfl⟩
  obtain ⟨N2, hN2⟩ : ∃ N2, N2 = z / Nat.gcd z 1 * (d / Nat.gcd n d) + n / Nat.gcd n d * (1 / Nat.gcd z 1) := ⟨_, rfl⟩
  obtain ⟨D2, hD2⟩ : ∃ D2, D2 = 1 / Nat.gcd z 1 * (d / Nat.gcd n d) := ⟨_, rfl⟩
  obtain ⟨hr1, hr2⟩ := renew hmp hPm hF x y x' y' N D n d N2 D2 hx hy hx' hy' hN hD hn hd hN2 hD2
  have p0 : 0 < P := by omega
  have py : 0 < y := by rw [hy]; exact red_pos p0
  have py' : 0 < y' := by rw [hy']; exact red_pos hmp
  have pD : 0 < D := by rw [hD]; exact Nat.mul_pos (red_pos py) (red_pos py')
  have pd : 0 < d := by rw [hd]; exact red_pos pD
  -- as words
  have FP : Fits P 2 := by unfold Fits; have : (18446744073709551616 : Nat) < 18446744073709551616 ^ 2 := by decide
                           omega
  have FF : Fits F 2 := by rw [hF]; exact FP.sub m
  have Fx : Fits x 2 := by rw [hx]; exact FF.div _
  have Fy : Fits y 2 := by rw [hy]; exact FP.div _
  have Fx' : Fits x' 2 := by rw [hx', ← hcN]; exact hcf.div _
  have Fy' : Fits y' 1 := by rw [hy']; exact Fits.div (by unfold Fits; omega) _
  have FN : Fits N 4 := by rw [hN]; exact Fits.mul (Fx.div _) (Fx'.div _)
  have FD : Fits D 3 := by rw [hD]; exact Fits.mul (Fy.div _) (Fy'.div _)
  have Fn : Fits n 4 := by rw [hn]; exact FN.div _
  have Fd : Fits d 3 := by rw [hd]; exact FD.div _
  obtain ⟨ps, hps⟩ : ∃ s, s = L x' := ⟨_, rfl⟩
  obtain ⟨qs, hqs⟩ : ∃ s, s = L y' := ⟨_, rfl⟩
  obtain ⟨bs, hbs⟩ : ∃ s, s = L z := ⟨_, rfl⟩
  obtain ⟨bs2, hbs2⟩ : ∃ s, s = L (2 * z) := ⟨_, rfl⟩
  obtain ⟨os, hos⟩ : ∃ s, s = [1] := ⟨_, rfl⟩
  obtain ⟨ts, hts⟩ : ∃ s, s = L P := ⟨_, rfl⟩
  obtain ⟨ms, hms⟩ : ∃ s, s = L m := ⟨_, rfl⟩
  obtain ⟨vs, hvs⟩ : ∃ s, s = L F := ⟨_, rfl⟩
  obtain ⟨xs, hxs⟩ : ∃ s, s = L x := ⟨_, rfl⟩
  obtain ⟨ys, hys⟩ : ∃ s, s = L y := ⟨_, rfl⟩
  obtain ⟨ns, hns⟩ : ∃ s, s = L n := ⟨_, rfl⟩
  obtain ⟨ds, hds⟩ : ∃ s, s = L d := ⟨_, rfl⟩
  have V1 : V os = 1 := by rw [hos]; exact LN.V_one
  have lps : ps.length ≤ 2 := by rw [hps]; exact Fx'.len
  have lqs : qs.length ≤ 1 := by rw [hqs]; exact Fy'.len
  have lbs : bs.length ≤ 1 := by rw [hbs]; exact L_len _ 1 (by omega)
  have lbs2 : bs2.length ≤ 1 := by rw [hbs2]; exact L_len _ 1 (by omega)
  have los : os.length ≤ 1 := by rw [hos]; decide
  have lts : ts.length ≤ 2 := by rw [hts]; exact FP.len
  have lms : ms.length ≤ 1 := by rw [hms]; exact L_len _ 1 (by omega)
  have lvs : vs.length ≤ 2 := by rw [hvs]; exact FF.len
  have lxs : xs.length ≤ 2 := by rw [hxs]; exact Fx.len
  have lys : ys.length ≤ 2 := by rw [hys]; exact Fy.len
  have lns : ns.length ≤ 4 := by rw [hns]; exact Fn.len
  have lds : ds.length ≤ 3 := by rw [hds]; exact Fd.len
  -- the calls
  have HW := Lib.hid (fun w1 => width1 m w1 hm z hz)
  have HS := Lib.hid (fun (w1 : World) (p : Option Addr) (c : Nat) (h : Rd w1 p c [1]) => NR.shl_ok (zs := ts) (l := 1) h rfl (by omega) z (by omega) (by rw [LN.V_one, Nat.one_mul, ← hP]; exact hts))
  have HO := Lib.hid (fun w1 => nof (zs := ms) m w1 hm hms)
  obtain ⟨c0, hc0⟩ : ∃ c, c = NT.cmpI m P := ⟨_, rfl⟩
  have hc0' : ¬ (0 < c0) := by rw [hc0]; have := cmpI_le hPm; omega
  have HC := Lib.hid (fun (w1 : World) (p q : Option Addr) (c d : Nat) (h1 : Rd w1 p c ms) (h2 : Rd w1 q d ts) => NR.cmp h1 h2 rfl rfl (by omega) (by omega) c0 (by rw [hms, hts, V_L, V_L]; exact hc0))
  have HK := Lib.hid (fun w1 => cost1 (us := ps) (vs := qs) m w1 hm hm0 (by rw [hps, hx', hcN]) (by rw [hqs, hy', hcN]))
  have O1 := Lib.hid (fun w1 => rof' (us := bs) (vs := os) z w1 (by omega) hbs hos)
  obtain ⟨t2, ht2⟩ : ∃ t, t = 2 * z := ⟨_, rfl⟩
  have O2 := Lib.hid (fun w1 => rof' (us := bs2) (vs := os) t2 w1 (by omega) (by rw [ht2]; exact hbs2) hos)
  obtain ⟨c1, hc1⟩ : ∃ c, c = NT.cmpI (x' / Nat.gcd x' y' * (1 / Nat.gcd z 1)) (z / Nat.gcd z 1 * (y' / Nat.gcd x' y')) := ⟨_, rfl⟩
  obtain ⟨c2, hc2⟩ : ∃ c, c = NT.cmpI (x' / Nat.gcd x' y' * (1 / Nat.gcd (2 * z) 1)) (2 * z / Nat.gcd (2 * z) 1 * (y' / Nat.gcd x' y')) := ⟨_, rfl⟩
  have hc1' : c1 = NT.cmpI (z * P) (z * m) := by rw [hc1, cmp_num (C := z * P) (m := m) hmp x' y' hx' hy']
  have hc2' : 1 < m → c2 = -1 := fun h1 => by
    rw [hc2, cmp_num (C := z * P) (m := m) hmp x' y' hx' hy', ← hcN, hz, cmpI_neg (cost_lt h1)]
  have K1 := Lib.hid (fun (w1 : World) (p q p' q' : Option Addr) (c d c' d' : Nat) (h1 : Rd w1 p c ps) (h2 : Rd w1 q d qs) (h3 : Rd w1 p' c' bs) (h4 : Rd w1 q' d' os) => rcmp h1 h2 rfl rfl h3 h4 rfl rfl (by omega) x' y' z 1 (by rw [hps, V_L]) (by rw [hqs, V_L]) (by rw [hbs, V_L]) V1 (by omega) (by decide) c1 hc1)
  have K2 := Lib.hid (fun (w1 : World) (p q p' q' : Option Addr) (c d c' d' : Nat) (h1 : Rd w1 p c ps) (h2 : Rd w1 q d qs) (h3 : Rd w1 p' c' bs2) (h4 : Rd w1 q' d' os) => rcmp h1 h2 rfl rfl h3 h4 rfl rfl (by omega) x' y' (2 * z) 1 (by rw [hps, V_L]) (by rw [hqs, V_L]) (by rw [hbs2, V_L]) V1 (by omega) (by decide) c2 hc2)
  have HSub := Lib.hid (fun (w1 : World) (p q : Option Addr) (c d : Nat) (h1 : Rd w1 p c ts) (h2 : Rd w1 q d ms) => NR.sub_ok (zs := vs) h1 h2 rfl rfl (by omega) (by omega) (by rw [hts, hms, V_L, V_L, ← hF]; exact hvs) (by rw [hts, hms, V_L, V_L]; exact hPm))
  have HM := Lib.hid (fun (w1 : World) (p q : Option Addr) (c d : Nat) (h1 : Rd w1 p c vs) (h2 : Rd w1 q d ts) => rmake (us := xs) (vs := ys) h1 h2 rfl rfl (by omega) (by omega) F P (by rw [hvs, V_L]) (by rw [hts, V_L]) (by omega) (by rw [hxs, hx]) (by rw [hys, hy]))
  have HMul := Lib.hid (fun (w1 : World) (p q p' q' : Option Addr) (c e c' e' : Nat) (h1 : Rd w1 p c xs) (h2 : Rd w1 q e ys) (h3 : Rd w1 p' c' ps) (h4 : Rd w1 q' e' qs) => rmul (ps := ns) (qs := ds) h1 h2 rfl rfl h3 h4 rfl rfl (by omega) x y x' y' N D (by rw [hxs, V_L]) (by rw [hys, V_L]) (by rw [hps, V_L]) (by rw [hqs, V_L]) (by omega) (by omega) hN hD (by rw [hns, hn]) (by rw [hds, hd]))
  have HAdd := Lib.hid (fun (w1 : World) (p q p' q' : Option Addr) (c e c' e' : Nat) (h1 : Rd w1 p c bs) (h2 : Rd w1 q e os) (h3 : Rd w1 p' c' ns) (h4 : Rd w1 q' e' ds) => radd (ps := ps) (qs := qs) h1 h2 rfl rfl h3 h4 rfl rfl (by omega) z 1 n d N2 D2 (by rw [hbs, V_L]) V1 (by rw [hns, V_L]) (by rw [hds, V_L]) (by decide) (by omega) hN2 hD2 (by rw [hps, hr1]) (by rw [hqs, hr2]))
  have HI := Lib.hid (fun (w1 : World) (p q p' q' : Option Addr) (c e c' e' : Nat) (h1 : Rd w1 p c ps) (h2 : Rd w1 p' c' ps) (h3 : Rd w1 q e qs) (h4 : Rd w1 q' e' qs) => is6 h1 h2 h3 h4 rfl rfl (by omega) (by omega))
  have hpw : 0 < z → ¬ ((m : Int) ≤ ((2 ^ (z - 1) : Nat) : Int)) := fun h => by
    have := wid_half (m := m) (by omega)
    rw [← hz] at this; omega
  have hfin : (¬ ((0 : Int) < (z : Int)) ∧ m = 1 ∧ c1 = 0) ∨ ∃ k Q : Nat, (0 : Int) < (z : Int) ∧ (z : Int) - 1 = (k : Int) ∧ IntKind.u64.wrap ((2 : Int) ^ k) = (Q : Int) ∧ ¬ ((m : Int) ≤ (Q : Int)) ∧ (1 : Int) < (m : Int) ∧ (c1 = 0 ∨ c1 = 1) ∧ c2 = -1 := by
    rcases Nat.eq_zero_or_pos z with h | h
    · left
      have h1 := wid_zero m hmp (by omega)
      refine ⟨by omega, by omega, ?_⟩
      rw [hc1', h, Nat.zero_mul, Nat.zero_mul]; rfl
    · right
      have h1 : 1 < m := by
        refine Nat.lt_of_not_le (fun h2 => ?_)
        have h3 : wid 1 = 0 := by decide +kernel
        rw [show m = 1 by omega, h3] at hz; omega
      obtain ⟨Q, hQ⟩ : ∃ Q, Q = 2 ^ (z - 1) := ⟨_, rfl⟩
      have h3 : 2 ^ (z - 1) ≤ 2 ^ 63 := Nat.pow_le_pow_right (by decide) (by omega)
      refine ⟨z - 1, Q, by omega, by omega, ?_, by rw [hQ]; exact hpw h, by omega, ?_, hc2' h1⟩
      · have h2 : (2 : Int) ^ (z - 1) = ((2 ^ (z - 1) : Nat) : Int) := by simp
        rw [h2, ← hQ, IntKind.wrap_u64]
        rw [← hQ] at h3
        omega
      · rw [hc1']
        have h4 := Nat.mul_le_mul_left z hPm
        unfold NT.cmpI
        rw [if_neg (by omega)]
        split
        · exact .inr rfl
        · exact .inl rfl
  have ht2' : 2 * (z : Int) = (t2 : Int) := by omega
  have ht3 : IntKind.i64.wrap (t2 : Int) = (t2 : Int) := by rw [IntKind.wrap_i64]; omega
  clear hm0 hmp hz hP hPm hP64 hcN hcf hF hx hy hx' hy' hN hD hn hd hN2 hD2 hr1 hr2 p0 py py' pD pd FP FF Fx Fy Fx' Fy' FN FD Fn Fd hps hqs hbs hbs2 hos hts hms hvs hxs hys hns hds V1 hc0 hc1 hc2 hc1' hc2' hpw ht2 hb2
  go_enter Try.func10, Try.ntmps10
  go_wp2_with fail
  refine (awake _).mono ?_; rintro e w1 ⟨rfl, hb⟩
  have K := Lib.hid hb
  clear hb
  go_wp2_with fail
  refine (HW.out _).mono ?_; rintro e w2 ⟨rfl, rfl⟩
  clear HW
  go_wp2_with fail
  have KL := (Kp.refl w1).al (.cells #[.int .u64 1] 22)
  have H1 := Lib.hid (Rd.lit (w := w1) (e := 22) [1] #[.int .u64 1] ws1 rfl (by decide))
  replace K := Lib.hid (Kp.nx K.out KL)
  clear KL
  generalize (w1.alloc (.cells #[.int .u64 1] 22)) = W1 at *
  refine (HS.out _ _ _ H1.out).mono ?_; rintro e w3 ⟨p1, d1, rfl, ho, hb⟩
  have RT := Lib.hid ho.rd
  replace K := Lib.hid (Kp.nx K.out hb)
  clear HS ho hb H1
  go_wp2_with fail
  refine (HO.out _).mono ?_; rintro e w4 ⟨p2, d2, rfl, ho, hb⟩
  have RM := Lib.hid ho.rd
  replace RT := Lib.hid (RT.out.nx hb)
  replace K := Lib.hid (Kp.nx K.out hb)
  clear ho hb
  go_wp2_with fail
  refine (HC.out _ _ _ _ _ RM.out RT.out).mono ?_; rintro e w5 ⟨rfl, rfl⟩
  clear HC RM
  rcases hfin with ⟨hz0, rfl, rfl⟩ | ⟨k, Q, hz0, hzk, hwk, hQm, hmm, rfl | rfl, rfl⟩
  all_goals
    go_wp2_with fail
    clear hz0
    try clear hzk hwk hQm
    refine (HK.out _).mono ?_; rintro e W6 ⟨p3, d3, q3, e3, rfl, ho3, ho4, hb⟩
    have X := Lib.hid (RatV.new ho3.rd ho4.rd)
    have KA := (Kp.nx hb ((Kp.refl _).al (.cells #[.bool false, .slice p3 ps.length d3, .slice q3 qs.length e3] 28)))
    replace K := Lib.hid (Kp.nx K.out KA)
    replace RT := Lib.hid (RT.out.nx KA)
    clear HK ho3 ho4 hb KA
    go_wp2_with fail
    generalize (W6.alloc (.cells #[.bool false, .slice p3 ps.length d3, .slice q3 qs.length e3] 28)) = Y at *
    obtain ⟨g1, hg1⟩ : ∃ g, W6.heap.size = g := ⟨_, rfl⟩
    rw [hg1] at X
    simp only [hg1]
    clear hg1
    have HV := Lib.hid (fun (W' : World) (hk : Kp Y W') => show RatV W' g1 p3 q3 d3 e3 ps qs from X.out.nx hk)
  rotate_left 1
  all_goals try (
    have hcase := hmm
    go_region_held3 (fun W => W.cell? ⟨g1, 0, none⟩ = some (.bool false) ∧ W.cell? ⟨g1, 1, none⟩ = some (.slice p3 ps.length d3) ∧ W.cell? ⟨g1, 2, none⟩ = some (.slice q3 qs.length e3))
      (first
        | exact (HV.out _ (Kp.refl _)).cs
        | exact (HV.out _ (Kp.refl _).dr1).cs
        | exact (HV.out _ ka).cs
        | exact (HV.out _ kb).cs
        | exact (HV.out _ kc).cs
        | exact (HV.out _ kd).cs)
      (first
        | (go_at_call 33; (with_reducible refine (O1.out _).mono ?_); rintro e wa ⟨p4, c4, q4, d4, rfl, ha1, ha2, ha3⟩; have ka := Kp.nx (Kp.refl Y).dr1 ha3; have kz := ka)
        | (go_at_call 29; (with_reducible refine (K1.out _ p3 q3 p4 q4 d3 e3 c4 d4 (HV.out _ ka).ru (HV.out _ ka).rv ha1.rd ha2.rd).mono ?_); rintro e wb ⟨rfl, hb3⟩; have kb := Kp.nx ka hb3; clear kz; have kz := kb)
        | (go_at_call 33; (with_reducible refine (O2.out _).mono ?_); rintro e wc ⟨p5, c5, q5, d5, rfl, hc1, hc2, hc3⟩; have kc := Kp.nx kb hc3)
        | (go_at_call 29; (with_reducible refine (K2.out _ p3 q3 p5 q5 d3 e3 c5 d5 (HV.out _ kc).ru (HV.out _ kc).rv hc1.rd hc2.rd).mono ?_); rintro e wd ⟨rfl, hd3⟩; have kd := Kp.nx kc hd3; clear kz; have kz := kd))
    replace K := Lib.hid (Kp.nx K.out kz)
    replace X := Lib.hid (X.out.nx kz)
    replace RT := Lib.hid (RT.out.nx kz)
    clear hcase hmm ha1 ha2 ha3 ka hb3 kb hc1 hc2 hc3 kc hd3 kd kz)
  rotate_left 2
  have kdr := (Kp.refl Y).dr1
  refine wp_region_held_drew (S := (fun W => W.cell? ⟨g1, 0, none⟩ = some (.bool false) ∧ W.cell? ⟨g1, 1, none⟩ = some (.slice p3 ps.length d3) ∧ W.cell? ⟨g1, 2, none⟩ = some (.slice q3 qs.length e3))) (by kernel_rfl) ?_ (fun hHeld => ?_)
  · exact (HV.out _ kdr).cs
  refine wpAnyH_take (i := 0) (v := ?vv0) rfl (by kernel_rfl) (by kernel_rfl) (by kernel_rfl) (fun _ _ _ h => h) (Or.inl ⟨by rfl, ?hy0⟩) (by assumption) ?_
  case hy0 =>
    intro w hSw
    try dsimp only at hSw
    go_simp
    try with_reducible rfl
  try simp only [Act.put, List.getElem_toArray, List.getElem_cons_zero, List.getElem_cons_succ, List.setIfInBounds_toArray, List.set_cons_zero, List.set_cons_succ]
  refine wpAnyH_take (i := 1) (v := ?vv1) rfl (by kernel_rfl) (by kernel_rfl) (by kernel_rfl) (fun _ _ _ h => h) (Or.inl ⟨by rfl, ?hy1⟩) (by assumption) ?_
  case hy1 =>
    intro w hSw
    try dsimp only at hSw
    go_simp
    try with_reducible rfl
  try simp only [Act.put, List.getElem_toArray, List.getElem_cons_zero, List.getElem_cons_succ, List.setIfInBounds_toArray, List.set_cons_zero, List.set_cons_succ]
  refine wpAnyH_take (i := 2) (v := ?vv2) rfl (by kernel_rfl) (by kernel_rfl) (by kernel_rfl) (fun _ _ _ h => h) (Or.inl ⟨by rfl, ?hy2⟩) (by assumption) ?_
  case hy2 =>
    intro w hSw
    try dsimp only at hSw
    go_simp
    try with_reducible rfl
  try simp only [Act.put, List.getElem_toArray, List.getElem_cons_zero, List.getElem_cons_succ, List.setIfInBounds_toArray, List.set_cons_zero, List.set_cons_succ]
  refine wpAnyH_take (i := 3) (v := ?vv3) rfl (by kernel_rfl) (by kernel_rfl) (by kernel_rfl) (fun _ _ _ h => h) (Or.inl ⟨by rfl, ?hy3⟩) (by assumption) ?_
  case hy3 =>
    intro w hSw
    try dsimp only at hSw
    go_simp
    try with_reducible rfl
  try simp only [Act.put, List.getElem_toArray, List.getElem_cons_zero, List.getElem_cons_succ, List.setIfInBounds_toArray, List.set_cons_zero, List.set_cons_succ]
  refine wpAnyH_take (i := 4) (v := ?vv4) rfl (by kernel_rfl) (by kernel_rfl) (by kernel_rfl) (fun _ _ _ h => h) (Or.inl ⟨by rfl, ?hy4⟩) (by assumption) ?_
  case hy4 =>
    intro w hSw
    try dsimp only at hSw
    go_simp
    try with_reducible rfl
  try simp only [Act.put, List.getElem_toArray, List.getElem_cons_zero, List.getElem_cons_succ, List.setIfInBounds_toArray, List.set_cons_zero, List.set_cons_succ]
  refine wpAnyH_ready (rs := [5]) (by kernel_rfl) (by simp) ?_
  refine AllReadyH.cons rfl (fun K hK => ?_) AllReadyH.nil
  go_simp
  (go_at_call 33; refine (O1.out _).mono ?_; rintro e wa ⟨p4, c4, q4, d4, rfl, ha1, ha2, ha3⟩; have ka := Kp.nx (Kp.refl Y).dr1 ha3)
  try go_wp2_with fail
  refine hK.out _ _ ?_ (fun hHeld => ?_)
  · exact (HV.out _ ka).cs
  clear hK K
  try simp only [Act.put, List.getElem_toArray, List.getElem_cons_zero, List.getElem_cons_succ, List.setIfInBounds_toArray, List.set_cons_zero, List.set_cons_succ]
  refine wpAnyH_ready (rs := [6]) (by kernel_rfl) (by simp) ?_
  refine AllReadyH.cons rfl (fun K hK => ?_) AllReadyH.nil
  go_simp
  (go_at_call 29; refine (K1.out _ p3 q3 p4 q4 d3 e3 c4 d4 (HV.out _ ka).ru (HV.out _ ka).rv ha1.rd ha2.rd).mono ?_; rintro e wb ⟨rfl, hb3⟩; have kb := Kp.nx ka hb3)
  try go_wp2_with fail
  refine hK.out _ _ ?_ (fun hHeld => ?_)
  · exact (HV.out _ kb).cs
  clear hK K
  try simp only [Act.put, List.getElem_toArray, List.getElem_cons_zero, List.getElem_cons_succ, List.setIfInBounds_toArray, List.set_cons_zero, List.set_cons_succ]
  refine wpAnyH_take (i := 7) (v := ?vv7) rfl (by kernel_rfl) (by kernel_rfl) (by kernel_rfl) (fun _ _ _ h => h) (Or.inl ⟨by rfl, ?hy7⟩) (by assumption) ?_
  case hy7 =>
    intro w hSw
    try dsimp only at hSw
    go_simp
    try with_reducible rfl
  try simp only [Act.put, List.getElem_toArray, List.getElem_cons_zero, List.getElem_cons_succ, List.setIfInBounds_toArray, List.set_cons_zero, List.set_cons_succ]
  refine wpAnyH_take (i := 8) (v := ?vv8) rfl (by kernel_rfl) (by kernel_rfl) (by kernel_rfl) (fun _ _ _ h => h) (Or.inl ⟨by rfl, ?hy8⟩) (by assumption) ?_
  case hy8 =>
    intro w hSw
    try dsimp only at hSw
    go_simp
    try with_reducible rfl
  try simp only [Act.put, List.getElem_toArray, List.getElem_cons_zero, List.getElem_cons_succ, List.setIfInBounds_toArray, List.set_cons_zero, List.set_cons_succ]
  refine wpAnyH_take (i := 9) (v := ?vv9) rfl (by kernel_rfl) (by kernel_rfl) (by kernel_rfl) (fun _ _ _ h => h) (Or.inl ⟨by rfl, ?hy9⟩) (by assumption) ?_
  case hy9 =>
    intro w hSw
    try dsimp only at hSw
    go_simp
    try with_reducible rfl
  try simp only [Act.put, List.getElem_toArray, List.getElem_cons_zero, List.getElem_cons_succ, List.setIfInBounds_toArray, List.set_cons_zero, List.set_cons_succ]
  refine wpAnyH_take (i := 10) (v := ?vv10) rfl (by kernel_rfl) (by kernel_rfl) (by kernel_rfl) (fun _ _ _ h => h) (Or.inl ⟨by rfl, ?hy10⟩) (by assumption) ?_
  case hy10 =>
    intro w hSw
    try dsimp only at hSw
    go_simp
    try with_reducible rfl
  try simp only [Act.put, List.getElem_toArray, List.getElem_cons_zero, List.getElem_cons_succ, List.setIfInBounds_toArray, List.set_cons_zero, List.set_cons_succ]
  refine wpAnyH_take (i := 11) (v := ?vv11) rfl (by kernel_rfl) (by kernel_rfl) (by kernel_rfl) (fun _ _ _ h => h) (Or.inl ⟨by rfl, ?hy11⟩) (by assumption) ?_
  case hy11 =>
    intro w hSw
    try dsimp only at hSw
    go_simp
    try with_reducible rfl
  try simp only [Act.put, List.getElem_toArray, List.getElem_cons_zero, List.getElem_cons_succ, List.setIfInBounds_toArray, List.set_cons_zero, List.set_cons_succ]
  refine wpAnyH_take (i := 12) (v := ?vv12) rfl (by kernel_rfl) (by kernel_rfl) (by kernel_rfl) (fun _ _ _ h => h) (Or.inl ⟨by rfl, ?hy12⟩) (by assumption) ?_
  case hy12 =>
    intro w hSw
    try dsimp only at hSw
    go_simp
    try with_reducible rfl
  try simp only [Act.put, List.getElem_toArray, List.getElem_cons_zero, List.getElem_cons_succ, List.setIfInBounds_toArray, List.set_cons_zero, List.set_cons_succ]
  refine wpAnyH_take (i := 13) (v := undef) rfl (by kernel_rfl) (by kernel_rfl) (by kernel_rfl) (fun _ _ _ h => h) (Or.inr ⟨by rfl, rfl⟩) (by assumption) ?_
  try simp only [Act.put, List.getElem_toArray, List.getElem_cons_zero, List.getElem_cons_succ, List.setIfInBounds_toArray, List.set_cons_zero, List.set_cons_succ]
  refine wpAnyH_take (i := 14) (v := undef) rfl (by kernel_rfl) (by kernel_rfl) (by kernel_rfl) (fun _ _ _ h => h) (Or.inr ⟨by rfl, rfl⟩) (by assumption) ?_
  try simp only [Act.put, List.getElem_toArray, List.getElem_cons_zero, List.getElem_cons_succ, List.setIfInBounds_toArray, List.set_cons_zero, List.set_cons_succ]
  refine wpAnyH_take (i := 15) (v := undef) rfl (by kernel_rfl) (by kernel_rfl) (by kernel_rfl) (fun _ _ _ h => h) (Or.inr ⟨by rfl, rfl⟩) (by assumption) ?_
  try simp only [Act.put, List.getElem_toArray, List.getElem_cons_zero, List.getElem_cons_succ, List.setIfInBounds_toArray, List.set_cons_zero, List.set_cons_succ]
  refine wpAnyH_take (i := 16) (v := undef) rfl (by kernel_rfl) (by kernel_rfl) (by kernel_rfl) (fun _ _ _ h => h) (Or.inr ⟨by rfl, rfl⟩) (by assumption) ?_
  try simp only [Act.put, List.getElem_toArray, List.getElem_cons_zero, List.getElem_cons_succ, List.setIfInBounds_toArray, List.set_cons_zero, List.set_cons_succ]
  refine wpAnyH_take (i := 17) (v := undef) rfl (by kernel_rfl) (by kernel_rfl) (by kernel_rfl) (fun _ _ _ h => h) (Or.inr ⟨by rfl, rfl⟩) (by assumption) ?_
  try simp only [Act.put, List.getElem_toArray, List.getElem_cons_zero, List.getElem_cons_succ, List.setIfInBounds_toArray, List.set_cons_zero, List.set_cons_succ]
  refine wpAnyH_take (i := 18) (v := undef) rfl (by kernel_rfl) (by kernel_rfl) (by kernel_rfl) (fun _ _ _ h => h) (Or.inr ⟨by rfl, rfl⟩) (by assumption) ?_
  try simp only [Act.put, List.getElem_toArray, List.getElem_cons_zero, List.getElem_cons_succ, List.setIfInBounds_toArray, List.set_cons_zero, List.set_cons_succ]
  refine wpAnyH_take (i := 19) (v := ?vv19) rfl (by kernel_rfl) (by kernel_rfl) (by kernel_rfl) (fun _ _ _ h => h) (Or.inl ⟨by rfl, ?hy19⟩) (by assumption) ?_
  case hy19 =>
    intro w hSw
    try dsimp only at hSw
    go_simp
    try with_reducible rfl
  try simp only [Act.put, List.getElem_toArray, List.getElem_cons_zero, List.getElem_cons_succ, List.setIfInBounds_toArray, List.set_cons_zero, List.set_cons_succ]
  refine wpAnyH_take (i := 20) (v := ?vv20) rfl (by kernel_rfl) (by kernel_rfl) (by kernel_rfl) (fun _ _ _ h => h) (Or.inl ⟨by rfl, ?hy20⟩) (by assumption) ?_
  case hy20 =>
    intro w hSw
    try dsimp only at hSw
    go_simp
    try with_reducible rfl
  try simp only [Act.put, List.getElem_toArray, List.getElem_cons_zero, List.getElem_cons_succ, List.setIfInBounds_toArray, List.set_cons_zero, List.set_cons_succ]
  refine wpAnyH_done (by kernel_rfl) ?_ _
  have kz := kb
  replace K := Lib.hid (Kp.nx K.out kz)
  replace X := Lib.hid (X.out.nx kz)
  replace RT := Lib.hid (RT.out.nx kz)
  clear hHeld ha1 ha2 ha3 ka hb3 kb kz kdr
  all_goals
    go_wp2_with fail
    refine (HO.out _).mono ?_; rintro e W7 ⟨p6, d6, rfl, ho, hb⟩
    have RM := Lib.hid ho.rd
    replace X := Lib.hid (X.out.nx hb)
    replace RT := Lib.hid (RT.out.nx hb)
    replace K := Lib.hid (Kp.nx K.out hb)
    clear HO ho hb HV O2 K1 K2
    go_wp2_with fail
    refine (HSub.out _ p1 p6 d1 d6 RT.out RM.out).mono ?_; rintro e W8 ⟨p7, d7, rfl, ho, hb⟩
    have RF := Lib.hid ho.rd
    replace X := Lib.hid (X.out.nx hb)
    replace RT := Lib.hid (RT.out.nx hb)
    replace K := Lib.hid (Kp.nx K.out hb)
    clear HSub ho hb RM
    go_wp2_with fail
    refine (HM.out _ p7 p1 d7 d1 RF.out RT.out).mono ?_; rintro e W9 ⟨p8, d8, q8, e8, rfl, ho3, ho4, hb⟩
    have X2 := Lib.hid (RatV.new ho3.rd ho4.rd)
    have KA := (Kp.nx hb ((Kp.refl _).al (.cells #[.bool false, .slice p8 xs.length d8, .slice q8 ys.length e8] 28)))
    replace K := Lib.hid (Kp.nx K.out KA)
    replace X := Lib.hid (X.out.nx KA)
    clear HM ho3 ho4 hb KA RF RT
    go_wp2_with fail
    generalize (W9.alloc (.cells #[.bool false, .slice p8 xs.length d8, .slice q8 ys.length e8] 28)) = Y2 at *
    obtain ⟨g2, hg2⟩ : ∃ g, W9.heap.size = g := ⟨_, rfl⟩
    rw [hg2] at X2
    simp only [hg2]
    clear hg2
    have HV2 := Lib.hid (fun (W' : World) (hk : Kp Y2 W') => show RatV W' g1 p3 q3 d3 e3 ps qs ∧ RatV W' g2 p8 q8 d8 e8 xs ys from ⟨X.out.nx hk, X2.out.nx hk⟩)
    clear X X2
    go_region_held3 (fun W => (W.cell? ⟨g1, 0, none⟩ = some (.bool false) ∧ W.cell? ⟨g1, 1, none⟩ = some (.slice p3 ps.length d3) ∧ W.cell? ⟨g1, 2, none⟩ = some (.slice q3 qs.length e3)) ∧ (W.cell? ⟨g2, 0, none⟩ = some (.bool false) ∧ W.cell? ⟨g2, 1, none⟩ = some (.slice p8 xs.length d8) ∧ W.cell? ⟨g2, 2, none⟩ = some (.slice q8 ys.length e8)))
      (first
        | exact ⟨(HV2.out _ (Kp.refl _)).1.cs, (HV2.out _ (Kp.refl _)).2.cs⟩
        | exact ⟨(HV2.out _ (Kp.refl _).dr1).1.cs, (HV2.out _ (Kp.refl _).dr1).2.cs⟩
        | exact ⟨(HV2.out _ na).1.cs, (HV2.out _ na).2.cs⟩
        | exact ⟨(HV2.out _ nb).1.cs, (HV2.out _ nb).2.cs⟩
        | exact ⟨(HV2.out _ nc).1.cs, (HV2.out _ nc).2.cs⟩
        | exact ⟨(HV2.out _ nd).1.cs, (HV2.out _ nd).2.cs⟩)
      (first
        | (go_at_call 33; (with_reducible refine (O1.out _).mono ?_); rintro e wa ⟨p9, c9, q9, d9, rfl, ha1, ha2, ha3⟩; have na := Kp.nx (Kp.refl Y2).dr1 ha3)
        | (go_at_call 37; (with_reducible refine (HMul.out _ p8 q8 p3 q3 d8 e8 d3 e3 (HV2.out _ na).2.ru (HV2.out _ na).2.rv (HV2.out _ na).1.ru (HV2.out _ na).1.rv).mono ?_); rintro e wb ⟨pa, ca, qa, da, rfl, hb1, hb2, hb3⟩; have kab : Kp wa wb := hb3; have nb := Kp.nx na hb3)
        | (go_at_call 36; (with_reducible refine (HAdd.out _ p9 q9 pa qa c9 d9 ca da (ha1.rd.nx kab) (ha2.rd.nx kab) hb1.rd hb2.rd).mono ?_); rintro e wc ⟨pb, cb, qb, db, rfl, hc1, hc2, hc3⟩; have nc := Kp.nx nb hc3)
        | (go_at_call 15; (with_reducible refine (HI.out _ pb qb p3 q3 cb db d3 e3 hc1.rd (HV2.out _ nc).1.ru hc2.rd (HV2.out _ nc).1.rv).mono ?_); rintro e wd ⟨rfl, hd3⟩; have nd := Kp.nx nc hd3))
    have K3 := Lib.hid (Kp.nx K.out nd)
    clear K HV2 O1 HMul HAdd HI ha1 ha2 ha3 na hb1 hb2 hb3 kab nb hc1 hc2 hc3 nc hd3 nd
    go_wp2_with fail
    go_ret
    exact ⟨rfl, K3.out⟩

/-! ### THE ROW's STEP: WRITTEN OUT: LEAVE IT -/
set_option maxRecDepth 100000 in
theorem lifted (os : Os) (started : os.Started) (H : Type) (enc : TypeId × Value → H) :
    ReturnsInHanded {} Try.checked os 10 .any (Rows.belowRenewSpec.pre6 enc Try.prog Try.f10 Rows.belowRenewRow.domain false) (Rows.belowRenewSpec.post enc Try.prog Try.f10 false true false false) := by
  refine returnsInHanded_of_change (C := Try.checked) own started (by kernel_rfl) Try.func10
    (ChangeSpec.witness6 (enc := enc) (C := Try.checked) false ⟨#[], #[.int .u64 0], []⟩ 8 (by kernel_rfl) (by kernel_rfl) (by kernel_rfl) (by kernel_rfl)) ?_
  intro W base args ds gs before hval0 hW hcnd _
  have hval : ∀ (j : Nat) t v, Try.f10.params[j]? = some t → args[j]? = some v → Value.okWide Try.prog W .any base t v := hval0
  have hW' := hW
  obtain ⟨p, q, hA0, hV, rfl, hfz, hnd⟩ := hW
  have hA : DataW.TrodAll enc Try.prog W 0 (fun _ => true) true Try.f10.params.toList args.toList ds p := hA0
  rw [Try.params10] at hA hval
  obtain ⟨v0, vs0, d0, ds0, p0, q0, hargs, rfl, rfl, h0, r0⟩ := trodAll_cons hA
  obtain ⟨rfl, rfl, rfl⟩ := trodAll_nil r0
  obtain rfl : args = #[v0] := by cases args; simp_all
  obtain ⟨rfl, rfl⟩ := trodVars_none hV
  obtain ⟨a0, rfl, rfl, rfl, w0⟩ := open_int Try.underlying22 (hval 0 22 v0 rfl rfl) h0
  clear hA0 hval0
  simp only [List.append_nil] at hW'
  refine (walk a0 w0 W).mono fun e W' ⟨he, hg⟩ => ?_
  subst he
  exact ⟨_, rfl, _, _, _, [], [], [], hW', (trodAll_cons_mk (shut_bool Try.underlying4 _) trodAll_mk0), (trodAll_cons_mk (shut_int Try.underlying22 w0) trodAll_mk0), rfl, hg.frame _, fun h => by cases h⟩

theorem over : Rows.belowRenewRow.holds Try.pinned (OpenSpec.ofChange Rows.belowRenewSpec) :=
  OpenClaim.holds_of_wide 10 Try.f10 rfl rfl rfl rfl rfl rfl rfl ⟨rfl, rfl, rfl, rfl, rfl⟩ rfl rfl rfl rfl rfl (by kernel_rfl) Try.func10 (by kernel_rfl)
    (of_decide_eq_true (by kernel_rfl)) (by unfold Func.isWrapper; first | (rw [if_pos (by decide +kernel)]; kernel_rfl) | (rw [if_neg (by decide +kernel)]; exact ⟨rfl, rfl⟩))
    (fun os started H enc _ => lifted os started H enc)

/-- ████ THE STATEMENT ████ -/
theorem proved : Rows.BelowRenewSaid :=
  over
#print axioms proved
end Go.Proofs.Ytelanfafgcnpmaa.belowRenew
