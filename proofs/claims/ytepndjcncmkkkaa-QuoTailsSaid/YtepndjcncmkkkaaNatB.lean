/- Contracts of package nat. Every slice is read as a list of words below 2^64, at most a million of them. -/
import Derived.Test.YtepndjcncmkkkaaNatA
import Derived.Test.YtepndjcncmkkkaaNatMore
import Derived.Test.YtepndjcncmkkkaaWLen
namespace Go.Proofs.NT
open Go.RowKit
open Go.Proofs
open Go.Proofs.NP
open Go.Proofs.SL
set_option linter.unusedVariables false

theorem of (n : Nat) (w : World) (hn : n < 18446744073709551616) :
    Calls Try.prog 34 #[.int .u64 (n : Int)] w (Gives 36 w (L n)) := by
  have ho : Own 36 w.heap.size (w.alloc (.cells #[.int .u64 (n : Int)] 36)) (some ⟨w.heap.size, 0, none⟩) 1 [n] := Own.lit [n] (fun x hx => by simp at hx; omega) _ rfl (Nat.le_refl _) (by simp [maxLen])
  have c := trim _ _ _ [n] _ ho.sl (Nat.le_refl _) (by simp)
  have hv : V [n] = n := by simp [V, val]
  rw [hv] at c
  have C := Lib.hid c
  clear c ho hv
  go_enter Try.func34, Try.ntmps34
  go_wp2_with fail
  refine C.out.mono ?_
  rintro e w1 ⟨a1, c1, rfl, ho, hb⟩
  have hf : Hid (Gives 36 w (L n) (.returned (.slice a1 (L n).length c1)) w1) := ⟨a1, c1, rfl, ho.mono (by simp), ((Below.refl _ w).alloc (Nat.le_refl _) _).trans (hb.mono (by simp))⟩
  clear ho hb
  go_wp2
  go_ret
  exact hf.out

theorem len_any (H : Nat) (a : Option Addr) (cap : Nat) (xs : List Nat) (w : World) (hs : Sl H w a cap xs) (hlen : xs.length ≤ 1000000) :
    Calls Try.prog 43 #[.slice a xs.length cap] w fun e w' => e = .returned (.int .i64 (bitLen (V xs) : Nat)) ∧ w = w' := by
  have hb := bitLen_val xs hs.dig
  have hv0 := val_zero_of 18446744073709551616 (by decide) hs.dig
  have HB := Lib.hid hb
  have HV := Lib.hid hv0
  clear hb hv0
  go_enter Try.func43, Try.ntmps43
  go_wp2
  go_loop [3] (fun s => ∃ k : Nat, s = .int .i64 ((k : Int) - 1) ∧ k ≤ xs.length ∧ Hid (∀ j, k ≤ j → xs[j]?.getD 0 = 0)) (fun s => (intOf s + 1).toNat)
  case atStart => exact ⟨xs.length, rfl, Nat.le_refl _, fun j hj => by simp [hj]⟩
  case round =>
    obtain ⟨k, rfl, hk, hz⟩ := hrel
    cases k with
    | zero =>
      have e : Hid (bitLen (V xs) = 0) := by rw [Hid, V, HV.out (fun j => hz.out j (by omega))]; rfl
      go_wp2
      go_ret
      exact ⟨W.ret_int (by rw [e.out]; rfl), rfl⟩
    | succ n =>
      rw [show ((n + 1 : Nat) : Int) - 1 = (n : Int) by omega]
      rcases hs.at' with rfl | ⟨b, off, rfl, hlt, hc⟩
      · simp at hk
      have hc := hc n (by omega)
      have hg : xs[n]?.getD 0 = xs[n] := by simp [show n < xs.length by omega]
      have hw := hs.dig.get n (by omega)
      by_cases hx : xs[n] = 0
      · rw [hx] at hc
        have hz' : Hid (∀ j, n ≤ j → xs[j]?.getD 0 = 0) := by
          intro j hj
          rcases Nat.eq_or_lt_of_le hj with rfl | h
          · rw [hg, hx]
          · exact hz.out j h
        clear hx hg hw
        go_wp2_with fail
        go_round
        case rel => exact ⟨n, rfl, by omega, hz'⟩
        case measure => simp [intOf]
      · have e : Hid (bitLen (V xs) = n * 64 + bitLen xs[n]) := by
          have := HB.out n (fun j hj => hz.out j hj) (by rw [hg]; exact hx)
          rw [hg] at this; exact this
        have hx' : (((xs[n] : Nat) : Int) != 0) = true := by simpa using hx
        have hl := W.bitLen_64 xs[n] hw
        have c := fun w => W.len ((xs[n] : Nat) : Int) (by omega) (by omega) w
        rw [Int.toNat_natCast] at c
        have C := Lib.hid c
        clear c hx hg
        go_wp2_with fail
        refine (C.out _).mono ?_; rintro e1 w1 ⟨rfl, rfl⟩
        go_wp2
        go_ret
        exact ⟨W.ret_int (by rw [e.out]; omega), rfl⟩

theorem zero_any (H : Nat) (a : Option Addr) (cap : Nat) (xs : List Nat) (w : World) (hs : Sl H w a cap xs) (hlen : xs.length ≤ 1000000) :
    Calls Try.prog 25 #[.slice a xs.length cap] w fun e w' => e = .returned (.bool (V xs == 0)) ∧ w = w' := by
  have hz : Hid ((((bitLen (V xs) : Nat) : Int) == 0) = (V xs == 0)) := by
    rw [Hid, Bool.eq_iff_iff]
    simp
    constructor
    · intro h
      by_cases h0 : V xs = 0
      · exact h0
      · have := bitLen_pos _ h0; omega
    · intro h; rw [h]; rfl
  go_enter Try.func25, Try.ntmps25
  go_wp2_with fail
  refine (len_any H a cap xs _ hs hlen).mono ?_; rintro e1 w1 ⟨rfl, rfl⟩
  go_wp2
  go_ret
  exact ⟨W.ret_bool hz.out, rfl⟩

/-- how two naturals stand -/
def cmpI (x y : Nat) : Int := if x < y then -1 else if y < x then 1 else 0

theorem cmp (H : Nat) (a b : Option Addr) (ca cb : Nat) (xs ys : List Nat) (w : World) (hx : Sl H w a ca xs) (hy : Sl H w b cb ys) (hlx : xs.length ≤ 1000000) (hly : ys.length ≤ 1000000) :
    Calls Try.prog 26 #[.slice a xs.length ca, .slice b ys.length cb] w fun e w' => e = .returned (.int .i64 (cmpI (V xs) (V ys))) ∧ w = w' := by
  have hlt := lt_of_dg 18446744073709551616 (by decide) (V xs) (V ys)
  have hgt := lt_of_dg 18446744073709551616 (by decide) (V ys) (V xs)
  have heq := eq_of_dg 18446744073709551616 (by decide) (V xs) (V ys)
  have dx := fun i => V_dg hx.dig i
  have dy := fun i => V_dg hy.dig i
  have bx := fun i => lim_lt xs hx.dig i
  have by' := fun i => lim_lt ys hy.dig i
  have HLT := Lib.hid hlt
  have HGT := Lib.hid hgt
  have HEQ := Lib.hid heq
  have DX := Lib.hid dx
  have DY := Lib.hid dy
  have BX := Lib.hid bx
  have BY := Lib.hid by'
  clear hlt hgt heq dx dy bx by'
  rcases Nat.lt_or_ge xs.length ys.length with hcmp | hcmp
  all_goals
    go_enter Try.func26, Try.ntmps26
    go_wp2
    go_loop [5] (fun s => ∃ k : Nat, s = .int .i64 ((k : Int) - 1) ∧ k ≤ 1000000 ∧ Hid (∀ j, k ≤ j → dg 18446744073709551616 (V xs) j = dg 18446744073709551616 (V ys) j)) (fun s => (intOf s + 1).toNat)
    case atStart => exact ⟨_, rfl, by omega, fun j hj => by rw [← DX.out, ← DY.out]; simp [show xs.length ≤ j by omega, show ys.length ≤ j by omega]⟩
    case round =>
      obtain ⟨k, rfl, hk, hz⟩ := hrel
      cases k with
      | zero =>
        have e : Hid (cmpI (V xs) (V ys) = 0) := by rw [Hid, cmpI, HEQ.out (fun j => hz.out j (by omega))]; simp
        go_wp2
        go_ret
        exact ⟨W.ret_int (by rw [e.out]), rfl⟩
      | succ n =>
        rw [show ((n + 1 : Nat) : Int) - 1 = (n : Int) by omega]
        have b1 := BX.out n
        have b2 := BY.out n
        have cx := fun wx => limb H a ca xs n wx
        have d1 := DX.out n
        have d2 := DY.out n
        rw [← lim_nat] at d1 d2
        have hL := HLT.out n (fun j hj => hz.out j hj)
        have hG := HGT.out n (fun j hj => (hz.out j hj).symm)
        rw [← d1, ← d2] at hL hG
        have hE : lim xs n = lim ys n → Hid (∀ j, n ≤ j → dg 18446744073709551616 (V xs) j = dg 18446744073709551616 (V ys) j) := by
          intro h j hj
          rcases Nat.eq_or_lt_of_le hj with rfl | h'
          · rw [← d1, ← d2, h]
          · exact hz.out j h'
        obtain ⟨x, ex⟩ : ∃ x, lim xs n = x := ⟨_, rfl⟩
        obtain ⟨y, ey⟩ : ∃ y, lim ys n = y := ⟨_, rfl⟩
        rw [ex] at b1 hL hE hG
        rw [ey] at b2 hL hE hG
        have EX := Lib.hid ex
        have EY := Lib.hid ey
        clear d1 d2 cx ex ey
        rcases Nat.lt_trichotomy x y with h | h | h
        · have e : Hid (cmpI (V xs) (V ys) = -1) := by rw [Hid, cmpI, if_pos (hL h)]
          clear hL hG hE
          go_wp2_with fail
          refine (limb H a ca xs n _ hx).mono ?_; rintro e1 w1 ⟨rfl, rfl⟩; rw [EX.out]
          go_wp2_with fail
          refine (limb H b cb ys n _ hy).mono ?_; rintro e1 w1 ⟨rfl, rfl⟩; rw [EY.out]
          go_wp2_with fail
          go_ret
          exact ⟨W.ret_int (by rw [e.out]), rfl⟩
        · subst h
          have HE := hE rfl
          clear hL hG hE
          go_wp2_with fail
          refine (limb H a ca xs n _ hx).mono ?_; rintro e1 w1 ⟨rfl, rfl⟩; rw [EX.out]
          go_wp2_with fail
          refine (limb H b cb ys n _ hy).mono ?_; rintro e1 w1 ⟨rfl, rfl⟩; rw [EY.out]
          go_wp2_with fail
          go_round
          case rel => exact ⟨n, rfl, by omega, HE⟩
          case measure => simp [intOf]
        · have e : Hid (cmpI (V xs) (V ys) = 1) := by have := hG h; rw [Hid, cmpI, if_neg (by omega), if_pos this]
          have h' : ¬ ((x : Int) < (y : Int)) := by omega
          clear hL hG hE
          go_wp2_with fail
          refine (limb H a ca xs n _ hx).mono ?_; rintro e1 w1 ⟨rfl, rfl⟩; rw [EX.out]
          go_wp2_with fail
          refine (limb H b cb ys n _ hy).mono ?_; rintro e1 w1 ⟨rfl, rfl⟩; rw [EY.out]
          go_wp2_with fail
          go_ret
          exact ⟨W.ret_int (by rw [e.out]), rfl⟩
end Go.Proofs.NT
