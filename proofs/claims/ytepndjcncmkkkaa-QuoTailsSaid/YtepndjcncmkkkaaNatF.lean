/- Contracts of nat.Shl, Shr, Small and what they call. Every slice is read as a list of words below 2^64, at most 400000 of them. -/
import Derived.Test.YtepndjcncmkkkaaNatD
namespace Go.Proofs.NT
open Go.RowKit
open Go.Proofs
open Go.Proofs.NP
open Go.Proofs.SL
set_option linter.unusedVariables false

theorem or_split (x y r : Nat) (hx : x < 18446744073709551616) (hr : r < 64) :
    bits BinOp.or IntKind.u64 ((x : Int) / 2 ^ r) (IntKind.u64.wrap ((y : Int) * 2 ^ (64 - r))) = ((x / 2 ^ r + y * 2 ^ (64 - r) % 18446744073709551616 : Nat) : Int) := by
  have p := W.pow_split r (by omega)
  have p0 := Nat.two_pow_pos r
  have b2 : x / 2 ^ r < 2 ^ (64 - r) := by rw [Nat.div_lt_iff_lt_mul p0, Nat.mul_comm, p]; exact hx
  have e2 : y * 2 ^ (64 - r) % 18446744073709551616 = (y % 2 ^ r) * 2 ^ (64 - r) := by rw [← p, Nat.mul_mod_mul_right]
  have hle : x / 2 ^ r ≤ x := Nat.div_le_self _ _
  have hm : y * 2 ^ (64 - r) % 18446744073709551616 < 18446744073709551616 := Nat.mod_lt _ (by decide)
  rw [W.shl_low, W.pow_cast, ← Int.natCast_ediv, bits_or_u64_nat _ _ (by omega) hm, e2, Nat.or_comm, Nat.mul_comm, ← Nat.two_pow_add_eq_or_of_lt b2, Nat.add_comm]

theorem from_arith (xs : List Nat) (h : Ws xs) (P : Nat) (hr : 0 < P % 64) :
    bits BinOp.or IntKind.u64 ((lim xs ((P : Int) / 64) : Nat) / 2 ^ (P % 64)) (IntKind.u64.wrap ((lim xs ((P : Int) / 64 + 1) : Nat) * 2 ^ (64 - P % 64))) = ((V xs / 2 ^ P % 18446744073709551616 : Nat) : Int) := by
  rw [or_split _ _ _ (lim_lt xs h _) (by omega), show ((P : Int) / 64) = ((P / 64 : Nat) : Int) by omega, show ((P / 64 : Nat) : Int) + 1 = ((P / 64 + 1 : Nat) : Int) by omega, lim_nat, lim_nat, V_dg h, V_dg h]
  have s := shr_dg 64 (V xs) (P / 64) (P % 64) 0 (by decide) (by omega)
  rw [Nat.zero_add, show P / 64 * 64 + P % 64 = P by omega] at s
  rw [show (2 : Nat) ^ 64 = 18446744073709551616 from rfl] at s
  rw [← s, dg]; simp
theorem from_arith0 (xs : List Nat) (h : Ws xs) (P : Nat) (hr : P % 64 = 0) : lim xs ((P : Int) / 64) = V xs / 2 ^ P % 18446744073709551616 := by
  rw [show ((P : Int) / 64) = ((P / 64 : Nat) : Int) by omega, lim_nat, V_dg h, dg, show (18446744073709551616 : Nat) = 2 ^ 64 from rfl, ← Nat.pow_mul, show 64 * (P / 64) = P by omega]

theorem from_nn (H : Nat) (a : Option Addr) (cap : Nat) (xs : List Nat) (P : Nat) (w : World) (hs : Sl H w a cap xs) (hP : P ≤ 4611686018427387904) :
    Calls Try.prog 59 #[.slice a xs.length cap, .int .i64 (P : Int)] w fun e w' => e = .returned (.int .u64 (V xs / 2 ^ P % 18446744073709551616 : Nat)) ∧ w = w' := by
  have l1 := lim_lt xs hs.dig ((P : Int) / 64)
  have l2 := lim_lt xs hs.dig ((P : Int) / 64 + 1)
  by_cases hr : 0 < P % 64
  · have e := Lib.hid (from_arith xs hs.dig P hr)
    have hr' : (0 : Int) < (P : Int) % 64 := by omega
    go_enter Try.func59, Try.ntmps59
    go_wp2_with fail
    refine (limb H a cap xs _ _ hs).mono ?_; rintro e1 w1 ⟨rfl, rfl⟩
    go_wp2_with fail
    refine (limb H a cap xs _ _ hs).mono ?_; rintro e1 w1 ⟨rfl, rfl⟩
    go_wp2_with fail
    go_ret
    exact ⟨W.ret_int e.out, rfl⟩
  · have e := Lib.hid (from_arith0 xs hs.dig P (by omega))
    have e2 : (P : Int) % 64 = 0 := by omega
    have e3 : P % 64 = 0 := by omega
    clear hr
    go_enter Try.func59, Try.ntmps59
    go_wp2_with fail
    refine (limb H a cap xs _ _ hs).mono ?_; rintro e1 w1 ⟨rfl, rfl⟩; rw [e.out]
    go_wp2_with fail
    go_ret
    exact ⟨W.ret_int (by simp), rfl⟩
theorem big_shift (x n : Nat) (h : 64 ≤ n) : x * 2 ^ n % 18446744073709551616 = 0 := by
  have : 2 ^ n = 2 ^ (n - 64) * 18446744073709551616 := by rw [show (18446744073709551616 : Nat) = 2 ^ 64 from rfl, ← Nat.pow_add]; congr 1; omega
  rw [this, ← Nat.mul_assoc, Nat.mul_mod_left]

theorem or_zero (y k : Nat) : bits BinOp.or IntKind.u64 0 (IntKind.u64.wrap ((y : Int) * 2 ^ k)) = ((y * 2 ^ k % 18446744073709551616 : Nat) : Int) := by
  have hm : y * 2 ^ k % 18446744073709551616 < 18446744073709551616 := Nat.mod_lt _ (by decide)
  have h := bits_or_u64_nat 0 (y * 2 ^ k % 18446744073709551616) (by decide) hm
  rw [W.shl_low]
  rw [show ((0 : Nat) : Int) = 0 from rfl] at h
  rw [h, Nat.zero_or]

theorem neg_arith (xs : List Nat) (h : Ws xs) (n : Nat) (hr : 0 < n % 64) :
    bits BinOp.or IntKind.u64 0 (IntKind.u64.wrap ((lim xs (-((n : Int) / 64)) : Nat) * 2 ^ (64 - (-((n : Int) % 64) + 64)).toNat)) = ((V xs * 2 ^ n % 18446744073709551616 : Nat) : Int) := by
  rw [or_zero, show (64 - (-((n : Int) % 64) + 64)).toNat = n % 64 by omega]
  by_cases hn : n < 64
  · have e : lim xs (-((n : Int) / 64)) = V xs % 18446744073709551616 := by
      rw [show -((n : Int) / 64) = ((0 : Nat) : Int) by omega, lim_nat, V_dg h, dg]; simp
    rw [e, show n % 64 = n by omega, Nat.mod_mul_mod]
  · have e : lim xs (-((n : Int) / 64)) = 0 := by rw [lim, if_pos (by omega)]
    rw [e, big_shift _ n (by omega)]; simp

theorem from_neg (H : Nat) (a : Option Addr) (cap : Nat) (xs : List Nat) (n : Nat) (w : World) (hs : Sl H w a cap xs) (hP : n ≤ 4611686018427387904) (hn : 0 < n) :
    Calls Try.prog 59 #[.slice a xs.length cap, .int .i64 (-(n : Int))] w fun e w' => e = .returned (.int .u64 (V xs * 2 ^ n % 18446744073709551616 : Nat)) ∧ w = w' := by
  by_cases hr : 0 < n % 64
  · have hr' : (0 : Int) < (n : Int) % 64 := by omega
    have e0 : lim xs (-((n : Int) / 64) - 1) = 0 := by rw [lim, if_pos (by omega)]
    have E0 := Lib.hid e0
    have E := Lib.hid (neg_arith xs hs.dig n hr)
    have l2 := lim_lt xs hs.dig (-((n : Int) / 64))
    clear e0 hr
    go_enter Try.func59, Try.ntmps59
    go_wp2_with fail
    refine (limb H a cap xs _ _ hs).mono ?_; rintro e1 w1 ⟨rfl, rfl⟩; rw [E0.out]
    go_wp2_with fail
    refine (limb H a cap xs _ _ hs).mono ?_; rintro e1 w1 ⟨rfl, rfl⟩
    go_wp2_with fail
    go_ret
    exact ⟨W.ret_int E.out, rfl⟩
  · have hr' : (n : Int) % 64 = 0 := by omega
    have hr2 : n % 64 = 0 := by omega
    have e0 : Hid (lim xs (-((n : Int) / 64)) = 0) := by rw [Hid, lim, if_pos (by omega)]
    clear hr
    go_enter Try.func59, Try.ntmps59
    go_wp2_with fail
    refine (limb H a cap xs _ _ hs).mono ?_; rintro e1 w1 ⟨rfl, rfl⟩; rw [e0.out]
    have E := Lib.hid (big_shift (V xs) n (by omega))
    go_wp2_with fail
    go_ret
    exact ⟨W.ret_int (by rw [E.out]; rfl), rfl⟩

theorem may_yes (n : Int) (h0 : 0 ≤ n) (h1 : n ≤ 65536) (w : World) :
    Calls Try.prog 46 #[.int .i64 n] w fun e w' => e = .returned (.bool true) ∧ w = w' := by
  go_enter Try.func46, Try.ntmps46
  go_wp2
  go_ret
  exact ⟨rfl, rfl⟩
theorem may_no (n : Int) (h : n < 0 ∨ 65536 < n) (w : World) :
    Calls Try.prog 46 #[.int .i64 n] w fun e w' => e = .returned (.bool false) ∧ w = w' := by
  rcases h with h | h
  · go_enter Try.func46, Try.ntmps46
    go_wp2
    go_ret
    exact ⟨rfl, rfl⟩
  · have h0 : 0 ≤ n := by omega
    have h1 : decide (n ≤ 65536) = false := by simpa using h
    go_enter Try.func46, Try.ntmps46
    go_wp2
    go_ret
    exact ⟨rfl, rfl⟩

/-- what holds between two limbs of a shifted natural -/
structure ShAt (w wr : World) (g N T i : Nat) (out : List Nat) : Prop where
  len : out.length = N
  low' : out.take i = low 18446744073709551616 T i
  own : Own 36 w.heap.size wr (some ⟨g, 0, none⟩) N out
  bel : Below w.heap.size w wr

theorem ShAt.next {w wr : World} {g N T i : Nat} {out : List Nat} (E : ShAt w wr g N T i out) (hi : i < N) (D : Int) (hD : D = (dg 18446744073709551616 T i : Nat)) :
    ShAt w (wr.setCell ⟨g, i, none⟩ (.int .u64 D)) g N T (i + 1) (out.set i (dg 18446744073709551616 T i)) := by
  subst hD
  have o2 := E.own.store i (dg 18446744073709551616 T i) (dg_lt _ _ _ (by decide))
  refine ⟨by rw [List.length_set]; exact E.len, ?_, o2.1, E.bel.setCell (p := ⟨g, i, none⟩) E.own.ge.1 _⟩
  have hl : i < out.length := by rw [E.len]; exact hi
  rw [List.take_succ_eq_append_getElem (by rw [List.length_set]; exact hl)]
  rw [List.take_set_of_le (Nat.le_refl _), E.low', low]
  simp

theorem ShAt.done {w wr : World} {g N T : Nat} {out : List Nat} (E : ShAt w wr g N T N out) (hT : T < 18446744073709551616 ^ N) : V out = T := by
  have h := E.low'
  rw [List.take_of_length_le (by rw [E.len]; exact Nat.le_refl _)] at h
  rw [V, h, val_low, Nat.mod_eq_of_lt hT]

/-- the loop of shifted, for whatever number T has the limbs that 'from' tells -/
theorem shifted (H : Nat) (a : Option Addr) (cap : Nat) (xs : List Nat) (w : World) (hs : Sl H w a cap xs) (hH : H ≤ w.heap.size) (N T : Nat) (place : Int) (hN : N ≤ 900000) (p0 : -1000000000 ≤ place) (p1 : place ≤ 1000000000) (hT : T < 18446744073709551616 ^ N)
    (hf : ∀ i : Nat, i < N → ∀ wr, Sl H wr a cap xs → Calls Try.prog 59 #[.slice a xs.length cap, .int .i64 ((i : Int) * 64 + place)] wr fun e w' => e = .returned (.int .u64 (dg 18446744073709551616 T i : Nat)) ∧ wr = w') :
    Calls Try.prog 47 #[.slice a xs.length cap, .int .i64 (N : Int), .int .i64 place] w (Gives 36 w (L T)) := by
  obtain ⟨i0, hi, hz0, hz1, hz2⟩ := info_parts Try.info36
  obtain ⟨wm, hmk, hown0, hgr0⟩ := run_make_full (P := Try.prog) w w.heap.size 23 36 i0 (.int .u64 0) 1 Try.underlying23 hi hz0 hz1 .i64 .i64 N (by rw [hz2]; omega) (by unfold maxLen; omega) (Nat.le_refl _)
  rw [Nat.mul_one, show (Value.int .u64 0).cells = #[Value.int .u64 0] from rfl, toList_madeCells_one] at hown0
  have E0 : ShAt w wm w.heap.size N T 0 (List.replicate N 0) :=
    ⟨by simp, by simp [low], ⟨Dig.zeros (by decide) _, by simpa [enc] using hown0⟩, (Below.refl _ _).grown hgr0 (Nat.le_refl _) (fun k hk => by cases hk)⟩
  clear hown0 hgr0
  have hEq := Lib.hid hmk
  have HF := Lib.hid hf
  clear hmk hf
  go_enter Try.func47, Try.ntmps47
  go_wp2_with (rw [hEq.out])
  go_loopw [13] (fun s wr => ∃ i : Nat, s = .int .i64 i ∧ i ≤ N ∧ ∃ out, ShAt w wr w.heap.size N T i out) (fun s _ => N - (intOf s).toNat)
  case atStart => exact ⟨0, rfl, by omega, _, E0⟩
  case round =>
    obtain ⟨i, rfl, hi', out, E⟩ := hrel
    by_cases hlt : i < N
    · have nx := E.next hlt _ rfl
      have ho := E.own.cell i (by rw [E.len]; exact hlt)
      have hof := E.own.free i
      have sx := hs.below E.bel hH
      have bd := dg_lt 18446744073709551616 T i (by decide)
      have NX := Lib.hid nx
      clear nx
      go_wp2_with fail
      refine (HF.out i hlt _ sx).mono ?_; rintro e1 w1 ⟨rfl, rfl⟩
      go_wp2_with fail
      go_roundw
      case rel => exact ⟨i + 1, by go_num, by omega, _, NX.out⟩
      case measure => simp [intOf]; omega
    · obtain rfl : i = N := by omega
      have hv := E.done hT
      have c := trim _ _ _ out wr E.own.sl (Nat.le_refl _) (by rw [E.len]; omega)
      rw [hv, E.len] at c
      have C := Lib.hid c
      have ebel := E.bel
      have esz := E.own.ge.2
      clear c hv
      go_wp2_with fail
      refine C.out.mono ?_
      rintro e w1 ⟨a1, c1, rfl, ho, hb⟩
      have hf : Hid (Gives 36 w (L T) (.returned (.slice a1 (L T).length c1)) w1) := ⟨a1, c1, rfl, ho.mono (by omega), ebel.trans (hb.mono (by omega))⟩
      clear ho hb
      go_wp2
      go_ret
      exact hf.out

theorem dg_shr (x n i : Nat) : x / 2 ^ (i * 64 + n) % 18446744073709551616 = dg 18446744073709551616 (x / 2 ^ n) i := by
  rw [dg, show (18446744073709551616 : Nat) ^ i = 2 ^ (i * 64) by rw [Nat.mul_comm, Nat.pow_mul], Nat.div_div_eq_div_mul, ← Nat.pow_add, Nat.add_comm]

theorem dg_shl_hi (x n i : Nat) (h : n ≤ i * 64) : x / 2 ^ (i * 64 - n) % 18446744073709551616 = dg 18446744073709551616 (x * 2 ^ n) i := by
  rw [dg, show (18446744073709551616 : Nat) ^ i = 2 ^ (i * 64) by rw [Nat.mul_comm, Nat.pow_mul]]
  have : 2 ^ (i * 64) = 2 ^ n * 2 ^ (i * 64 - n) := by rw [← Nat.pow_add]; congr 1; omega
  rw [this, Nat.mul_comm x, Nat.mul_div_mul_left _ _ (Nat.two_pow_pos n)]

theorem dg_shl_lo (x n i : Nat) (h : i * 64 < n) : x * 2 ^ (n - i * 64) % 18446744073709551616 = dg 18446744073709551616 (x * 2 ^ n) i := by
  rw [dg, show (18446744073709551616 : Nat) ^ i = 2 ^ (i * 64) by rw [Nat.mul_comm, Nat.pow_mul]]
  have : 2 ^ n = 2 ^ (n - i * 64) * 2 ^ (i * 64) := by rw [← Nat.pow_add]; congr 1; omega
  rw [this, ← Nat.mul_assoc, Nat.mul_div_cancel _ (Nat.two_pow_pos _)]

theorem shr_bound (xs : List Nat) (h : Ws xs) (n : Nat) : V xs / 2 ^ n < 18446744073709551616 ^ xs.length := Nat.lt_of_le_of_lt (Nat.div_le_self _ _) (V_lt h)
theorem shl_bound (xs : List Nat) (h : Ws xs) (n : Nat) : V xs * 2 ^ n < 18446744073709551616 ^ (xs.length + n / 64 + 1) := by
  have a := V_lt h
  have e : 2 ^ n ≤ 18446744073709551616 ^ (n / 64 + 1) := by
    rw [show (18446744073709551616 : Nat) = 2 ^ 64 from rfl, ← Nat.pow_mul]
    exact Nat.pow_le_pow_right (by decide) (by omega)
  rw [Nat.add_assoc, Nat.pow_add]
  exact Nat.mul_lt_mul_of_lt_of_le a e (Nat.two_pow_pos n |> fun h => by omega)

theorem shr_no (a : Option Addr) (len cap : Nat) (n : Int) (w : World) (h : n < 0 ∨ 65536 < n) :
    Calls Try.prog 39 #[.slice a len cap, .int .i64 n] w fun e w' => e = .returned (.tuple #[.slice none 0 0, .int .i64 1]) ∧ w = w' := by
  go_enter Try.func39, Try.ntmps39
  go_wp2_with fail
  refine (may_no n h _).mono ?_; rintro e1 w1 ⟨rfl, rfl⟩
  go_wp2_with fail
  go_ret2
  exact ⟨rfl, rfl⟩
theorem shl_no (a : Option Addr) (len cap : Nat) (n : Int) (w : World) (h : n < 0 ∨ 65536 < n) :
    Calls Try.prog 23 #[.slice a len cap, .int .i64 n] w fun e w' => e = .returned (.tuple #[.slice none 0 0, .int .i64 1]) ∧ w = w' := by
  go_enter Try.func23, Try.ntmps23
  go_wp2_with fail
  refine (may_no n h _).mono ?_; rintro e1 w1 ⟨rfl, rfl⟩
  go_wp2_with fail
  go_ret2
  exact ⟨rfl, rfl⟩

theorem shr_ok (H : Nat) (a : Option Addr) (cap : Nat) (xs : List Nat) (n : Nat) (w : World) (hs : Sl H w a cap xs) (hH : H ≤ w.heap.size) (hl : xs.length ≤ 400000) (hn : n ≤ 65536) :
    Calls Try.prog 39 #[.slice a xs.length cap, .int .i64 (n : Int)] w fun e w' =>
      ∃ a' c', e = .returned (.tuple #[.slice a' (L (V xs / 2 ^ n)).length c', .int .i64 0]) ∧ Own 36 w.heap.size w' a' c' (L (V xs / 2 ^ n)) ∧ Below w.heap.size w w' := by
  have c := shifted H a cap xs w hs hH xs.length (V xs / 2 ^ n) (n : Int) (by omega) (by omega) (by omega) (shr_bound xs hs.dig n) (by
    intro i hi wr hr
    have := from_nn H a cap xs (i * 64 + n) wr hr (by omega)
    rw [dg_shr, show ((i * 64 + n : Nat) : Int) = (i : Int) * 64 + (n : Int) by omega] at this
    exact this)
  have C := Lib.hid c
  clear c
  go_enter Try.func39, Try.ntmps39
  go_wp2_with fail
  refine (may_yes n (by omega) (by omega) _).mono ?_; rintro e1 w1 ⟨rfl, rfl⟩
  go_wp2_with fail
  refine C.out.mono ?_
  rintro e w1 ⟨a1, c1, rfl, ho, hb⟩
  have hf : Hid (Own 36 w.heap.size w1 a1 c1 (L (V xs / 2 ^ n)) ∧ Below w.heap.size w w1) := ⟨ho, hb⟩
  clear ho hb
  go_wp2
  go_ret2
  exact ⟨a1, c1, rfl, hf.out⟩

theorem shl_ok (H : Nat) (a : Option Addr) (cap : Nat) (xs : List Nat) (n : Nat) (w : World) (hs : Sl H w a cap xs) (hH : H ≤ w.heap.size) (hl : xs.length ≤ 400000) (hn : n ≤ 65536) :
    Calls Try.prog 23 #[.slice a xs.length cap, .int .i64 (n : Int)] w fun e w' =>
      ∃ a' c', e = .returned (.tuple #[.slice a' (L (V xs * 2 ^ n)).length c', .int .i64 0]) ∧ Own 36 w.heap.size w' a' c' (L (V xs * 2 ^ n)) ∧ Below w.heap.size w w' := by
  have c := shifted H a cap xs w hs hH (xs.length + n / 64 + 1) (V xs * 2 ^ n) (-(n : Int)) (by omega) (by omega) (by omega) (shl_bound xs hs.dig n) (by
    intro i hi wr hr
    by_cases h : n ≤ i * 64
    · have := from_nn H a cap xs (i * 64 - n) wr hr (by omega)
      rw [dg_shl_hi _ _ _ h, show ((i * 64 - n : Nat) : Int) = (i : Int) * 64 + -(n : Int) by omega] at this
      exact this
    · have := from_neg H a cap xs (n - i * 64) wr hr (by omega) (by omega)
      rw [dg_shl_lo _ _ _ (by omega), show -((n - i * 64 : Nat) : Int) = (i : Int) * 64 + -(n : Int) by omega] at this
      exact this)
  rw [show ((xs.length + n / 64 + 1 : Nat) : Int) = (xs.length : Int) + (n : Int) / 64 + 1 by omega] at c
  have C := Lib.hid c
  clear c
  go_enter Try.func23, Try.ntmps23
  go_wp2_with fail
  refine (may_yes n (by omega) (by omega) _).mono ?_; rintro e1 w1 ⟨rfl, rfl⟩
  go_wp2_with fail
  refine C.out.mono ?_
  rintro e w1 ⟨a1, c1, rfl, ho, hb⟩
  have hf : Hid (Own 36 w.heap.size w1 a1 c1 (L (V xs * 2 ^ n)) ∧ Below w.heap.size w w1) := ⟨ho, hb⟩
  clear ho hb
  go_wp2
  go_ret2
  exact ⟨a1, c1, rfl, hf.out⟩

end Go.Proofs.NT
