/- Contracts of package nat. Every slice is read as a list of words below 2^64, at most a million of them. -/
import Derived.Test.YtacjfbjhkogdaaaNatB
namespace Go.Proofs.NT
open Go.RowKit
open Go.Proofs
open Go.Proofs.NP
open Go.Proofs.SL
set_option linter.unusedVariables false

theorem bit_no (H : Nat) (a : Option Addr) (cap : Nat) (xs : List Nat) (n : Int) (w : World) (hs : Sl H w a cap xs) (hn : n < 0) :
    Calls Try.prog 33 #[.slice a xs.length cap, .int .i64 n] w fun e w' => e = .returned (.bool false) ∧ w = w' := by
  go_enter Try.func33, Try.ntmps33
  go_wp2
  go_ret
  exact ⟨rfl, rfl⟩
theorem bit_arith (x r : Nat) (hx : x < 18446744073709551616) : (bits BinOp.and IntKind.u64 ((x : Int) / 2 ^ r) 1 == 1) = (x / 2 ^ r % 2 == 1) := by
  have hle : x / 2 ^ r ≤ x := Nat.div_le_self _ _
  have h := bits_and_u64_nat (x / 2 ^ r) 1 (by omega) (by decide)
  rw [W.pow_cast, ← Int.natCast_ediv]
  rw [show ((1 : Nat) : Int) = 1 from rfl] at h
  rw [h, Nat.and_one_is_mod]
  rcases Nat.mod_two_eq_zero_or_one (x / 2 ^ r) with h | h <;> rw [h] <;> rfl

theorem bit_V (xs : List Nat) (h : Ws xs) (n : Nat) : (bits BinOp.and IntKind.u64 ((lim xs ((n : Int) / 64) : Nat) / 2 ^ (n % 64)) 1 == 1) = (V xs / 2 ^ n % 2 == 1) := by
  rw [bit_arith _ _ (lim_lt xs h _), show ((n : Int) / 64) = ((n / 64 : Nat) : Int) by omega, lim_nat, V_dg h, bit_dg 18446744073709551616 64 _ _ _ (by decide) (by omega)]
  congr 4
  omega

theorem bit_any (H : Nat) (a : Option Addr) (cap : Nat) (xs : List Nat) (n : Nat) (w : World) (hs : Sl H w a cap xs) (hn : n ≤ 9223372036854775807) :
    Calls Try.prog 33 #[.slice a xs.length cap, .int .i64 (n : Int)] w fun e w' => e = .returned (.bool (V xs / 2 ^ n % 2 == 1)) ∧ w = w' := by
  have e := Lib.hid (bit_V xs hs.dig n)
  go_enter Try.func33, Try.ntmps33
  go_wp2_with fail
  refine (limb H a cap xs _ _ hs).mono ?_; rintro e1 w1 ⟨rfl, rfl⟩
  go_wp2_with fail
  go_ret
  exact ⟨W.ret_bool e.out, rfl⟩

theorem same (H : Nat) (a b : Option Addr) (ca cb : Nat) (xs ys : List Nat) (w : World) (hx : Sl H w a ca xs) (hy : Sl H w b cb ys) (hl : xs.length ≤ 1000000) :
    Calls Try.prog 18 #[.slice a xs.length ca, .slice b ys.length cb] w fun e w' => e = .returned (.bool (xs == ys)) ∧ ∃ k, w.drewN k = w' := by
  by_cases hlen : xs.length = ys.length
  · obtain ⟨n, hn⟩ : ∃ n, ys.length = n := ⟨_, rfl⟩
    have cx := hx.at'
    have cy := hy.at'
    have bx := hx.dig
    have by' := hy.dig
    rw [hlen] at hl ⊢
    rw [hn] at hlen hl ⊢
    have HX := Lib.hid hlen
    have HY := Lib.hid hn
    have CX := Lib.hid cx
    have CY := Lib.hid cy
    clear hlen hn cx cy hx hy
    go_enter Try.func18, Try.ntmps18
    go_wp2
    go_loopw [5] (fun s wr => ∃ i : Nat, s = .int .i64 i ∧ i ≤ n ∧ Hid (∀ j, j < i → xs[j]? = ys[j]?) ∧ ∃ k, wr = w.drewN k) (fun s _ => n - (intOf s).toNat)
    case atStart => exact ⟨0, rfl, by omega, fun j hj => by omega, 0, rfl⟩
    case round =>
      obtain ⟨i, rfl, hi, hz, k, rfl⟩ := hrel
      by_cases hlt : i < n
      · rcases CX.out with h0 | ⟨bx1, ox, rfl, _, cx⟩
        · have := HX.out; rw [h0] at this; simp at this; omega
        rcases CY.out with h0 | ⟨by1, oy, rfl, _, cy⟩
        · have := HY.out; rw [h0] at this; simp at this; omega
        have hix : i < xs.length := by rw [HX.out]; exact hlt
        have hiy : i < ys.length := by rw [HY.out]; exact hlt
        have cx := cx i hix
        have cy := cy i hiy
        have gx : xs[i]? = some xs[i] := by simp [hix]
        have gy : ys[i]? = some ys[i] := by simp [hiy]
        obtain ⟨x, ex⟩ : ∃ x, xs[i] = x := ⟨_, rfl⟩
        obtain ⟨y, ey⟩ : ∃ y, ys[i] = y := ⟨_, rfl⟩
        rw [ex] at cx gx
        rw [ey] at cy gy
        by_cases hxy : x = y
        · have hz' : Hid (∀ j, j < i + 1 → xs[j]? = ys[j]?) := by
            intro j hj
            rcases Nat.lt_or_ge j i with h | h
            · exact hz.out j h
            · obtain rfl : j = i := by omega
              rw [gx, gy, hxy]
          have t : (((x : Int) != (y : Int))) = false := by rw [hxy]; simp
          clear gx gy ex ey hxy hix hiy
          go_wp2_with fail
          go_quiet (fail)
          go_wp2
          go_roundw
          case rel => exact ⟨i + 1, by go_num, by omega, hz', _, rfl⟩
          case measure => simp [intOf]; omega
        · have e : Hid ((xs == ys) = false) := by
            rw [Hid, beq_eq_false_iff_ne]
            intro h; rw [h, gy] at gx; simp at gx; omega
          have t : (((x : Int) != (y : Int))) = true := by rw [bne_iff_ne]; omega
          clear gx gy ex ey hxy hix hiy
          go_wp2_with fail
          go_quiet (fail)
          go_wp2
          go_ret
          exact ⟨W.ret_bool e.out.symm, _, (World.drewN_drewN ..).symm⟩
      · obtain rfl : i = n := by omega
        have e : Hid ((xs == ys) = true) := by
          rw [Hid, beq_iff_eq]
          apply List.ext_getElem?
          intro j
          rcases Nat.lt_or_ge j i with h | h
          · exact hz.out j h
          · rw [List.getElem?_eq_none (by rw [HX.out]; exact h), List.getElem?_eq_none (by rw [HY.out]; exact h)]
        go_wp2
        go_ret
        exact ⟨W.ret_bool e.out.symm, _, rfl⟩
  · have e : Hid ((xs == ys) = false) := by
      rw [Hid, beq_eq_false_iff_ne]
      intro h; exact hlen (by rw [h])
    have t : (((xs.length : Int) != (ys.length : Int))) = true := by rw [bne_iff_ne]; omega
    clear hlen hx hy
    go_enter Try.func18, Try.ntmps18
    go_wp2
    go_ret
    exact ⟨W.ret_bool e.out.symm, 0, rfl⟩

theorem spoil (B : Nat) (a : Option Addr) (cap : Nat) (xs : List Nat) (w : World) (hs : Own 34 B w a cap xs) (hl : xs.length ≤ 1000000) :
    Calls Try.prog 19 #[.slice a xs.length cap] w fun e w' => e = .returned (.tuple #[]) ∧ w.grownBy w' (blk a) ∧ w'.heap.size = w.heap.size := by
  have hsl := hs.cases
  obtain ⟨n, hn⟩ : ∃ n, xs.length = n := ⟨_, rfl⟩
  have HN := Lib.hid hn
  rw [hn] at hl ⊢
  clear hn
  go_enter Try.func19, Try.ntmps19
  go_wp2
  go_loopw [2] (fun s wr => ∃ i : Nat, s = .int .i64 i ∧ i ≤ n ∧ ∃ ys, Hid (ys.length = n) ∧ Own 34 B wr a cap ys ∧ w.grownBy wr (blk a) ∧ Hid (wr.heap.size = w.heap.size)) (fun s _ => n - (intOf s).toNat)
  case atStart => exact ⟨0, rfl, by omega, xs, HN, hs, ⟨rfl, rfl, rfl, Nat.le_refl _, fun _ _ _ => rfl⟩, rfl⟩
  case round =>
    obtain ⟨i, rfl, hi, ys, hys, ho, hg, hsz⟩ := hrel
    by_cases hlt : i < n
    · rcases hsl with ⟨_, _, rfl⟩ | ⟨g, rfl, _⟩
      · have := HN.out; simp at this; omega
      have hc := ho.cell i (by have := hys.out; omega)
      have hf := ho.free i
      obtain ⟨ho', hg'⟩ := ho.store i 77 (by decide)
      have rel : Hid (Own 34 B (wr.setCell ⟨g, i, none⟩ (.int .u64 77)) (some ⟨g, 0, none⟩) cap (ys.set i 77) ∧ w.grownBy (wr.setCell ⟨g, i, none⟩ (.int .u64 77)) (blk (some ⟨g, 0, none⟩)) ∧ (wr.setCell ⟨g, i, none⟩ (.int .u64 77)).heap.size = w.heap.size) := by
        refine ⟨ho', ?_, ?_⟩
        · exact ⟨hg'.os.trans hg.os, hg'.tape.trans hg.tape, hg'.output.trans hg.output, Nat.le_trans hg.size hg'.size, fun k hk hne => (hg'.block k (by have := hg.size; omega) hne).trans (hg.block k hk hne)⟩
        · simp [World.setCell]; exact hsz.out
      clear ho ho' hg hg'
      go_wp2
      go_roundw
      case rel => exact ⟨i + 1, by go_num, by omega, ys.set i 77, by rw [Hid, List.length_set]; exact hys.out, rel.out.1, rel.out.2.1, rel.out.2.2⟩
      case measure => simp [intOf]; omega
    · go_wp2
      go_end0
      exact ⟨rfl, hg, hsz.out⟩
end Go.Proofs.NT
