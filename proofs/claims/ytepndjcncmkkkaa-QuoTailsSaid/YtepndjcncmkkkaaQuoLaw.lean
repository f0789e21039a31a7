/- What each law of layer 3 asks first: are its arguments short? are two slices the same? -/
import Derived.Test.YtepndjcncmkkkaaQuoP
import Derived.Test.YtepndjcncmkkkaaNatLaw
namespace Go.Proofs.QL
open Go.RowKit
open Go.Proofs
open Go.Proofs.NP
open Go.Proofs.SL
open Go.Proofs.NR
open Go.Proofs.QR
set_option linter.unusedVariables false
set_option linter.unusedSimpArgs false

theorem same0 (H : Nat) (a b : Option Addr) (ca cb : Nat) (xs ys : List Nat) (w : World) (hx : Sl H w a ca xs) (hy : Sl H w b cb ys) (hl : xs.length ≤ 1000000) :
    Calls Try.prog 15 #[.slice a xs.length ca, .slice b ys.length cb] w fun e w' => e = .returned (.bool (xs == ys)) ∧ ∃ k, w.drewN k = w' := by
  by_cases hlen : xs.length = ys.length
  · obtain ⟨n, hn⟩ : ∃ n, ys.length = n := ⟨_, rfl⟩
    have cx := hx.at'
    have cy := hy.at'
    have bx := hx.dig
    have by' := hy.dig
    rw [hlen] at hl ⊢
    rw [hn] at hlen hl ⊢
    have HX := Lib.hid hlen
    have HY := Lib.hid hn
    have CX := Lib.hid cx
    have CY := Lib.hid cy
    clear hlen hn cx cy hx hy
    go_enter Try.func15, Try.ntmps15
    go_wp2
    go_loopw [5] (fun s wr => ∃ i : Nat, s = .int .i64 i ∧ i ≤ n ∧ Hid (∀ j, j < i → xs[j]? = ys[j]?) ∧ ∃ k, wr = w.drewN k) (fun s _ => n - (intOf s).toNat)
    case atStart => exact ⟨0, rfl, by omega, fun j hj => by omega, 0, rfl⟩
    case round =>
      obtain ⟨i, rfl, hi, hz, k, rfl⟩ := hrel
      by_cases hlt : i < n
      · rcases CX.out with h0 | ⟨bx1, ox, rfl, _, cx⟩
        · have := HX.out; rw [h0] at this; simp at this; omega
        rcases CY.out with h0 | ⟨by1, oy, rfl, _, cy⟩
        · have := HY.out; rw [h0] at this; simp at this; omega
        have hix : i < xs.length := by rw [HX.out]; exact hlt
        have hiy : i < ys.length := by rw [HY.out]; exact hlt
        have cx := cx i hix
        have cy := cy i hiy
        have gx : xs[i]? = some xs[i] := by simp [hix]
        have gy : ys[i]? = some ys[i] := by simp [hiy]
        obtain ⟨x, ex⟩ : ∃ x, xs[i] = x := ⟨_, rfl⟩
        obtain ⟨y, ey⟩ : ∃ y, ys[i] = y := ⟨_, rfl⟩
        rw [ex] at cx gx
        rw [ey] at cy gy
        by_cases hxy : x = y
        · have hz' : Hid (∀ j, j < i + 1 → xs[j]? = ys[j]?) := by
            intro j hj
            rcases Nat.lt_or_ge j i with h | h
            · exact hz.out j h
            · obtain rfl : j = i := by omega
              rw [gx, gy, hxy]
          have t : (((x : Int) != (y : Int))) = false := by rw [hxy]; simp
          clear gx gy ex ey hxy hix hiy
          go_wp2_with fail
          go_quiet (fail)
          go_wp2
          go_roundw
          case rel => exact ⟨i + 1, by go_num, by omega, hz', _, rfl⟩
          case measure => simp [intOf]; omega
        · have e : Hid ((xs == ys) = false) := by
            rw [Hid, beq_eq_false_iff_ne]
            intro h; rw [h, gy] at gx; simp at gx; omega
          have t : (((x : Int) != (y : Int))) = true := by rw [bne_iff_ne]; omega
          clear gx gy ex ey hxy hix hiy
          go_wp2_with fail
          go_quiet (fail)
          go_wp2
          go_ret
          exact ⟨W.ret_bool e.out.symm, _, (World.drewN_drewN ..).symm⟩
      · obtain rfl : i = n := by omega
        have e : Hid ((xs == ys) = true) := by
          rw [Hid, beq_iff_eq]
          apply List.ext_getElem?
          intro j
          rcases Nat.lt_or_ge j i with h | h
          · exact hz.out j h
          · rw [List.getElem?_eq_none (by rw [HX.out]; exact h), List.getElem?_eq_none (by rw [HY.out]; exact h)]
        go_wp2
        go_ret
        exact ⟨W.ret_bool e.out.symm, _, rfl⟩
  · have e : Hid ((xs == ys) = false) := by
      rw [Hid, beq_eq_false_iff_ne]
      intro h; exact hlen (by rw [h])
    have t : (((xs.length : Int) != (ys.length : Int))) = true := by rw [bne_iff_ne]; omega
    clear hlen hx hy
    go_enter Try.func15, Try.ntmps15
    go_wp2
    go_ret
    exact ⟨W.ret_bool e.out.symm, 0, rfl⟩

/-- are there more limbs than a statement goes over? -/
def tooLong (ls : List (Option Addr × Nat × Nat)) : Bool := ls.any fun l => decide (12 < l.2.1)

theorem long (g c : Nat) (ls : List (Option Addr × Nat × Nat)) (w : World) (hn : ls.length ≤ 1000) (hc : ∀ i (h : i < ls.length), w.cell? ⟨g, i, none⟩ = some (.slice ls[i].1 ls[i].2.1 ls[i].2.2)) :
    Calls Try.prog 11 #[.slice (some ⟨g, 0, none⟩) ls.length c] w fun e w' => e = .returned (.bool (tooLong ls)) ∧ w = w' := by
  obtain ⟨n, hnn⟩ : ∃ n, ls.length = n := ⟨_, rfl⟩
  rw [hnn] at hn ⊢
  have HN := Lib.hid hnn
  have HC := Lib.hid hc
  clear hnn hc
  go_enter Try.func11, Try.ntmps11
  go_wp2
  go_loop [3] (fun s => ∃ i : Nat, s = .int .i64 i ∧ i ≤ n ∧ Hid (∀ j (h : j < ls.length), j < i → ls[j].2.1 ≤ 12)) (fun s => n - (intOf s).toNat)
  case atStart => exact ⟨0, rfl, by omega, fun j _ hj => by omega⟩
  case round =>
    obtain ⟨i, rfl, hi, hz⟩ := hrel
    by_cases hlt : i < n
    · have hil : i < ls.length := by rw [HN.out]; exact hlt
      have hc := HC.out i hil
      obtain ⟨l, hl⟩ : ∃ l, ls[i] = l := ⟨_, rfl⟩
      have hmem : l ∈ ls := by rw [← hl]; exact List.getElem_mem hil
      rw [hl] at hc
      obtain ⟨la, ll, lc⟩ := l
      dsimp only at hc
      by_cases h12 : 12 < ll
      · have e : Hid (tooLong ls = true) := by
          rw [Hid, tooLong, List.any_eq_true]
          exact ⟨_, hmem, by simpa using h12⟩
        clear hl hmem hil
        go_wp2
        go_ret
        exact ⟨W.ret_bool e.out.symm, rfl⟩
      · have hz' : Hid (∀ j (h : j < ls.length), j < i + 1 → ls[j].2.1 ≤ 12) := by
          intro j h hj
          rcases Nat.lt_or_ge j i with h' | h'
          · exact hz.out j h h'
          · obtain rfl : j = i := by omega
            rw [hl]; show ll ≤ 12; omega
        clear hl hmem hil
        go_wp2
        go_round
        case rel => exact ⟨i + 1, by go_num, by omega, hz'⟩
        case measure => simp [intOf]; omega
    · obtain rfl : i = n := by omega
      have e : Hid (tooLong ls = false) := by
        rw [Hid, tooLong, List.any_eq_false]
        intro l hl
        obtain ⟨j, hj, rfl⟩ := List.getElem_of_mem hl
        have := hz.out j hj (by rw [← HN.out]; exact hj)
        simpa using this
      go_wp2
      go_ret
      exact ⟨W.ret_bool e.out.symm, rfl⟩
variable {w : World} {a b c : Option Addr} {ca cb cc l k j g : Nat} {e : TypeId}
theorem long1 (hg : g = w.heap.size) (z : Bool) (hz : z = decide (12 < l)) :
    Calls Try.prog 11 #[.slice (some ⟨g, 0, none⟩) 1 1] (w.alloc (.cells #[.slice a l ca] e)) fun en w' => en = .returned (.bool z) ∧ w.alloc (.cells #[.slice a l ca] e) = w' := by
  subst hg hz
  have hr := World.ownsRow_lit (e := e) (base := 0) (size := 1) w #[.slice a l ca] 1 (Nat.zero_le _) (by decide) (by simp)
  have := long w.heap.size 1 [(a, l, ca)] (w.alloc (.cells #[.slice a l ca] e)) (by simp) (by
    intro i hi
    have := hr.cellAt i (by simpa using hi)
    rw [this]
    have : i = 0 := by simp at hi; omega
    subst this; rfl)
  simpa [tooLong] using this
theorem long2 (hg : g = w.heap.size) (z : Bool) (hz : z = (decide (12 < l) || decide (12 < k))) :
    Calls Try.prog 11 #[.slice (some ⟨g, 0, none⟩) 2 2] (w.alloc (.cells #[.slice a l ca, .slice b k cb] e)) fun en w' => en = .returned (.bool z) ∧ w.alloc (.cells #[.slice a l ca, .slice b k cb] e) = w' := by
  subst hg hz
  have hr := World.ownsRow_lit (e := e) (base := 0) (size := 1) w #[.slice a l ca, .slice b k cb] 2 (Nat.zero_le _) (by decide) (by simp)
  have := long w.heap.size 2 [(a, l, ca), (b, k, cb)] (w.alloc (.cells #[.slice a l ca, .slice b k cb] e)) (by simp) (by
    intro i hi
    have := hr.cellAt i (by simpa using hi)
    rw [this]
    have : i = 0 ∨ i = 1 := by simp at hi; omega
    rcases this with rfl | rfl <;> rfl)
  simpa [tooLong] using this
theorem long3 (hg : g = w.heap.size) (z : Bool) (hz : z = (decide (12 < l) || (decide (12 < k) || decide (12 < j)))) :
    Calls Try.prog 11 #[.slice (some ⟨g, 0, none⟩) 3 3] (w.alloc (.cells #[.slice a l ca, .slice b k cb, .slice c j cc] e)) fun en w' => en = .returned (.bool z) ∧ w.alloc (.cells #[.slice a l ca, .slice b k cb, .slice c j cc] e) = w' := by
  subst hg hz
  have hr := World.ownsRow_lit (e := e) (base := 0) (size := 1) w #[.slice a l ca, .slice b k cb, .slice c j cc] 3 (Nat.zero_le _) (by decide) (by simp)
  have := long w.heap.size 3 [(a, l, ca), (b, k, cb), (c, j, cc)] (w.alloc (.cells #[.slice a l ca, .slice b k cb, .slice c j cc] e)) (by simp) (by
    intro i hi
    have := hr.cellAt i (by simpa using hi)
    rw [this]
    have : i = 0 ∨ i = 1 ∨ i = 2 := by simp at hi; omega
    rcases this with rfl | rfl | rfl <;> rfl)
  simpa [tooLong] using this

variable {xs ys zs : List Nat}
theorem same (hx : Rd w a ca xs) (hy : Rd w b cb ys) (lx : xs.length = l) (ly : ys.length = k) (h : l ≤ 100000) (z : Bool) (hz : z = (xs == ys)) :
    Calls Try.prog 15 #[.slice a l ca, .slice b k cb] w fun e w' => e = .returned (.bool z) ∧ Kp w w' := by
  subst lx ly hz
  refine (same0 _ a b ca cb xs ys w hx.sl hy.sl (by omega)).mono ?_
  rintro e w' ⟨rfl, k, rfl⟩
  exact ⟨rfl, (Kp.refl _).dr k⟩
theorem same_yes (hx : Rd w a ca xs) (hy : Rd w b cb ys) (lx : xs.length = l) (ly : ys.length = k) (h : l ≤ 100000) (ht : xs = ys) :
    Calls Try.prog 15 #[.slice a l ca, .slice b k cb] w fun e w' => e = .returned (.bool true) ∧ Kp w w' := same hx hy lx ly h true (by simpa using ht)
theorem rows {zs : List Int}
    (h : (a = none ∧ l = 0 ∧ ca = 0 ∧ zs = []) ∨ ∃ x, a = some x ∧ l ≤ ca ∧ ca ≤ maxLen ∧ zs.length = ca ∧ (∀ i, i < zs.length → w.cell? (x.add i) = some (.int .u64 (zs.getD i 0))) ∧ ∀ n ∈ zs, (Lit.int .u64 n).wf = true) :
    ∃ xs : List Nat, xs.length = l ∧ Rd w a ca xs := Rd.of_row h fun n hn => bounds_u64 hn
theorem drL_of {x y : Nat} (hy : y ≠ 0) (h : zs = L (x % y)) : zs = drL x y := by rw [drL, if_neg hy]; exact h
theorem dE_of {y : Nat} (hy : y ≠ 0) : (0 : Int) = dE y := by rw [dE, if_neg hy]
theorem drL_zero {x y : Nat} (hy : y = 0) : [] = drL x y := by rw [drL, if_pos hy]
theorem dE_zero {y : Nat} (hy : y = 0) : (7 : Int) = dE y := by rw [dE, if_pos hy]
theorem dq_zero {x y : Nat} (hy : y = 0) : [] = L (x / y) := by rw [hy, Nat.div_zero]; rfl
theorem fgcd {m n i j : Nat} (h : Fits m i) (h' : Fits n j) : Fits (Nat.gcd m n) (i + j) := by
  by_cases h0 : m = 0
  · subst h0
    rw [Nat.gcd_zero_left]
    exact Nat.lt_of_lt_of_le h' (Nat.pow_le_pow_right (by decide) (by omega))
  · have h1 : Nat.gcd m n ≤ m := Nat.gcd_le_left _ (Nat.pos_of_ne_zero h0)
    exact Nat.lt_of_le_of_lt h1 (Nat.lt_of_lt_of_le h (Nat.pow_le_pow_right (by decide) (by omega)))
end Go.Proofs.QL
