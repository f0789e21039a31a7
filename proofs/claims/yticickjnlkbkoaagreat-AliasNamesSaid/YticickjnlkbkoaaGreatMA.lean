/- The contracts of package nat. -/
import Derived.Test.YticickjnlkbkoaaGreatMW
import Derived.Test.YticickjnlkbkoaaGreatMN
import Derived.OpenShut
/- Contracts of package nat. Every slice is read as a list of words below 2^64, at most a million of them. -/
namespace Go.Proofs.NT
open Go.RowKit
open Go.Proofs
open Go.Proofs.NP
open Go.Proofs.SL
set_option linter.unusedVariables false
set_option maxRecDepth 20000

/-- the limb at a place, 0 outside -/
def lim (xs : List Nat) (at' : Int) : Nat := if at' < 0 then 0 else xs[at'.toNat]?.getD 0

theorem lim_lt (xs : List Nat) (h : Ws xs) (i : Int) : lim xs i < 18446744073709551616 := by
  unfold lim; split
  · decide
  · exact h.getD (by decide) _

theorem lim_nat (xs : List Nat) (i : Nat) : lim xs (i : Int) = xs[i]?.getD 0 := by
  unfold lim; rw [if_neg (by omega), Int.toNat_natCast]

theorem limb (H : Nat) (a : Option Addr) (cap : Nat) (xs : List Nat) (i : Int) (w : World) (hs : Sl H w a cap xs) :
    Calls Tryz.prog 96 #[.slice a xs.length cap, .int .i64 i] w fun e w' => e = .returned (.int .u64 (lim xs i : Nat)) ∧ w = w' := by
  have hmax : (xs.length : Int) ≤ 9223372036854775807 := by have := hs.le; have := hs.max; unfold maxLen at this; omega
  by_cases h0 : i < 0
  · have e : Hid (lim xs i = 0) := by rw [Hid, lim, if_pos h0]
    go_enter Tryz.func96, Tryz.ntmps96
    go_wp2
    go_ret
    exact ⟨W.ret_int (by rw [e.out]; rfl), rfl⟩
  · obtain ⟨n, rfl⟩ := Int.eq_ofNat_of_zero_le (show 0 ≤ i by omega)
    clear h0
    by_cases h1 : n < xs.length
    · rcases hs.at' with h' | ⟨b, off, rfl, hlt, hc⟩
      · subst h'; simp at h1
      · have hc := hc n h1
        have e : Hid ((lim xs n : Nat) = xs[n]) := by rw [Hid, lim_nat]; simp [h1]
        go_enter Tryz.func96, Tryz.ntmps96
        go_wp2
        go_ret
        exact ⟨W.ret_int (by rw [e.out]), rfl⟩
    · have e : Hid ((lim xs n : Nat) = 0) := by rw [Hid, lim_nat]; simp [h1]
      go_enter Tryz.func96, Tryz.ntmps96
      go_wp2
      go_ret
      exact ⟨W.ret_int (by rw [e.out]; rfl), rfl⟩

theorem Tryz.info66 : (Tryz.prog.info? 66).map (fun i => (i.zero, i.size, i.bytes)) = some (some (.int .u64 0), 1, 8) := by kernel_rfl

theorem Sl.news {H : Nat} {w : World} {b off : Nat} {cap : Nat} {xs : List Nat} (hc : ∀ i (h : i < xs.length), w.cell? ⟨b, off + i, none⟩ = some (.int .u64 (xs[i] : Int))) :
    ∀ j u, (xs.map enc)[j]? = some u → w.cell? ((⟨b, off, none⟩ : Addr).add j) = some u := by
  intro j u hu
  have hj : j < xs.length := by
    rcases Nat.lt_or_ge j xs.length with h | h
    · exact h
    · rw [List.getElem?_eq_none (by simpa using h)] at hu; cases hu
  have e : (⟨b, off, none⟩ : Addr).add j = ⟨b, off + j, none⟩ := by unfold Addr.add; split <;> simp_all
  rw [e, hc j hj]
  simp [hj] at hu
  rw [← hu]; rfl

theorem clone_some (ad : Addr) (cap : Nat) (xs : List Nat) (w : World) (hd : Ws xs) (hlen : xs.length ≤ 1000000)
    (hnews : ∀ wx : World, (∀ p, p.block < w.heap.size → wx.cell? p = w.cell? p) → ∀ j u, (xs.map enc)[j]? = some u → wx.cell? (ad.add j) = some u) :
    Calls Tryz.prog 79 #[.slice (some ad) xs.length cap] w (Gives 66 w xs) := by
  obtain ⟨i0, hi, hz0, hz1, hz2⟩ := info_parts Tryz.info66
  have q1 := fun (wx : World) => Lib.run_eql_slice_nil (P := Tryz.prog) wx
  have hown : (w.alloc (.cells #[] 66)).ownsRow w.heap.size 66 1 (.slice (some ⟨w.heap.size, 0, none⟩) 0 0) 0 [] := World.ownsRow_made w #[] 0 (Nat.le_refl _) (by decide) rfl
  have H1 := Lib.hid (hnews (w.alloc (.cells #[] 66)) (fun p hp => World.cell?_alloc_lt w _ p hp))
  clear hnews
  have HD := Lib.hid hd
  clear hd
  obtain ⟨n, hn⟩ : ∃ n, xs.length = n := ⟨_, rfl⟩
  rw [hn] at hlen ⊢
  have HN := Lib.hid hn
  clear hn
  go_enter Tryz.func79, Tryz.ntmps79
  go_wp2_with (at_builtin; refine wpList_append_own _ rfl _ _ 45 rfl w.heap.size 66 i0 (.int .u64 0) 1 8 Tryz.underlying45 hi hz0 hz1 hz2 rfl (by decide) _ 0 [] rfl hown ad n cap (xs.map enc) rfl ?c1 ?c2 ?c3 ?c4 ?c5 ?c6 ?_)
  case c1 => rw [List.length_map, HN.out]; omega
  case c2 => exact H1.out
  case c3 => intro u hu; obtain ⟨x, _, rfl⟩ := List.mem_map.1 hu; rfl
  case c4 => unfold maxLen; omega
  case c5 => omega
  case c6 => simp
  intro v' w1 hown' hgrow _
  have hb : Below w.heap.size w w1 := ((Below.refl _ w).alloc (Nat.le_refl _) _).grown hgrow (by simp) (fun k hk => by simp [Value.ownBlock] at hk; omega)
  have hsh : ∃ a c, v' = .slice a n c := by
    rcases hown'.2 with ⟨rfl, rfl⟩ | ⟨g, c, cur, rfl, _⟩
    · exact ⟨none, 0, rfl⟩
    · exact ⟨_, c, rfl⟩
  obtain ⟨a', c', rfl⟩ := hsh
  have hf : Hid (Gives 66 w xs (.returned (.slice a' n c')) w1) := ⟨a', c', by rw [HN.out], ⟨HD.out, by rw [HN.out]; exact hown'⟩, hb⟩
  clear hb hown' hgrow hown H1 q1
  go_wp2
  go_ret
  exact hf.out

theorem clone (H : Nat) (a : Option Addr) (cap : Nat) (xs : List Nat) (w : World) (hs : Sl H w a cap xs) (hH : H ≤ w.heap.size) (hlen : xs.length ≤ 1000000) :
    Calls Tryz.prog 79 #[.slice a xs.length cap] w (Gives 66 w xs) := by
  cases a with
  | none =>
    have hx : xs = [] := by
      rcases hs.at' with h | ⟨b, off, h, _⟩
      · exact h
      · cases h
    subst hx
    have q1 := fun (wx : World) => Lib.run_eql_slice_nil (P := Tryz.prog) wx
    have hf : Hid (Gives 66 w [] (.returned (.slice none 0 0)) w) := ⟨none, 0, rfl, ⟨Dig.nil _, World.ownsRow_nil w _ _ _⟩, Below.refl _ _⟩
    clear hs
    go_enter Tryz.func79, Tryz.ntmps79
    go_wp2
    go_ret
    exact hf.out
  | some ad =>
    refine clone_some ad cap xs w hs.dig hlen ?_
    intro wx hx
    rcases hs.at' with rfl | ⟨b, off, h, hlt, hc⟩
    · intro j u hu; simp at hu
    · simp only [Option.some.injEq] at h
      subst h
      exact Sl.news (H := H) (cap := cap) fun i hi => by rw [hx _ (by show b < _; omega)]; exact hc i hi

theorem Sl.take {H : Nat} {w : World} {a : Option Addr} {cap : Nat} {xs : List Nat} (h : Sl H w a cap xs) (n : Nat) (hn : n ≤ xs.length) : Sl H w a cap (xs.take n) := by
  refine ⟨h.dig.take n, by have := h.le; simp; omega, h.max, ?_⟩
  rcases h.at' with rfl | ⟨b, off, rfl, hlt, hc⟩
  · exact .inl (by simp)
  · refine .inr ⟨b, off, rfl, hlt, fun i hi => ?_⟩
    rw [hc i (by simp at hi; omega)]
    simp

theorem trim (H : Nat) (a : Option Addr) (cap : Nat) (xs : List Nat) (w : World) (hs : Sl H w a cap xs) (hH : H ≤ w.heap.size) (hlen : xs.length ≤ 1000000) :
    Calls Tryz.prog 53 #[.slice a xs.length cap] w (Gives 66 w (L (V xs))) := by
  have hdone := fun n h1 h2 h3 => trim_done 18446744073709551616 (by decide) hs.dig n h1 h2 h3
  have hle := hs.le
  have hmx : cap ≤ 9223372036854775807 := by have := hs.max; unfold maxLen at this; omega
  change ∀ n, _ → _ → _ → xs.take n = L (V xs) at hdone
  generalize L (V xs) = ds at hdone ⊢
  have HD := Lib.hid hdone
  clear hdone
  go_enter Tryz.func53, Tryz.ntmps53
  go_wp2
  go_loop [3] (fun s => ∃ n : Nat, s = .int .i64 n ∧ n ≤ xs.length ∧ Hid (∀ j, n ≤ j → xs[j]?.getD 0 = 0)) (fun s => (intOf s).toNat)
  case atStart => exact ⟨xs.length, rfl, Nat.le_refl _, fun j hj => by simp [hj]⟩
  case round =>
    obtain ⟨n, rfl, hn, hz⟩ := hrel
    have fin : (n = 0 ∨ xs[n - 1]?.getD 0 ≠ 0) → Calls Tryz.prog 79 #[.slice a n cap] w (Gives 66 w ds) := by
      intro h
      have e := HD.out n hn hz.out h
      have c := clone H a cap (xs.take n) w (Sl.take hs n hn) hH (by simp; omega)
      have hl : (xs.take n).length = n := by simp; omega
      rw [hl] at c
      rw [← e]; exact c
    cases n with
    | zero =>
      have F := Lib.hid (fin (.inl rfl))
      clear fin
      go_wp2_with fail
      refine F.out.mono ?_
      rintro e w1 ⟨a1, c1, rfl, ho, hb⟩
      have hf : Hid (Gives 66 w ds (.returned (.slice a1 ds.length c1)) w1) := ⟨a1, c1, rfl, ho, hb⟩
      clear ho hb
      go_wp2
      go_ret
      exact hf.out
    | succ n =>
      rcases hs.at' with rfl | ⟨b, off, rfl, hlt, hc⟩
      · simp at hn
      have hc := hc n (by omega)
      have hg : xs[n]?.getD 0 = xs[n] := by simp [show n < xs.length by omega]
      by_cases hx : xs[n] = 0
      · rw [hx] at hc
        have hz' : Hid (∀ j, n ≤ j → xs[j]?.getD 0 = 0) := by
          intro j hj
          rcases Nat.eq_or_lt_of_le hj with rfl | h
          · rw [hg, hx]
          · exact hz.out j h
        clear fin hx hg
        go_wp2_with fail
        go_round
        case rel => exact ⟨n, by go_num, by omega, hz'⟩
        case measure => simp [intOf]
      · have F := Lib.hid (fin (.inr (by simpa [hg] using hx)))
        have hx' : (((xs[n] : Nat) : Int) == 0) = false := by simpa using hx
        clear hx hg fin
        go_wp2_with fail
        refine F.out.mono ?_
        rintro e w1 ⟨a1, c1, rfl, ho, hb⟩
        have hf : Hid (Gives 66 w ds (.returned (.slice a1 ds.length c1)) w1) := ⟨a1, c1, rfl, ho, hb⟩
        clear ho hb
        go_wp2
        go_ret
        exact hf.out
end Go.Proofs.NT
/- Contracts of package nat. Every slice is read as a list of words below 2^64, at most a million of them. -/
namespace Go.Proofs.NT
open Go.RowKit
open Go.Proofs
open Go.Proofs.NP
open Go.Proofs.SL
set_option linter.unusedVariables false
set_option maxRecDepth 20000

theorem of (n : Nat) (w : World) (hn : n < 18446744073709551616) :
    Calls Tryz.prog 44 #[.int .u64 (n : Int)] w (Gives 66 w (L n)) := by
  have ho : Own 66 w.heap.size (w.alloc (.cells #[.int .u64 (n : Int)] 66)) (some ⟨w.heap.size, 0, none⟩) 1 [n] := Own.lit [n] (fun x hx => by simp at hx; omega) _ rfl (Nat.le_refl _) (by simp [maxLen])
  have c := trim _ _ _ [n] _ ho.sl (Nat.le_refl _) (by simp)
  have hv : V [n] = n := by simp [V, val]
  rw [hv] at c
  have C := Lib.hid c
  clear c ho hv
  go_enter Tryz.func44, Tryz.ntmps44
  go_wp2_with fail
  refine C.out.mono ?_
  rintro e w1 ⟨a1, c1, rfl, ho, hb⟩
  have hf : Hid (Gives 66 w (L n) (.returned (.slice a1 (L n).length c1)) w1) := ⟨a1, c1, rfl, ho.mono (by simp), ((Below.refl _ w).alloc (Nat.le_refl _) _).trans (hb.mono (by simp))⟩
  clear ho hb
  go_wp2
  go_ret
  exact hf.out

theorem len_any (H : Nat) (a : Option Addr) (cap : Nat) (xs : List Nat) (w : World) (hs : Sl H w a cap xs) (hlen : xs.length ≤ 1000000) :
    Calls Tryz.prog 72 #[.slice a xs.length cap] w fun e w' => e = .returned (.int .i64 (bitLen (V xs) : Nat)) ∧ w = w' := by
  have hb := bitLen_val xs hs.dig
  have hv0 := val_zero_of 18446744073709551616 (by decide) hs.dig
  have HB := Lib.hid hb
  have HV := Lib.hid hv0
  clear hb hv0
  go_enter Tryz.func72, Tryz.ntmps72
  go_wp2
  go_loop [3] (fun s => ∃ k : Nat, s = .int .i64 ((k : Int) - 1) ∧ k ≤ xs.length ∧ Hid (∀ j, k ≤ j → xs[j]?.getD 0 = 0)) (fun s => (intOf s + 1).toNat)
  case atStart => exact ⟨xs.length, rfl, Nat.le_refl _, fun j hj => by simp [hj]⟩
  case round =>
    obtain ⟨k, rfl, hk, hz⟩ := hrel
    cases k with
    | zero =>
      have e : Hid (bitLen (V xs) = 0) := by rw [Hid, V, HV.out (fun j => hz.out j (by omega))]; rfl
      go_wp2
      go_ret
      exact ⟨W.ret_int (by rw [e.out]; rfl), rfl⟩
    | succ n =>
      rw [show ((n + 1 : Nat) : Int) - 1 = (n : Int) by omega]
      rcases hs.at' with rfl | ⟨b, off, rfl, hlt, hc⟩
      · simp at hk
      have hc := hc n (by omega)
      have hg : xs[n]?.getD 0 = xs[n] := by simp [show n < xs.length by omega]
      have hw := hs.dig.get n (by omega)
      by_cases hx : xs[n] = 0
      · rw [hx] at hc
        have hz' : Hid (∀ j, n ≤ j → xs[j]?.getD 0 = 0) := by
          intro j hj
          rcases Nat.eq_or_lt_of_le hj with rfl | h
          · rw [hg, hx]
          · exact hz.out j h
        clear hx hg hw
        go_wp2_with fail
        go_round
        case rel => exact ⟨n, rfl, by omega, hz'⟩
        case measure => simp [intOf]
      · have e : Hid (bitLen (V xs) = n * 64 + bitLen xs[n]) := by
          have := HB.out n (fun j hj => hz.out j hj) (by rw [hg]; exact hx)
          rw [hg] at this; exact this
        have hx' : (((xs[n] : Nat) : Int) != 0) = true := by simpa using hx
        have hl := W.bitLen_64 xs[n] hw
        have c := fun w => W.len ((xs[n] : Nat) : Int) (by omega) (by omega) w
        rw [Int.toNat_natCast] at c
        have C := Lib.hid c
        clear c hx hg
        go_wp2_with fail
        refine (C.out _).mono ?_; rintro e1 w1 ⟨rfl, rfl⟩
        go_wp2
        go_ret
        exact ⟨W.ret_int (by rw [e.out]; omega), rfl⟩

theorem zero_any (H : Nat) (a : Option Addr) (cap : Nat) (xs : List Nat) (w : World) (hs : Sl H w a cap xs) (hlen : xs.length ≤ 1000000) :
    Calls Tryz.prog 50 #[.slice a xs.length cap] w fun e w' => e = .returned (.bool (V xs == 0)) ∧ w = w' := by
  have hz : Hid ((((bitLen (V xs) : Nat) : Int) == 0) = (V xs == 0)) := by
    rw [Hid, Bool.eq_iff_iff]
    simp
    constructor
    · intro h
      by_cases h0 : V xs = 0
      · exact h0
      · have := bitLen_pos _ h0; omega
    · intro h; rw [h]; rfl
  go_enter Tryz.func50, Tryz.ntmps50
  go_wp2_with fail
  refine (len_any H a cap xs _ hs hlen).mono ?_; rintro e1 w1 ⟨rfl, rfl⟩
  go_wp2
  go_ret
  exact ⟨W.ret_bool hz.out, rfl⟩

/-- how two naturals stand -/
def cmpI (x y : Nat) : Int := if x < y then -1 else if y < x then 1 else 0

theorem cmp (H : Nat) (a b : Option Addr) (ca cb : Nat) (xs ys : List Nat) (w : World) (hx : Sl H w a ca xs) (hy : Sl H w b cb ys) (hlx : xs.length ≤ 1000000) (hly : ys.length ≤ 1000000) :
    Calls Tryz.prog 73 #[.slice a xs.length ca, .slice b ys.length cb] w fun e w' => e = .returned (.int .i64 (cmpI (V xs) (V ys))) ∧ w = w' := by
  have hlt := lt_of_dg 18446744073709551616 (by decide) (V xs) (V ys)
  have hgt := lt_of_dg 18446744073709551616 (by decide) (V ys) (V xs)
  have heq := eq_of_dg 18446744073709551616 (by decide) (V xs) (V ys)
  have dx := fun i => V_dg hx.dig i
  have dy := fun i => V_dg hy.dig i
  have bx := fun i => lim_lt xs hx.dig i
  have by' := fun i => lim_lt ys hy.dig i
  have HLT := Lib.hid hlt
  have HGT := Lib.hid hgt
  have HEQ := Lib.hid heq
  have DX := Lib.hid dx
  have DY := Lib.hid dy
  have BX := Lib.hid bx
  have BY := Lib.hid by'
  clear hlt hgt heq dx dy bx by'
  rcases Nat.lt_or_ge xs.length ys.length with hcmp | hcmp
  all_goals
    go_enter Tryz.func73, Tryz.ntmps73
    go_wp2
    go_loop [5] (fun s => ∃ k : Nat, s = .int .i64 ((k : Int) - 1) ∧ k ≤ 1000000 ∧ Hid (∀ j, k ≤ j → dg 18446744073709551616 (V xs) j = dg 18446744073709551616 (V ys) j)) (fun s => (intOf s + 1).toNat)
    case atStart => exact ⟨_, rfl, by omega, fun j hj => by rw [← DX.out, ← DY.out]; simp [show xs.length ≤ j by omega, show ys.length ≤ j by omega]⟩
    case round =>
      obtain ⟨k, rfl, hk, hz⟩ := hrel
      cases k with
      | zero =>
        have e : Hid (cmpI (V xs) (V ys) = 0) := by rw [Hid, cmpI, HEQ.out (fun j => hz.out j (by omega))]; simp
        go_wp2
        go_ret
        exact ⟨W.ret_int (by rw [e.out]), rfl⟩
      | succ n =>
        rw [show ((n + 1 : Nat) : Int) - 1 = (n : Int) by omega]
        have b1 := BX.out n
        have b2 := BY.out n
        have cx := fun wx => limb H a ca xs n wx
        have d1 := DX.out n
        have d2 := DY.out n
        rw [← lim_nat] at d1 d2
        have hL := HLT.out n (fun j hj => hz.out j hj)
        have hG := HGT.out n (fun j hj => (hz.out j hj).symm)
        rw [← d1, ← d2] at hL hG
        have hE : lim xs n = lim ys n → Hid (∀ j, n ≤ j → dg 18446744073709551616 (V xs) j = dg 18446744073709551616 (V ys) j) := by
          intro h j hj
          rcases Nat.eq_or_lt_of_le hj with rfl | h'
          · rw [← d1, ← d2, h]
          · exact hz.out j h'
        obtain ⟨x, ex⟩ : ∃ x, lim xs n = x := ⟨_, rfl⟩
        obtain ⟨y, ey⟩ : ∃ y, lim ys n = y := ⟨_, rfl⟩
        rw [ex] at b1 hL hE hG
        rw [ey] at b2 hL hE hG
        have EX := Lib.hid ex
        have EY := Lib.hid ey
        clear d1 d2 cx ex ey
        rcases Nat.lt_trichotomy x y with h | h | h
        · have e : Hid (cmpI (V xs) (V ys) = -1) := by rw [Hid, cmpI, if_pos (hL h)]
          clear hL hG hE
          go_wp2_with fail
          refine (limb H a ca xs n _ hx).mono ?_; rintro e1 w1 ⟨rfl, rfl⟩; rw [EX.out]
          go_wp2_with fail
          refine (limb H b cb ys n _ hy).mono ?_; rintro e1 w1 ⟨rfl, rfl⟩; rw [EY.out]
          go_wp2_with fail
          go_ret
          exact ⟨W.ret_int (by rw [e.out]), rfl⟩
        · subst h
          have HE := hE rfl
          clear hL hG hE
          go_wp2_with fail
          refine (limb H a ca xs n _ hx).mono ?_; rintro e1 w1 ⟨rfl, rfl⟩; rw [EX.out]
          go_wp2_with fail
          refine (limb H b cb ys n _ hy).mono ?_; rintro e1 w1 ⟨rfl, rfl⟩; rw [EY.out]
          go_wp2_with fail
          go_round
          case rel => exact ⟨n, rfl, by omega, HE⟩
          case measure => simp [intOf]
        · have e : Hid (cmpI (V xs) (V ys) = 1) := by have := hG h; rw [Hid, cmpI, if_neg (by omega), if_pos this]
          have h' : ¬ ((x : Int) < (y : Int)) := by omega
          clear hL hG hE
          go_wp2_with fail
          refine (limb H a ca xs n _ hx).mono ?_; rintro e1 w1 ⟨rfl, rfl⟩; rw [EX.out]
          go_wp2_with fail
          refine (limb H b cb ys n _ hy).mono ?_; rintro e1 w1 ⟨rfl, rfl⟩; rw [EY.out]
          go_wp2_with fail
          go_ret
          exact ⟨W.ret_int (by rw [e.out]), rfl⟩
end Go.Proofs.NT
/- Contracts of package nat. Every slice is read as a list of words below 2^64, at most a million of them. -/
namespace Go.Proofs.NT
open Go.RowKit
open Go.Proofs
open Go.Proofs.NP
open Go.Proofs.SL
set_option linter.unusedVariables false
set_option maxRecDepth 20000

theorem bit_arith (x r : Nat) (hx : x < 18446744073709551616) : (bits BinOp.and IntKind.u64 ((x : Int) / 2 ^ r) 1 == 1) = (x / 2 ^ r % 2 == 1) := by
  have hle : x / 2 ^ r ≤ x := Nat.div_le_self _ _
  have h := bits_and_u64_nat (x / 2 ^ r) 1 (by omega) (by decide)
  rw [W.pow_cast, ← Int.natCast_ediv]
  rw [show ((1 : Nat) : Int) = 1 from rfl] at h
  rw [h, Nat.and_one_is_mod]
  rcases Nat.mod_two_eq_zero_or_one (x / 2 ^ r) with h | h <;> rw [h] <;> rfl

theorem bit_V (xs : List Nat) (h : Ws xs) (n : Nat) : (bits BinOp.and IntKind.u64 ((lim xs ((n : Int) / 64) : Nat) / 2 ^ (n % 64)) 1 == 1) = (V xs / 2 ^ n % 2 == 1) := by
  rw [bit_arith _ _ (lim_lt xs h _), show ((n : Int) / 64) = ((n / 64 : Nat) : Int) by omega, lim_nat, V_dg h, bit_dg 18446744073709551616 64 _ _ _ (by decide) (by omega)]
  congr 4
  omega

theorem same (H : Nat) (a b : Option Addr) (ca cb : Nat) (xs ys : List Nat) (w : World) (hx : Sl H w a ca xs) (hy : Sl H w b cb ys) (hl : xs.length ≤ 1000000) :
    Calls Tryz.prog 26 #[.slice a xs.length ca, .slice b ys.length cb] w fun e w' => e = .returned (.bool (xs == ys)) ∧ ∃ k, w.drewN k = w' := by
  by_cases hlen : xs.length = ys.length
  · obtain ⟨n, hn⟩ : ∃ n, ys.length = n := ⟨_, rfl⟩
    have cx := hx.at'
    have cy := hy.at'
    have bx := hx.dig
    have by' := hy.dig
    rw [hlen] at hl ⊢
    rw [hn] at hlen hl ⊢
    have HX := Lib.hid hlen
    have HY := Lib.hid hn
    have CX := Lib.hid cx
    have CY := Lib.hid cy
    clear hlen hn cx cy hx hy
    go_enter Tryz.func26, Tryz.ntmps26
    go_wp2
    go_loopw [5] (fun s wr => ∃ i : Nat, s = .int .i64 i ∧ i ≤ n ∧ Hid (∀ j, j < i → xs[j]? = ys[j]?) ∧ ∃ k, wr = w.drewN k) (fun s _ => n - (intOf s).toNat)
    case atStart => exact ⟨0, rfl, by omega, fun j hj => by omega, 0, rfl⟩
    case round =>
      obtain ⟨i, rfl, hi, hz, k, rfl⟩ := hrel
      by_cases hlt : i < n
      · rcases CX.out with h0 | ⟨bx1, ox, rfl, _, cx⟩
        · have := HX.out; rw [h0] at this; simp at this; omega
        rcases CY.out with h0 | ⟨by1, oy, rfl, _, cy⟩
        · have := HY.out; rw [h0] at this; simp at this; omega
        have hix : i < xs.length := by rw [HX.out]; exact hlt
        have hiy : i < ys.length := by rw [HY.out]; exact hlt
        have cx := cx i hix
        have cy := cy i hiy
        have gx : xs[i]? = some xs[i] := by simp [hix]
        have gy : ys[i]? = some ys[i] := by simp [hiy]
        obtain ⟨x, ex⟩ : ∃ x, xs[i] = x := ⟨_, rfl⟩
        obtain ⟨y, ey⟩ : ∃ y, ys[i] = y := ⟨_, rfl⟩
        rw [ex] at cx gx
        rw [ey] at cy gy
        by_cases hxy : x = y
        · have hz' : Hid (∀ j, j < i + 1 → xs[j]? = ys[j]?) := by
            intro j hj
            rcases Nat.lt_or_ge j i with h | h
            · exact hz.out j h
            · obtain rfl : j = i := by omega
              rw [gx, gy, hxy]
          have t : (((x : Int) != (y : Int))) = false := by rw [hxy]; simp
          clear gx gy ex ey hxy hix hiy
          go_wp2_with fail
          go_quiet (fail)
          go_wp2
          go_roundw
          case rel => exact ⟨i + 1, by go_num, by omega, hz', _, rfl⟩
          case measure => simp [intOf]; omega
        · have e : Hid ((xs == ys) = false) := by
            rw [Hid, beq_eq_false_iff_ne]
            intro h; rw [h, gy] at gx; simp at gx; omega
          have t : (((x : Int) != (y : Int))) = true := by rw [bne_iff_ne]; omega
          clear gx gy ex ey hxy hix hiy
          go_wp2_with fail
          go_quiet (fail)
          go_wp2
          go_ret
          exact ⟨W.ret_bool e.out.symm, _, (World.drewN_drewN ..).symm⟩
      · obtain rfl : i = n := by omega
        have e : Hid ((xs == ys) = true) := by
          rw [Hid, beq_iff_eq]
          apply List.ext_getElem?
          intro j
          rcases Nat.lt_or_ge j i with h | h
          · exact hz.out j h
          · rw [List.getElem?_eq_none (by rw [HX.out]; exact h), List.getElem?_eq_none (by rw [HY.out]; exact h)]
        go_wp2
        go_ret
        exact ⟨W.ret_bool e.out.symm, _, rfl⟩
  · have e : Hid ((xs == ys) = false) := by
      rw [Hid, beq_eq_false_iff_ne]
      intro h; exact hlen (by rw [h])
    have t : (((xs.length : Int) != (ys.length : Int))) = true := by rw [bne_iff_ne]; omega
    clear hlen hx hy
    go_enter Tryz.func26, Tryz.ntmps26
    go_wp2
    go_ret
    exact ⟨W.ret_bool e.out.symm, 0, rfl⟩

end Go.Proofs.NT
/- Contracts of nat.Add and nat.Sub: sums and differences limb by limb. Every slice is read as a list of words below 2^64, at most 900000 of them. -/
namespace Go.Proofs.NT
open Go.RowKit
open Go.Proofs
open Go.Proofs.NP
open Go.Proofs.SL
set_option linter.unusedVariables false
set_option maxRecDepth 20000

theorem add1 (x y c : Int) (p : Nat) (w : World) (x0 : 0 ≤ x) (y0 : 0 ≤ y) (c0 : 0 ≤ c) (c1 : c ≤ 1)
    (hc : w.cell? ⟨p, 0, none⟩ = some (.int .u64 c)) (hf : w.frozen? ⟨p, 0, none⟩ = false) :
    Calls Tryz.prog 100 #[.int .u64 x, .int .u64 y, .pointer (some ⟨p, 0, none⟩)] w fun e w' =>
      e = .returned (.int .u64 ((x + y + c) % 18446744073709551616)) ∧ w.setCell ⟨p, 0, none⟩ (.int .u64 ((x + y + c) / 18446744073709551616)) = w' := by
  have h := fun w => W.add x y c x0 y0 c0 (by omega) w
  rw [show W.cry c = c by unfold W.cry; omega] at h
  have H := Lib.hid h
  clear h
  go_enter Tryz.func100, Tryz.ntmps100
  go_wp2_with fail
  refine (H.out _).mono ?_; rintro e1 w1 ⟨rfl, rfl⟩
  go_wp2_with fail
  go_ret
  exact ⟨rfl, rfl⟩

theorem sub1 (x y c : Int) (p : Nat) (w : World) (x0 : 0 ≤ x) (y0 : 0 ≤ y) (y1 : y ≤ 18446744073709551615) (c0 : 0 ≤ c) (c1 : c ≤ 1)
    (hc : w.cell? ⟨p, 0, none⟩ = some (.int .u64 c)) (hf : w.frozen? ⟨p, 0, none⟩ = false) :
    Calls Tryz.prog 101 #[.int .u64 x, .int .u64 y, .pointer (some ⟨p, 0, none⟩)] w fun e w' =>
      e = .returned (.int .u64 ((x - y - c) % 18446744073709551616)) ∧ w.setCell ⟨p, 0, none⟩ (.int .u64 (W.bor x (y + c))) = w' := by
  have h := fun w => W.sub x y c x0 y0 y1 c0 (by omega) w
  rw [show W.cry c = c by unfold W.cry; omega] at h
  have H := Lib.hid h
  clear h
  go_enter Tryz.func101, Tryz.ntmps101
  go_wp2_with fail
  refine (H.out _).mono ?_; rintro e1 w1 ⟨rfl, rfl⟩
  go_wp2_with fail
  go_ret
  exact ⟨rfl, rfl⟩

/-- what holds between two limbs of a sum or a difference: T is the result's number, cn the carry by its place -/
structure EachAt (w wr : World) (H p g N : Nat) (T : Nat) (cn : Nat → Nat) (i : Nat) (out : List Nat) : Prop where
  len : out.length = N
  low' : out.take i = low 18446744073709551616 T i
  own : Own 66 (p + 1) wr (some ⟨g, 0, none⟩) N out
  carry : wr.heap[p]? = some (.cells #[.int .u64 (cn i : Nat)] 66 (0, 0))
  bel : Below p w wr

theorem EachAt.next {w wr : World} {H p g N T : Nat} {cn : Nat → Nat} {i : Nat} {out : List Nat} (E : EachAt w wr H p g N T cn i out) (hi : i < N) (hpg : p < g) (C D : Int)
    (hC : C = (cn (i + 1) : Nat)) (hD : D = (dg 18446744073709551616 T i : Nat)) :
    EachAt w ((wr.setCell ⟨p, 0, none⟩ (.int .u64 C)).setCell ⟨g, i, none⟩ (.int .u64 D)) H p g N T cn (i + 1) (out.set i (dg 18446744073709551616 T i)) := by
  subst hC; subst hD
  have hp : p < wr.heap.size := (Array.getElem?_eq_some_iff.1 E.carry).1
  have g1 : wr.grownBy (wr.setCell ⟨p, 0, none⟩ (.int .u64 (cn (i + 1) : Nat))) (some p) :=
    ⟨rfl, rfl, rfl, by simp [World.setCell], fun k _ hk => Below.heap_setCell _ _ _ _ (fun e => hk (by rw [e]))⟩
  have o1 := E.own.kept g1 (fun g' hg' e => by simp only [Option.some.injEq, Addr.mk.injEq, and_true] at hg' e; omega)
  have o2 := o1.store i (dg 18446744073709551616 T i) (dg_lt _ _ _ (by decide))
  refine ⟨by rw [List.length_set]; exact E.len, ?_, o2.1, ?_, ?_⟩
  · have hl : i < out.length := by rw [E.len]; exact hi
    rw [List.take_succ_eq_append_getElem (by rw [List.length_set]; exact hl)]
    rw [List.take_set_of_le (Nat.le_refl _), E.low', low]
    simp
  · rw [o2.2.block p (by simp [World.setCell]; omega) (by simp; omega)]
    simp only [World.setCell, Array.getElem?_modify, if_pos, E.carry]
    rfl
  · exact (E.bel.setCell (p := ⟨p, 0, none⟩) (Nat.le_refl _) _).setCell (p := ⟨g, i, none⟩) (by show p ≤ g; omega) _

theorem EachAt.cell {w wr : World} {H p g N T : Nat} {cn : Nat → Nat} {i : Nat} {out : List Nat} (E : EachAt w wr H p g N T cn i out) :
    wr.cell? ⟨p, 0, none⟩ = some (.int .u64 (cn i : Nat)) ∧ wr.frozen? ⟨p, 0, none⟩ = false :=
  ⟨by rw [cell_of_row wr p 0 _ 66 (0, 0) E.carry]; rfl, frozen_of_row wr p 0 _ 66 E.carry⟩

theorem EachAt.done {w wr : World} {H p g N T : Nat} {cn : Nat → Nat} {out : List Nat} (E : EachAt w wr H p g N T cn N out) (hT : T < 18446744073709551616 ^ N) : V out = T ∧ Sl wr.heap.size wr (some ⟨g, 0, none⟩) N out := by
  have h := E.low'
  rw [List.take_of_length_le (by rw [E.len]; exact Nat.le_refl _)] at h
  exact ⟨by rw [V, h, val_low, Nat.mod_eq_of_lt hT], E.own.sl⟩

theorem bound_add (xs ys : List Nat) (hx : Ws xs) (hy : Ws ys) (M : Nat) (h1 : xs.length ≤ M) (h2 : ys.length ≤ M) : V xs + V ys < 18446744073709551616 ^ (M + 1) := by
  have a := V_lt hx
  have b := V_lt hy
  have a' : V xs < 18446744073709551616 ^ M := Nat.lt_of_lt_of_le a (Nat.pow_le_pow_right (by decide) h1)
  have b' : V ys < 18446744073709551616 ^ M := Nat.lt_of_lt_of_le b (Nat.pow_le_pow_right (by decide) h2)
  rw [Nat.pow_succ]
  omega
theorem bound_sub (xs ys : List Nat) (hx : Ws xs) (M : Nat) (h1 : xs.length ≤ M) : V xs - V ys < 18446744073709551616 ^ (M + 1) := by
  have a := V_lt hx
  have a' : V xs < 18446744073709551616 ^ (M + 1) := Nat.lt_of_lt_of_le a (Nat.pow_le_pow_right (by decide) (by omega))
  omega

set_option maxHeartbeats 1000000 in
theorem each_add (H : Nat) (a b : Option Addr) (ca cb : Nat) (xs ys : List Nat) (p : Nat) (w : World) (hx : Sl H w a ca xs) (hy : Sl H w b cb ys) (hH : H ≤ p)
    (hlx : xs.length ≤ 900000) (hly : ys.length ≤ 900000) (hp : w.heap[p]? = some (.cells #[.int .u64 0] 66 (0, 0))) (hsz : w.heap.size = p + 1) :
    Calls Tryz.prog 99 #[.slice a xs.length ca, .slice b ys.length cb, .func (.func 100) #[] #[.pointer (some ⟨p, 0, none⟩)]] w fun e w' =>
      ∃ a' c', e = .returned (.slice a' (L (V xs + V ys)).length c') ∧ Own 66 (p + 1) w' a' c' (L (V xs + V ys)) ∧ Below p w w' := by
  obtain ⟨i0, hi, hz0, hz1, hz2⟩ := info_parts Tryz.info66
  have z0 := cin_zero 18446744073709551616 (V xs) (V ys)
  rcases Nat.lt_or_ge xs.length ys.length with hcmp | hcmp
  · 
    obtain ⟨wm, hmk, hown0, hgr0⟩ := run_make_full (P := Tryz.prog) w (p + 1) 45 66 i0 (.int .u64 0) 1 Tryz.underlying45 hi hz0 hz1 .i64 .i64 (ys.length + 1) (by rw [hz2]; omega) (by unfold maxLen; omega) (by omega)
    rw [Nat.mul_one, show (Value.int .u64 0).cells = #[Value.int .u64 0] from rfl, toList_madeCells_one] at hown0
    rw [show (((ys.length + 1 : Nat)) : Int) = (ys.length : Int) + 1 by omega] at hmk
    have hsz1 := hgr0.size
    have hb0 : Below p w wm := (Below.refl _ _).grown hgr0 (by omega) (fun k hk => by cases hk)
    have hp1 := (hgr0.block p (by omega) (by simp)).trans hp
    rw [hsz] at hown0 hmk
    have E0 : EachAt w wm H p (p + 1) (ys.length + 1) (V xs + V ys) (cin 18446744073709551616 (V xs) (V ys)) 0 (List.replicate (ys.length + 1) 0) :=
      ⟨by simp, by simp [low], ⟨Dig.zeros (by decide) _, by simpa [enc] using hown0⟩, by rw [z0]; exact hp1, hb0⟩
    clear hown0 hgr0 hp1 hb0
    have hEq := Lib.hid hmk
    have hbx : Below p w wm := E0.bel
    go_enter Tryz.func99, Tryz.ntmps99
    go_wp2_with (rw [hEq.out])
    go_loopw [8, 18] (fun _ s wr => ∃ i : Nat, s = .int .i64 i ∧ i ≤ ys.length + 1 ∧ ∃ out, EachAt w wr H p (p + 1) (ys.length + 1) (V xs + V ys) (cin 18446744073709551616 (V xs) (V ys)) i out) (fun _ s _ => ys.length + 1 - (intOf s).toNat)
    case atStart => exact ⟨0, rfl, by omega, _, E0⟩
    case round =>
      obtain ⟨i, rfl, hi', out, E⟩ := hrel
      by_cases hlt : i < ys.length + 1
      · have nx := EachAt.next E hlt (by omega)
        have ⟨hc, hf⟩ := E.cell
        have ho := E.own.cell i (by rw [E.len]; exact hlt)
        have hof := E.own.free i
        have sx := hx.below E.bel hH
        have sy := hy.below E.bel hH
        have bx := lim_lt xs hx.dig i
        have by' := lim_lt ys hy.dig i
        have st := add_step 18446744073709551616 (V xs) (V ys) i (by decide)
        rw [← V_dg hx.dig, ← V_dg hy.dig, ← lim_nat, ← lim_nat] at st
        have cl := cin_le 18446744073709551616 (V xs) (V ys) i (by decide)
        have ST := Lib.hid st
        clear st
        have NX := Lib.hid nx
        clear nx
        go_wp2_with fail
        refine (limb H a ca xs _ _ sx).mono ?_; rintro e1 w1 ⟨rfl, rfl⟩
        go_wp2_with fail
        refine (limb H b cb ys _ _ sy).mono ?_; rintro e1 w1 ⟨rfl, rfl⟩
        go_wp2_with fail
        refine (add1 _ _ _ p _ (by omega) (by omega) (by omega) (by omega) hc hf).mono ?_; rintro e1 w1 ⟨rfl, rfl⟩
        go_wp2_with fail
        go_roundw
        case rel => exact ⟨i + 1, by go_num, by omega, _, NX.out _ _ (by have := ST.out.2; omega) (by have := ST.out.1; omega)⟩
        case measure => simp [intOf]; omega
      · obtain rfl : i = ys.length + 1 := by omega
        obtain ⟨hv, hsl⟩ := E.done (bound_add xs ys hx.dig hy.dig _ (by omega) (by omega))
        have hlen := E.len
        have c := trim _ _ _ out wr hsl (Nat.le_refl _) (by omega)
        rw [hv, hlen] at c
        have C := Lib.hid c
        have ebel := E.bel
        have esz := E.own.ge.2
        clear c hv hsl
        go_wp2_with fail
        refine C.out.mono ?_
        rintro e w1 ⟨a1, c1, rfl, ho, hb⟩
        have hf : Hid (Own 66 (p + 1) w1 a1 c1 (L (V xs + V ys)) ∧ Below p w w1) := ⟨ho.mono (by omega), ebel.trans (hb.mono (by omega))⟩
        clear ho hb
        go_wp2
        go_ret
        exact ⟨a1, c1, rfl, hf.out⟩

  · 
    obtain ⟨wm, hmk, hown0, hgr0⟩ := run_make_full (P := Tryz.prog) w (p + 1) 45 66 i0 (.int .u64 0) 1 Tryz.underlying45 hi hz0 hz1 .i64 .i64 (xs.length + 1) (by rw [hz2]; omega) (by unfold maxLen; omega) (by omega)
    rw [Nat.mul_one, show (Value.int .u64 0).cells = #[Value.int .u64 0] from rfl, toList_madeCells_one] at hown0
    rw [show (((xs.length + 1 : Nat)) : Int) = (xs.length : Int) + 1 by omega] at hmk
    have hsz1 := hgr0.size
    have hb0 : Below p w wm := (Below.refl _ _).grown hgr0 (by omega) (fun k hk => by cases hk)
    have hp1 := (hgr0.block p (by omega) (by simp)).trans hp
    rw [hsz] at hown0 hmk
    have E0 : EachAt w wm H p (p + 1) (xs.length + 1) (V xs + V ys) (cin 18446744073709551616 (V xs) (V ys)) 0 (List.replicate (xs.length + 1) 0) :=
      ⟨by simp, by simp [low], ⟨Dig.zeros (by decide) _, by simpa [enc] using hown0⟩, by rw [z0]; exact hp1, hb0⟩
    clear hown0 hgr0 hp1 hb0
    have hEq := Lib.hid hmk
    have hbx : Below p w wm := E0.bel
    go_enter Tryz.func99, Tryz.ntmps99
    go_wp2_with (rw [hEq.out])
    go_loopw [8, 18] (fun _ s wr => ∃ i : Nat, s = .int .i64 i ∧ i ≤ xs.length + 1 ∧ ∃ out, EachAt w wr H p (p + 1) (xs.length + 1) (V xs + V ys) (cin 18446744073709551616 (V xs) (V ys)) i out) (fun _ s _ => xs.length + 1 - (intOf s).toNat)
    case atStart => exact ⟨0, rfl, by omega, _, E0⟩
    case round =>
      obtain ⟨i, rfl, hi', out, E⟩ := hrel
      by_cases hlt : i < xs.length + 1
      · have nx := EachAt.next E hlt (by omega)
        have ⟨hc, hf⟩ := E.cell
        have ho := E.own.cell i (by rw [E.len]; exact hlt)
        have hof := E.own.free i
        have sx := hx.below E.bel hH
        have sy := hy.below E.bel hH
        have bx := lim_lt xs hx.dig i
        have by' := lim_lt ys hy.dig i
        have st := add_step 18446744073709551616 (V xs) (V ys) i (by decide)
        rw [← V_dg hx.dig, ← V_dg hy.dig, ← lim_nat, ← lim_nat] at st
        have cl := cin_le 18446744073709551616 (V xs) (V ys) i (by decide)
        have ST := Lib.hid st
        clear st
        have NX := Lib.hid nx
        clear nx
        go_wp2_with fail
        refine (limb H a ca xs _ _ sx).mono ?_; rintro e1 w1 ⟨rfl, rfl⟩
        go_wp2_with fail
        refine (limb H b cb ys _ _ sy).mono ?_; rintro e1 w1 ⟨rfl, rfl⟩
        go_wp2_with fail
        refine (add1 _ _ _ p _ (by omega) (by omega) (by omega) (by omega) hc hf).mono ?_; rintro e1 w1 ⟨rfl, rfl⟩
        go_wp2_with fail
        go_roundw
        case rel => exact ⟨i + 1, by go_num, by omega, _, NX.out _ _ (by have := ST.out.2; omega) (by have := ST.out.1; omega)⟩
        case measure => simp [intOf]; omega
      · obtain rfl : i = xs.length + 1 := by omega
        obtain ⟨hv, hsl⟩ := E.done (bound_add xs ys hx.dig hy.dig _ (by omega) (by omega))
        have hlen := E.len
        have c := trim _ _ _ out wr hsl (Nat.le_refl _) (by omega)
        rw [hv, hlen] at c
        have C := Lib.hid c
        have ebel := E.bel
        have esz := E.own.ge.2
        clear c hv hsl
        go_wp2_with fail
        refine C.out.mono ?_
        rintro e w1 ⟨a1, c1, rfl, ho, hb⟩
        have hf : Hid (Own 66 (p + 1) w1 a1 c1 (L (V xs + V ys)) ∧ Below p w w1) := ⟨ho.mono (by omega), ebel.trans (hb.mono (by omega))⟩
        clear ho hb
        go_wp2
        go_ret
        exact ⟨a1, c1, rfl, hf.out⟩

set_option maxHeartbeats 1000000 in
theorem each_sub (H : Nat) (a b : Option Addr) (ca cb : Nat) (xs ys : List Nat) (p : Nat) (w : World) (hx : Sl H w a ca xs) (hy : Sl H w b cb ys) (hH : H ≤ p)
    (hlx : xs.length ≤ 900000) (hly : ys.length ≤ 900000) (hp : w.heap[p]? = some (.cells #[.int .u64 0] 66 (0, 0))) (hsz : w.heap.size = p + 1) (hle : V ys ≤ V xs) :
    Calls Tryz.prog 99 #[.slice a xs.length ca, .slice b ys.length cb, .func (.func 101) #[] #[.pointer (some ⟨p, 0, none⟩)]] w fun e w' =>
      ∃ a' c', e = .returned (.slice a' (L (V xs - V ys)).length c') ∧ Own 66 (p + 1) w' a' c' (L (V xs - V ys)) ∧ Below p w w' := by
  obtain ⟨i0, hi, hz0, hz1, hz2⟩ := info_parts Tryz.info66
  have z0 := bin_zero 18446744073709551616 (V xs) (V ys)
  rcases Nat.lt_or_ge xs.length ys.length with hcmp | hcmp
  · 
    obtain ⟨wm, hmk, hown0, hgr0⟩ := run_make_full (P := Tryz.prog) w (p + 1) 45 66 i0 (.int .u64 0) 1 Tryz.underlying45 hi hz0 hz1 .i64 .i64 (ys.length + 1) (by rw [hz2]; omega) (by unfold maxLen; omega) (by omega)
    rw [Nat.mul_one, show (Value.int .u64 0).cells = #[Value.int .u64 0] from rfl, toList_madeCells_one] at hown0
    rw [show (((ys.length + 1 : Nat)) : Int) = (ys.length : Int) + 1 by omega] at hmk
    have hsz1 := hgr0.size
    have hb0 : Below p w wm := (Below.refl _ _).grown hgr0 (by omega) (fun k hk => by cases hk)
    have hp1 := (hgr0.block p (by omega) (by simp)).trans hp
    rw [hsz] at hown0 hmk
    have E0 : EachAt w wm H p (p + 1) (ys.length + 1) (V xs - V ys) (bin 18446744073709551616 (V xs) (V ys)) 0 (List.replicate (ys.length + 1) 0) :=
      ⟨by simp, by simp [low], ⟨Dig.zeros (by decide) _, by simpa [enc] using hown0⟩, by rw [z0]; exact hp1, hb0⟩
    clear hown0 hgr0 hp1 hb0
    have hEq := Lib.hid hmk
    have hbx : Below p w wm := E0.bel
    go_enter Tryz.func99, Tryz.ntmps99
    go_wp2_with (rw [hEq.out])
    go_loopw [8, 18] (fun _ s wr => ∃ i : Nat, s = .int .i64 i ∧ i ≤ ys.length + 1 ∧ ∃ out, EachAt w wr H p (p + 1) (ys.length + 1) (V xs - V ys) (bin 18446744073709551616 (V xs) (V ys)) i out) (fun _ s _ => ys.length + 1 - (intOf s).toNat)
    case atStart => exact ⟨0, rfl, by omega, _, E0⟩
    case round =>
      obtain ⟨i, rfl, hi', out, E⟩ := hrel
      by_cases hlt : i < ys.length + 1
      · have nx := EachAt.next E hlt (by omega)
        have ⟨hc, hf⟩ := E.cell
        have ho := E.own.cell i (by rw [E.len]; exact hlt)
        have hof := E.own.free i
        have sx := hx.below E.bel hH
        have sy := hy.below E.bel hH
        have bx := lim_lt xs hx.dig i
        have by' := lim_lt ys hy.dig i
        have st := sub_step 18446744073709551616 (V xs) (V ys) i (by decide) hle
        rw [← V_dg hx.dig, ← V_dg hy.dig, ← lim_nat, ← lim_nat] at st
        have cl := bin_le 18446744073709551616 (V xs) (V ys) i
        have ST := Lib.hid st
        clear st
        have NX := Lib.hid nx
        clear nx
        go_wp2_with fail
        refine (limb H a ca xs _ _ sx).mono ?_; rintro e1 w1 ⟨rfl, rfl⟩
        go_wp2_with fail
        refine (limb H b cb ys _ _ sy).mono ?_; rintro e1 w1 ⟨rfl, rfl⟩
        go_wp2_with fail
        refine (sub1 _ _ _ p _ (by omega) (by omega) (by omega) (by omega) (by omega) hc hf).mono ?_; rintro e1 w1 ⟨rfl, rfl⟩
        go_wp2_with fail
        go_roundw
        case rel => exact ⟨i + 1, by go_num, by omega, _, NX.out _ _ (by rw [← ST.out.2]; unfold W.bor; split <;> split <;> omega) (by have := ST.out.1; omega)⟩
        case measure => simp [intOf]; omega
      · obtain rfl : i = ys.length + 1 := by omega
        obtain ⟨hv, hsl⟩ := E.done (bound_sub xs ys hx.dig _ (by omega))
        have hlen := E.len
        have c := trim _ _ _ out wr hsl (Nat.le_refl _) (by omega)
        rw [hv, hlen] at c
        have C := Lib.hid c
        have ebel := E.bel
        have esz := E.own.ge.2
        clear c hv hsl
        go_wp2_with fail
        refine C.out.mono ?_
        rintro e w1 ⟨a1, c1, rfl, ho, hb⟩
        have hf : Hid (Own 66 (p + 1) w1 a1 c1 (L (V xs - V ys)) ∧ Below p w w1) := ⟨ho.mono (by omega), ebel.trans (hb.mono (by omega))⟩
        clear ho hb
        go_wp2
        go_ret
        exact ⟨a1, c1, rfl, hf.out⟩

  · 
    obtain ⟨wm, hmk, hown0, hgr0⟩ := run_make_full (P := Tryz.prog) w (p + 1) 45 66 i0 (.int .u64 0) 1 Tryz.underlying45 hi hz0 hz1 .i64 .i64 (xs.length + 1) (by rw [hz2]; omega) (by unfold maxLen; omega) (by omega)
    rw [Nat.mul_one, show (Value.int .u64 0).cells = #[Value.int .u64 0] from rfl, toList_madeCells_one] at hown0
    rw [show (((xs.length + 1 : Nat)) : Int) = (xs.length : Int) + 1 by omega] at hmk
    have hsz1 := hgr0.size
    have hb0 : Below p w wm := (Below.refl _ _).grown hgr0 (by omega) (fun k hk => by cases hk)
    have hp1 := (hgr0.block p (by omega) (by simp)).trans hp
    rw [hsz] at hown0 hmk
    have E0 : EachAt w wm H p (p + 1) (xs.length + 1) (V xs - V ys) (bin 18446744073709551616 (V xs) (V ys)) 0 (List.replicate (xs.length + 1) 0) :=
      ⟨by simp, by simp [low], ⟨Dig.zeros (by decide) _, by simpa [enc] using hown0⟩, by rw [z0]; exact hp1, hb0⟩
    clear hown0 hgr0 hp1 hb0
    have hEq := Lib.hid hmk
    have hbx : Below p w wm := E0.bel
    go_enter Tryz.func99, Tryz.ntmps99
    go_wp2_with (rw [hEq.out])
    go_loopw [8, 18] (fun _ s wr => ∃ i : Nat, s = .int .i64 i ∧ i ≤ xs.length + 1 ∧ ∃ out, EachAt w wr H p (p + 1) (xs.length + 1) (V xs - V ys) (bin 18446744073709551616 (V xs) (V ys)) i out) (fun _ s _ => xs.length + 1 - (intOf s).toNat)
    case atStart => exact ⟨0, rfl, by omega, _, E0⟩
    case round =>
      obtain ⟨i, rfl, hi', out, E⟩ := hrel
      by_cases hlt : i < xs.length + 1
      · have nx := EachAt.next E hlt (by omega)
        have ⟨hc, hf⟩ := E.cell
        have ho := E.own.cell i (by rw [E.len]; exact hlt)
        have hof := E.own.free i
        have sx := hx.below E.bel hH
        have sy := hy.below E.bel hH
        have bx := lim_lt xs hx.dig i
        have by' := lim_lt ys hy.dig i
        have st := sub_step 18446744073709551616 (V xs) (V ys) i (by decide) hle
        rw [← V_dg hx.dig, ← V_dg hy.dig, ← lim_nat, ← lim_nat] at st
        have cl := bin_le 18446744073709551616 (V xs) (V ys) i
        have ST := Lib.hid st
        clear st
        have NX := Lib.hid nx
        clear nx
        go_wp2_with fail
        refine (limb H a ca xs _ _ sx).mono ?_; rintro e1 w1 ⟨rfl, rfl⟩
        go_wp2_with fail
        refine (limb H b cb ys _ _ sy).mono ?_; rintro e1 w1 ⟨rfl, rfl⟩
        go_wp2_with fail
        refine (sub1 _ _ _ p _ (by omega) (by omega) (by omega) (by omega) (by omega) hc hf).mono ?_; rintro e1 w1 ⟨rfl, rfl⟩
        go_wp2_with fail
        go_roundw
        case rel => exact ⟨i + 1, by go_num, by omega, _, NX.out _ _ (by rw [← ST.out.2]; unfold W.bor; split <;> split <;> omega) (by have := ST.out.1; omega)⟩
        case measure => simp [intOf]; omega
      · obtain rfl : i = xs.length + 1 := by omega
        obtain ⟨hv, hsl⟩ := E.done (bound_sub xs ys hx.dig _ (by omega))
        have hlen := E.len
        have c := trim _ _ _ out wr hsl (Nat.le_refl _) (by omega)
        rw [hv, hlen] at c
        have C := Lib.hid c
        have ebel := E.bel
        have esz := E.own.ge.2
        clear c hv hsl
        go_wp2_with fail
        refine C.out.mono ?_
        rintro e w1 ⟨a1, c1, rfl, ho, hb⟩
        have hf : Hid (Own 66 (p + 1) w1 a1 c1 (L (V xs - V ys)) ∧ Below p w w1) := ⟨ho.mono (by omega), ebel.trans (hb.mono (by omega))⟩
        clear ho hb
        go_wp2
        go_ret
        exact ⟨a1, c1, rfl, hf.out⟩

theorem add (H : Nat) (a b : Option Addr) (ca cb : Nat) (xs ys : List Nat) (w : World) (hx : Sl H w a ca xs) (hy : Sl H w b cb ys) (hH : H ≤ w.heap.size) (hlx : xs.length ≤ 900000) (hly : ys.length ≤ 900000) :
    Calls Tryz.prog 87 #[.slice a xs.length ca, .slice b ys.length cb] w (Gives 66 w (L (V xs + V ys))) := by
  have hbel : Below w.heap.size w (w.alloc (.cells #[.int .u64 0] 66)) := (Below.refl _ w).alloc (Nat.le_refl _) _
  have c := each_add H a b ca cb xs ys w.heap.size (w.alloc (.cells #[.int .u64 0] 66)) (hx.below hbel hH) (hy.below hbel hH) hH hlx hly (heap_alloc_new w _) (by simp)
  have C := Lib.hid c
  clear c
  go_enter Tryz.func87, Tryz.ntmps87
  go_wp2_with fail
  refine C.out.mono ?_
  rintro e w1 ⟨a1, c1, rfl, ho, hb⟩
  have hf : Hid (Gives 66 w (L (V xs + V ys)) (.returned (.slice a1 (L (V xs + V ys)).length c1)) w1) := ⟨a1, c1, rfl, ho.mono (by omega), hbel.trans hb⟩
  clear ho hb hbel
  go_wp2
  go_ret
  exact hf.out

theorem sub_no (H : Nat) (a b : Option Addr) (ca cb : Nat) (xs ys : List Nat) (w : World) (hx : Sl H w a ca xs) (hy : Sl H w b cb ys) (hlx : xs.length ≤ 900000) (hly : ys.length ≤ 900000) (hlt : V xs < V ys) :
    Calls Tryz.prog 90 #[.slice a xs.length ca, .slice b ys.length cb] w fun e w' => e = .returned (.tuple #[.slice none 0 0, .int .i64 8]) ∧ w = w' := by
  have hc : cmpI (V xs) (V ys) = -1 := by rw [cmpI, if_pos hlt]
  have c := fun w hx hy => cmp H a b ca cb xs ys w hx hy (by omega) (by omega)
  rw [hc] at c
  have C := Lib.hid c
  clear c hc hlt
  go_enter Tryz.func90, Tryz.ntmps90
  go_wp2_with fail
  refine (C.out _ hx hy).mono ?_; rintro e w1 ⟨rfl, rfl⟩
  go_wp2_with fail
  go_ret2
  exact ⟨rfl, rfl⟩

theorem sub_ok (H : Nat) (a b : Option Addr) (ca cb : Nat) (xs ys : List Nat) (w : World) (hx : Sl H w a ca xs) (hy : Sl H w b cb ys) (hH : H ≤ w.heap.size) (hlx : xs.length ≤ 900000) (hly : ys.length ≤ 900000) (hle : V ys ≤ V xs) :
    Calls Tryz.prog 90 #[.slice a xs.length ca, .slice b ys.length cb] w fun e w' =>
      ∃ a' c', e = .returned (.tuple #[.slice a' (L (V xs - V ys)).length c', .int .i64 0]) ∧ Own 66 w.heap.size w' a' c' (L (V xs - V ys)) ∧ Below w.heap.size w w' := by
  have hbel : Below w.heap.size w (w.alloc (.cells #[.int .u64 0] 66)) := (Below.refl _ w).alloc (Nat.le_refl _) _
  have c := each_sub H a b ca cb xs ys w.heap.size (w.alloc (.cells #[.int .u64 0] 66)) (hx.below hbel hH) (hy.below hbel hH) hH hlx hly (heap_alloc_new w _) (by simp) hle
  have hc : 0 ≤ cmpI (V xs) (V ys) := by unfold cmpI; split <;> (try split) <;> omega
  have d := fun w hx hy => cmp H a b ca cb xs ys w hx hy (by omega) (by omega)
  obtain ⟨k, hk⟩ : ∃ k, cmpI (V xs) (V ys) = k := ⟨_, rfl⟩
  rw [hk] at d hc
  have C := Lib.hid c
  have D := Lib.hid d
  clear c d hk hle
  go_enter Tryz.func90, Tryz.ntmps90
  go_wp2_with fail
  refine (D.out _ hx hy).mono ?_; rintro e w1 ⟨rfl, rfl⟩
  go_wp2_with fail
  refine C.out.mono ?_
  rintro e w1 ⟨a1, c1, rfl, ho, hb⟩
  have hf : Hid (Own 66 w.heap.size w1 a1 c1 (L (V xs - V ys)) ∧ Below w.heap.size w w1) := ⟨ho.mono (by omega), hbel.trans hb⟩
  clear ho hb hbel
  go_wp2
  go_ret2
  exact ⟨a1, c1, rfl, hf.out⟩
end Go.Proofs.NT
/- Contract of nat.Mul: a product limb by limb. Every slice is read as a list of words below 2^64, at most 400000 of them. -/
namespace Go.Proofs.NT
open Go.RowKit
open Go.Proofs
open Go.Proofs.NP
open Go.Proofs.SL
set_option linter.unusedVariables false
set_option maxRecDepth 20000

/-- between the rows of a product -/
structure MulAt (w wr : World) (g N : Nat) (xs ys os : List Nat) (i : Nat) : Prop where
  len : os.length = N
  own : Own 66 w.heap.size wr (some ⟨g, 0, none⟩) N os
  rows : NP.Rows 18446744073709551616 os xs ys i
  bel : Below w.heap.size w wr

/-- inside a row -/
structure MulIn (w wr : World) (g N : Nat) (ys os os' : List Nat) (x i k over : Nat) : Prop where
  len : os'.length = N
  own : Own 66 w.heap.size wr (some ⟨g, 0, none⟩) N os'
  row : NP.Row 18446744073709551616 os os' x ys i k over
  bel : Below w.heap.size w wr

theorem MulIn.next {w wr : World} {g N : Nat} {ys os os' : List Nat} {x i k over : Nat} (R : MulIn w wr g N ys os os' x i k over) (hx : x < 18446744073709551616) (hys : Ws ys) (hk : k < ys.length) (hl : i + k < os.length) (D : Int) (v : Nat)
    (hv : v = (x * ys[k] + over + os'[i + k]?.getD 0) / 18446744073709551616) (hD : D = ((x * ys[k] + over + os'[i + k]?.getD 0) % 18446744073709551616 : Nat)) :
    ∃ os'', MulIn w (wr.setCell ⟨g, i + k, none⟩ (.int .u64 D)) g N ys os os'' x i (k + 1) v := by
  subst hv; subst hD
  have o2 := R.own.store (i + k) ((x * ys[k] + over + os'[i + k]?.getD 0) % 18446744073709551616) (Nat.mod_lt _ (by decide))
  have hg := R.own.ge.1
  refine ⟨_, ⟨by rw [List.length_set]; exact R.len, o2.1, R.row.next (by decide) hx hys hk hl, R.bel.setCell (p := ⟨g, i + k, none⟩) hg _⟩⟩

theorem MulIn.done {w wr : World} {g N : Nat} {xs ys os os' : List Nat} {i over : Nat} (hi : i < xs.length) (A : NP.Rows 18446744073709551616 os xs ys i) (hxs : Ws xs) (hys : Ws ys) (R : MulIn w wr g N ys os os' xs[i] i ys.length over) :
    ∃ os'', MulAt w (wr.setCell ⟨g, i + ys.length, none⟩ (.int .u64 (over : Nat))) g N xs ys os'' (i + 1) := by
  have o2 := R.own.store (i + ys.length) over R.row.ov
  have hg := R.own.ge.1
  exact ⟨_, ⟨by rw [List.length_set]; exact R.len, o2.1, A.next (by decide) hxs hys hi R.row, R.bel.setCell (p := ⟨g, i + ys.length, none⟩) hg _⟩⟩

theorem mulP (x y : Nat) (hx : x < 18446744073709551616) (hy : y < 18446744073709551616) : ∃ P : Int, P = (x * y : Nat) ∧ 0 ≤ P ∧ P ≤ 340282366920938463426481119284349108225 ∧
    ∀ w, Calls Tryz.prog 70 #[.int .u64 (x : Int), .int .u64 (y : Int)] w fun e w' => e = .returned (.tuple #[.int .u64 (P / 18446744073709551616), .int .u64 (P % 18446744073709551616)]) ∧ w = w' := by
  refine ⟨((x * y : Nat) : Int), rfl, by omega, ?_, ?_⟩
  · have := Nat.mul_le_mul (show x ≤ 18446744073709551615 by omega) (show y ≤ 18446744073709551615 by omega)
    omega
  · intro w
    have h := W.mul (x : Int) (y : Int) (by omega) (by omega) (by omega) (by omega) w
    rw [W.mulN] at h
    exact h

set_option maxHeartbeats 1000000 in
theorem mul (H : Nat) (a b : Option Addr) (ca cb : Nat) (xs ys : List Nat) (w : World) (hx : Sl H w a ca xs) (hy : Sl H w b cb ys) (hH : H ≤ w.heap.size) (hlx : xs.length ≤ 400000) (hly : ys.length ≤ 400000) :
    Calls Tryz.prog 48 #[.slice a xs.length ca, .slice b ys.length cb] w (Gives 66 w (L (V xs * V ys))) := by
  obtain ⟨i0, hi, hz0, hz1, hz2⟩ := info_parts Tryz.info66
  obtain ⟨wm, hmk, hown0, hgr0⟩ := run_make_full (P := Tryz.prog) w w.heap.size 45 66 i0 (.int .u64 0) 1 Tryz.underlying45 hi hz0 hz1 .i64 .i64 (xs.length + ys.length) (by rw [hz2]; omega) (by unfold maxLen; omega) (Nat.le_refl _)
  rw [Nat.mul_one, show (Value.int .u64 0).cells = #[Value.int .u64 0] from rfl, toList_madeCells_one] at hown0
  rw [show (((xs.length + ys.length : Nat)) : Int) = (xs.length : Int) + (ys.length : Int) by omega] at hmk
  have E0 : MulAt w wm w.heap.size (xs.length + ys.length) xs ys (List.replicate (xs.length + ys.length) 0) 0 :=
    ⟨by simp, ⟨Dig.zeros (by decide) _, by simpa [enc] using hown0⟩, ⟨by simp, Dig.zeros (by decide) _, by simp [val_zeros, val]⟩, (Below.refl _ _).grown hgr0 (Nat.le_refl _) (fun k hk => by cases hk)⟩
  clear hown0 hgr0
  have hEq := Lib.hid hmk
  clear hmk
  go_enter Tryz.func48, Tryz.ntmps48
  go_wp2_with (rw [hEq.out])
  go_loopw [22] (fun s wr => ∃ i : Nat, s = .int .i64 i ∧ i ≤ xs.length ∧ ∃ os, MulAt w wr w.heap.size (xs.length + ys.length) xs ys os i) (fun s _ => xs.length - (intOf s).toNat)
  case atStart => exact ⟨0, rfl, by omega, _, E0⟩
  case round =>
    obtain ⟨i, rfl, hi', os, E⟩ := hrel
    by_cases hlt : i < xs.length
    · rcases hx.at' with rfl | ⟨bx, ox, rfl, hbx, cx⟩
      · simp at hlt
      have cx := cx i hlt
      have bx' := hx.dig.get i hlt
      have e0 := E.bel.cell (p := ⟨bx, ox + i, none⟩) (by show bx < _; omega)
      have cx' : wr.cell? ⟨bx, ox + i, none⟩ = some (.int .u64 (xs[i] : Nat)) := by rw [e0]; exact cx
      have hol := E.len
      obtain ⟨wo, rfl⟩ : ∃ wo : World, wo = wr := ⟨_, rfl⟩
      clear e0 cx
      go_wp2_with fail
      go_loopw [8, 29] (fun s8 s29 wr => ∃ k over : Nat, s8 = .int .u64 over ∧ s29 = .int .i64 k ∧ k ≤ ys.length ∧ ∃ os', MulIn w wr w.heap.size (xs.length + ys.length) ys os os' xs[i] i k over) (fun _ s _ => ys.length - (intOf s).toNat)
      case atStart => exact ⟨0, 0, rfl, rfl, by omega, os, ⟨hol, E.own, Row.start (by decide) E.rows.dig, E.bel⟩⟩
      case round =>
        obtain ⟨k, over, rfl, rfl, hk', os', R⟩ := hrel
        by_cases hlt2 : k < ys.length
        · rcases hy.at' with rfl | ⟨by1, oy, rfl, hby, cy⟩
          · simp at hlt2
          have cy := cy k hlt2
          have by' := hy.dig.get k hlt2
          have e0 := R.bel.cell (p := ⟨by1, oy + k, none⟩) (by show by1 < _; omega)
          have cy' : wr.cell? ⟨by1, oy + k, none⟩ = some (.int .u64 (ys[k] : Nat)) := by rw [e0]; exact cy
          clear e0 cy
          have co := R.own.cell (i + k) (by rw [R.len]; omega)
          have cf := R.own.free (i + k)
          have bo := R.own.dig.getD (by decide) (i + k)
          have bv := R.row.ov
          obtain ⟨P, hP, hP0, hP1, hM⟩ := mulP xs[i] ys[k] bx' by'
          have nx := R.next bx' hy.dig hlt2 (by rw [hol]; omega)
          have HP := Lib.hid hP
          have HM := Lib.hid hM
          have NX := Lib.hid nx
          clear hP hM nx
          go_wp2_with fail
          refine (HM.out _).mono ?_; rintro e1 w1 ⟨rfl, rfl⟩
          go_wp2_with fail
          refine (W.add0 _ _ (by omega) (by omega) _).mono ?_; rintro e1 w1 ⟨rfl, rfl⟩
          go_wp2_with fail
          refine (W.add0 _ _ (by omega) (by omega) _).mono ?_; rintro e1 w1 ⟨rfl, rfl⟩
          go_wp2_with fail
          go_roundw
          case rel =>
            obtain ⟨os'', R'⟩ := NX.out ((P + ↑over + ↑(os'[i + k]?.getD 0)) % 18446744073709551616) ((xs[i] * ys[k] + over + os'[i + k]?.getD 0) / 18446744073709551616) rfl (by have := HP.out; omega)
            exact ⟨k + 1, (xs[i] * ys[k] + over + os'[i + k]?.getD 0) / 18446744073709551616, W.val_int (by have := HP.out; omega), by go_num, by omega, os'', R'⟩
          case measure => simp [intOf]; omega
        · obtain rfl : k = ys.length := by omega
          obtain ⟨os'', A'⟩ := MulIn.done hlt E.rows hx.dig hy.dig R
          have co := R.own.cell (i + ys.length) (by rw [R.len]; omega)
          have cf := R.own.free (i + ys.length)
          have A := Lib.hid A'
          clear A'
          go_wp2_with fail
          go_roundw
          case rel => exact ⟨i + 1, by go_num, by omega, os'', A.out⟩
          case measure => simp [intOf]; omega
    · obtain rfl : i = xs.length := by omega
      have hv := E.rows.done
      have c := trim _ _ _ os wr E.own.sl (Nat.le_refl _) (by rw [E.len]; omega)
      rw [show V os = V xs * V ys from hv, E.len] at c
      have C := Lib.hid c
      have ebel := E.bel
      have esz := E.own.ge.2
      clear c hv
      go_wp2_with fail
      refine C.out.mono ?_
      rintro e w1 ⟨a1, c1, rfl, ho, hb⟩
      have hf : Hid (Gives 66 w (L (V xs * V ys)) (.returned (.slice a1 (L (V xs * V ys)).length c1)) w1) := ⟨a1, c1, rfl, ho.mono (by omega), ebel.trans (hb.mono (by omega))⟩
      clear ho hb
      go_wp2
      go_ret
      exact hf.out
end Go.Proofs.NT
/- Contracts of nat.Shl, Shr, Small and what they call. Every slice is read as a list of words below 2^64, at most 400000 of them. -/
namespace Go.Proofs.NT
open Go.RowKit
open Go.Proofs
open Go.Proofs.NP
open Go.Proofs.SL
set_option linter.unusedVariables false
set_option maxRecDepth 20000

theorem or_split (x y r : Nat) (hx : x < 18446744073709551616) (hr : r < 64) :
    bits BinOp.or IntKind.u64 ((x : Int) / 2 ^ r) (IntKind.u64.wrap ((y : Int) * 2 ^ (64 - r))) = ((x / 2 ^ r + y * 2 ^ (64 - r) % 18446744073709551616 : Nat) : Int) := by
  have p := W.pow_split r (by omega)
  have p0 := Nat.two_pow_pos r
  have b2 : x / 2 ^ r < 2 ^ (64 - r) := by rw [Nat.div_lt_iff_lt_mul p0, Nat.mul_comm, p]; exact hx
  have e2 : y * 2 ^ (64 - r) % 18446744073709551616 = (y % 2 ^ r) * 2 ^ (64 - r) := by rw [← p, Nat.mul_mod_mul_right]
  have hle : x / 2 ^ r ≤ x := Nat.div_le_self _ _
  have hm : y * 2 ^ (64 - r) % 18446744073709551616 < 18446744073709551616 := Nat.mod_lt _ (by decide)
  rw [W.shl_low, W.pow_cast, ← Int.natCast_ediv, bits_or_u64_nat _ _ (by omega) hm, e2, Nat.or_comm, Nat.mul_comm, ← Nat.two_pow_add_eq_or_of_lt b2, Nat.add_comm]

theorem from_arith (xs : List Nat) (h : Ws xs) (P : Nat) (hr : 0 < P % 64) :
    bits BinOp.or IntKind.u64 ((lim xs ((P : Int) / 64) : Nat) / 2 ^ (P % 64)) (IntKind.u64.wrap ((lim xs ((P : Int) / 64 + 1) : Nat) * 2 ^ (64 - P % 64))) = ((V xs / 2 ^ P % 18446744073709551616 : Nat) : Int) := by
  rw [or_split _ _ _ (lim_lt xs h _) (by omega), show ((P : Int) / 64) = ((P / 64 : Nat) : Int) by omega, show ((P / 64 : Nat) : Int) + 1 = ((P / 64 + 1 : Nat) : Int) by omega, lim_nat, lim_nat, V_dg h, V_dg h]
  have s := shr_dg 64 (V xs) (P / 64) (P % 64) 0 (by decide) (by omega)
  rw [Nat.zero_add, show P / 64 * 64 + P % 64 = P by omega] at s
  rw [show (2 : Nat) ^ 64 = 18446744073709551616 from rfl] at s
  rw [← s, dg]; simp
theorem from_arith0 (xs : List Nat) (h : Ws xs) (P : Nat) (hr : P % 64 = 0) : lim xs ((P : Int) / 64) = V xs / 2 ^ P % 18446744073709551616 := by
  rw [show ((P : Int) / 64) = ((P / 64 : Nat) : Int) by omega, lim_nat, V_dg h, dg, show (18446744073709551616 : Nat) = 2 ^ 64 from rfl, ← Nat.pow_mul, show 64 * (P / 64) = P by omega]

theorem from_nn (H : Nat) (a : Option Addr) (cap : Nat) (xs : List Nat) (P : Nat) (w : World) (hs : Sl H w a cap xs) (hP : P ≤ 4611686018427387904) :
    Calls Tryz.prog 84 #[.slice a xs.length cap, .int .i64 (P : Int)] w fun e w' => e = .returned (.int .u64 (V xs / 2 ^ P % 18446744073709551616 : Nat)) ∧ w = w' := by
  have l1 := lim_lt xs hs.dig ((P : Int) / 64)
  have l2 := lim_lt xs hs.dig ((P : Int) / 64 + 1)
  by_cases hr : 0 < P % 64
  · have e := Lib.hid (from_arith xs hs.dig P hr)
    have hr' : (0 : Int) < (P : Int) % 64 := by omega
    go_enter Tryz.func84, Tryz.ntmps84
    go_wp2_with fail
    refine (limb H a cap xs _ _ hs).mono ?_; rintro e1 w1 ⟨rfl, rfl⟩
    go_wp2_with fail
    refine (limb H a cap xs _ _ hs).mono ?_; rintro e1 w1 ⟨rfl, rfl⟩
    go_wp2_with fail
    go_ret
    exact ⟨W.ret_int e.out, rfl⟩
  · have e := Lib.hid (from_arith0 xs hs.dig P (by omega))
    have e2 : (P : Int) % 64 = 0 := by omega
    have e3 : P % 64 = 0 := by omega
    clear hr
    go_enter Tryz.func84, Tryz.ntmps84
    go_wp2_with fail
    refine (limb H a cap xs _ _ hs).mono ?_; rintro e1 w1 ⟨rfl, rfl⟩; rw [e.out]
    go_wp2_with fail
    go_ret
    exact ⟨W.ret_int (by simp), rfl⟩
theorem big_shift (x n : Nat) (h : 64 ≤ n) : x * 2 ^ n % 18446744073709551616 = 0 := by
  have : 2 ^ n = 2 ^ (n - 64) * 18446744073709551616 := by rw [show (18446744073709551616 : Nat) = 2 ^ 64 from rfl, ← Nat.pow_add]; congr 1; omega
  rw [this, ← Nat.mul_assoc, Nat.mul_mod_left]

theorem or_zero (y k : Nat) : bits BinOp.or IntKind.u64 0 (IntKind.u64.wrap ((y : Int) * 2 ^ k)) = ((y * 2 ^ k % 18446744073709551616 : Nat) : Int) := by
  have hm : y * 2 ^ k % 18446744073709551616 < 18446744073709551616 := Nat.mod_lt _ (by decide)
  have h := bits_or_u64_nat 0 (y * 2 ^ k % 18446744073709551616) (by decide) hm
  rw [W.shl_low]
  rw [show ((0 : Nat) : Int) = 0 from rfl] at h
  rw [h, Nat.zero_or]

theorem neg_arith (xs : List Nat) (h : Ws xs) (n : Nat) (hr : 0 < n % 64) :
    bits BinOp.or IntKind.u64 0 (IntKind.u64.wrap ((lim xs (-((n : Int) / 64)) : Nat) * 2 ^ (64 - (-((n : Int) % 64) + 64)).toNat)) = ((V xs * 2 ^ n % 18446744073709551616 : Nat) : Int) := by
  rw [or_zero, show (64 - (-((n : Int) % 64) + 64)).toNat = n % 64 by omega]
  by_cases hn : n < 64
  · have e : lim xs (-((n : Int) / 64)) = V xs % 18446744073709551616 := by
      rw [show -((n : Int) / 64) = ((0 : Nat) : Int) by omega, lim_nat, V_dg h, dg]; simp
    rw [e, show n % 64 = n by omega, Nat.mod_mul_mod]
  · have e : lim xs (-((n : Int) / 64)) = 0 := by rw [lim, if_pos (by omega)]
    rw [e, big_shift _ n (by omega)]; simp

theorem from_neg (H : Nat) (a : Option Addr) (cap : Nat) (xs : List Nat) (n : Nat) (w : World) (hs : Sl H w a cap xs) (hP : n ≤ 4611686018427387904) (hn : 0 < n) :
    Calls Tryz.prog 84 #[.slice a xs.length cap, .int .i64 (-(n : Int))] w fun e w' => e = .returned (.int .u64 (V xs * 2 ^ n % 18446744073709551616 : Nat)) ∧ w = w' := by
  by_cases hr : 0 < n % 64
  · have hr' : (0 : Int) < (n : Int) % 64 := by omega
    have e0 : lim xs (-((n : Int) / 64) - 1) = 0 := by rw [lim, if_pos (by omega)]
    have E0 := Lib.hid e0
    have E := Lib.hid (neg_arith xs hs.dig n hr)
    have l2 := lim_lt xs hs.dig (-((n : Int) / 64))
    clear e0 hr
    go_enter Tryz.func84, Tryz.ntmps84
    go_wp2_with fail
    refine (limb H a cap xs _ _ hs).mono ?_; rintro e1 w1 ⟨rfl, rfl⟩; rw [E0.out]
    go_wp2_with fail
    refine (limb H a cap xs _ _ hs).mono ?_; rintro e1 w1 ⟨rfl, rfl⟩
    go_wp2_with fail
    go_ret
    exact ⟨W.ret_int E.out, rfl⟩
  · have hr' : (n : Int) % 64 = 0 := by omega
    have hr2 : n % 64 = 0 := by omega
    have e0 : Hid (lim xs (-((n : Int) / 64)) = 0) := by rw [Hid, lim, if_pos (by omega)]
    clear hr
    go_enter Tryz.func84, Tryz.ntmps84
    go_wp2_with fail
    refine (limb H a cap xs _ _ hs).mono ?_; rintro e1 w1 ⟨rfl, rfl⟩; rw [e0.out]
    have E := Lib.hid (big_shift (V xs) n (by omega))
    go_wp2_with fail
    go_ret
    exact ⟨W.ret_int (by rw [E.out]; rfl), rfl⟩

theorem may_yes (n : Int) (h0 : 0 ≤ n) (h1 : n ≤ 65536) (w : World) :
    Calls Tryz.prog 67 #[.int .i64 n] w fun e w' => e = .returned (.bool true) ∧ w = w' := by
  go_enter Tryz.func67, Tryz.ntmps67
  go_wp2
  go_ret
  exact ⟨rfl, rfl⟩
theorem may_no (n : Int) (h : n < 0 ∨ 65536 < n) (w : World) :
    Calls Tryz.prog 67 #[.int .i64 n] w fun e w' => e = .returned (.bool false) ∧ w = w' := by
  rcases h with h | h
  · go_enter Tryz.func67, Tryz.ntmps67
    go_wp2
    go_ret
    exact ⟨rfl, rfl⟩
  · have h0 : 0 ≤ n := by omega
    have h1 : decide (n ≤ 65536) = false := by simpa using h
    go_enter Tryz.func67, Tryz.ntmps67
    go_wp2
    go_ret
    exact ⟨rfl, rfl⟩

/-- what holds between two limbs of a shifted natural -/
structure ShAt (w wr : World) (g N T i : Nat) (out : List Nat) : Prop where
  len : out.length = N
  low' : out.take i = low 18446744073709551616 T i
  own : Own 66 w.heap.size wr (some ⟨g, 0, none⟩) N out
  bel : Below w.heap.size w wr

theorem ShAt.next {w wr : World} {g N T i : Nat} {out : List Nat} (E : ShAt w wr g N T i out) (hi : i < N) (D : Int) (hD : D = (dg 18446744073709551616 T i : Nat)) :
    ShAt w (wr.setCell ⟨g, i, none⟩ (.int .u64 D)) g N T (i + 1) (out.set i (dg 18446744073709551616 T i)) := by
  subst hD
  have o2 := E.own.store i (dg 18446744073709551616 T i) (dg_lt _ _ _ (by decide))
  refine ⟨by rw [List.length_set]; exact E.len, ?_, o2.1, E.bel.setCell (p := ⟨g, i, none⟩) E.own.ge.1 _⟩
  have hl : i < out.length := by rw [E.len]; exact hi
  rw [List.take_succ_eq_append_getElem (by rw [List.length_set]; exact hl)]
  rw [List.take_set_of_le (Nat.le_refl _), E.low', low]
  simp

theorem ShAt.done {w wr : World} {g N T : Nat} {out : List Nat} (E : ShAt w wr g N T N out) (hT : T < 18446744073709551616 ^ N) : V out = T := by
  have h := E.low'
  rw [List.take_of_length_le (by rw [E.len]; exact Nat.le_refl _)] at h
  rw [V, h, val_low, Nat.mod_eq_of_lt hT]

/-- the loop of shifted, for whatever number T has the limbs that 'from' tells -/
theorem shifted (H : Nat) (a : Option Addr) (cap : Nat) (xs : List Nat) (w : World) (hs : Sl H w a cap xs) (hH : H ≤ w.heap.size) (N T : Nat) (place : Int) (hN : N ≤ 900000) (p0 : -1000000000 ≤ place) (p1 : place ≤ 1000000000) (hT : T < 18446744073709551616 ^ N)
    (hf : ∀ i : Nat, i < N → ∀ wr, Sl H wr a cap xs → Calls Tryz.prog 84 #[.slice a xs.length cap, .int .i64 ((i : Int) * 64 + place)] wr fun e w' => e = .returned (.int .u64 (dg 18446744073709551616 T i : Nat)) ∧ wr = w') :
    Calls Tryz.prog 68 #[.slice a xs.length cap, .int .i64 (N : Int), .int .i64 place] w (Gives 66 w (L T)) := by
  obtain ⟨i0, hi, hz0, hz1, hz2⟩ := info_parts Tryz.info66
  obtain ⟨wm, hmk, hown0, hgr0⟩ := run_make_full (P := Tryz.prog) w w.heap.size 45 66 i0 (.int .u64 0) 1 Tryz.underlying45 hi hz0 hz1 .i64 .i64 N (by rw [hz2]; omega) (by unfold maxLen; omega) (Nat.le_refl _)
  rw [Nat.mul_one, show (Value.int .u64 0).cells = #[Value.int .u64 0] from rfl, toList_madeCells_one] at hown0
  have E0 : ShAt w wm w.heap.size N T 0 (List.replicate N 0) :=
    ⟨by simp, by simp [low], ⟨Dig.zeros (by decide) _, by simpa [enc] using hown0⟩, (Below.refl _ _).grown hgr0 (Nat.le_refl _) (fun k hk => by cases hk)⟩
  clear hown0 hgr0
  have hEq := Lib.hid hmk
  have HF := Lib.hid hf
  clear hmk hf
  go_enter Tryz.func68, Tryz.ntmps68
  go_wp2_with (rw [hEq.out])
  go_loopw [13] (fun s wr => ∃ i : Nat, s = .int .i64 i ∧ i ≤ N ∧ ∃ out, ShAt w wr w.heap.size N T i out) (fun s _ => N - (intOf s).toNat)
  case atStart => exact ⟨0, rfl, by omega, _, E0⟩
  case round =>
    obtain ⟨i, rfl, hi', out, E⟩ := hrel
    by_cases hlt : i < N
    · have nx := E.next hlt _ rfl
      have ho := E.own.cell i (by rw [E.len]; exact hlt)
      have hof := E.own.free i
      have sx := hs.below E.bel hH
      have bd := dg_lt 18446744073709551616 T i (by decide)
      have NX := Lib.hid nx
      clear nx
      go_wp2_with fail
      refine (HF.out i hlt _ sx).mono ?_; rintro e1 w1 ⟨rfl, rfl⟩
      go_wp2_with fail
      go_roundw
      case rel => exact ⟨i + 1, by go_num, by omega, _, NX.out⟩
      case measure => simp [intOf]; omega
    · obtain rfl : i = N := by omega
      have hv := E.done hT
      have c := trim _ _ _ out wr E.own.sl (Nat.le_refl _) (by rw [E.len]; omega)
      rw [hv, E.len] at c
      have C := Lib.hid c
      have ebel := E.bel
      have esz := E.own.ge.2
      clear c hv
      go_wp2_with fail
      refine C.out.mono ?_
      rintro e w1 ⟨a1, c1, rfl, ho, hb⟩
      have hf : Hid (Gives 66 w (L T) (.returned (.slice a1 (L T).length c1)) w1) := ⟨a1, c1, rfl, ho.mono (by omega), ebel.trans (hb.mono (by omega))⟩
      clear ho hb
      go_wp2
      go_ret
      exact hf.out

theorem dg_shr (x n i : Nat) : x / 2 ^ (i * 64 + n) % 18446744073709551616 = dg 18446744073709551616 (x / 2 ^ n) i := by
  rw [dg, show (18446744073709551616 : Nat) ^ i = 2 ^ (i * 64) by rw [Nat.mul_comm, Nat.pow_mul], Nat.div_div_eq_div_mul, ← Nat.pow_add, Nat.add_comm]

theorem dg_shl_hi (x n i : Nat) (h : n ≤ i * 64) : x / 2 ^ (i * 64 - n) % 18446744073709551616 = dg 18446744073709551616 (x * 2 ^ n) i := by
  rw [dg, show (18446744073709551616 : Nat) ^ i = 2 ^ (i * 64) by rw [Nat.mul_comm, Nat.pow_mul]]
  have : 2 ^ (i * 64) = 2 ^ n * 2 ^ (i * 64 - n) := by rw [← Nat.pow_add]; congr 1; omega
  rw [this, Nat.mul_comm x, Nat.mul_div_mul_left _ _ (Nat.two_pow_pos n)]

theorem dg_shl_lo (x n i : Nat) (h : i * 64 < n) : x * 2 ^ (n - i * 64) % 18446744073709551616 = dg 18446744073709551616 (x * 2 ^ n) i := by
  rw [dg, show (18446744073709551616 : Nat) ^ i = 2 ^ (i * 64) by rw [Nat.mul_comm, Nat.pow_mul]]
  have : 2 ^ n = 2 ^ (n - i * 64) * 2 ^ (i * 64) := by rw [← Nat.pow_add]; congr 1; omega
  rw [this, ← Nat.mul_assoc, Nat.mul_div_cancel _ (Nat.two_pow_pos _)]

theorem shr_bound (xs : List Nat) (h : Ws xs) (n : Nat) : V xs / 2 ^ n < 18446744073709551616 ^ xs.length := Nat.lt_of_le_of_lt (Nat.div_le_self _ _) (V_lt h)
theorem shl_bound (xs : List Nat) (h : Ws xs) (n : Nat) : V xs * 2 ^ n < 18446744073709551616 ^ (xs.length + n / 64 + 1) := by
  have a := V_lt h
  have e : 2 ^ n ≤ 18446744073709551616 ^ (n / 64 + 1) := by
    rw [show (18446744073709551616 : Nat) = 2 ^ 64 from rfl, ← Nat.pow_mul]
    exact Nat.pow_le_pow_right (by decide) (by omega)
  rw [Nat.add_assoc, Nat.pow_add]
  exact Nat.mul_lt_mul_of_lt_of_le a e (Nat.two_pow_pos n |> fun h => by omega)

theorem shr_no (a : Option Addr) (len cap : Nat) (n : Int) (w : World) (h : n < 0 ∨ 65536 < n) :
    Calls Tryz.prog 78 #[.slice a len cap, .int .i64 n] w fun e w' => e = .returned (.tuple #[.slice none 0 0, .int .i64 1]) ∧ w = w' := by
  go_enter Tryz.func78, Tryz.ntmps78
  go_wp2_with fail
  refine (may_no n h _).mono ?_; rintro e1 w1 ⟨rfl, rfl⟩
  go_wp2_with fail
  go_ret2
  exact ⟨rfl, rfl⟩
theorem shl_no (a : Option Addr) (len cap : Nat) (n : Int) (w : World) (h : n < 0 ∨ 65536 < n) :
    Calls Tryz.prog 43 #[.slice a len cap, .int .i64 n] w fun e w' => e = .returned (.tuple #[.slice none 0 0, .int .i64 1]) ∧ w = w' := by
  go_enter Tryz.func43, Tryz.ntmps43
  go_wp2_with fail
  refine (may_no n h _).mono ?_; rintro e1 w1 ⟨rfl, rfl⟩
  go_wp2_with fail
  go_ret2
  exact ⟨rfl, rfl⟩

theorem shr_ok (H : Nat) (a : Option Addr) (cap : Nat) (xs : List Nat) (n : Nat) (w : World) (hs : Sl H w a cap xs) (hH : H ≤ w.heap.size) (hl : xs.length ≤ 400000) (hn : n ≤ 65536) :
    Calls Tryz.prog 78 #[.slice a xs.length cap, .int .i64 (n : Int)] w fun e w' =>
      ∃ a' c', e = .returned (.tuple #[.slice a' (L (V xs / 2 ^ n)).length c', .int .i64 0]) ∧ Own 66 w.heap.size w' a' c' (L (V xs / 2 ^ n)) ∧ Below w.heap.size w w' := by
  have c := shifted H a cap xs w hs hH xs.length (V xs / 2 ^ n) (n : Int) (by omega) (by omega) (by omega) (shr_bound xs hs.dig n) (by
    intro i hi wr hr
    have := from_nn H a cap xs (i * 64 + n) wr hr (by omega)
    rw [dg_shr, show ((i * 64 + n : Nat) : Int) = (i : Int) * 64 + (n : Int) by omega] at this
    exact this)
  have C := Lib.hid c
  clear c
  go_enter Tryz.func78, Tryz.ntmps78
  go_wp2_with fail
  refine (may_yes n (by omega) (by omega) _).mono ?_; rintro e1 w1 ⟨rfl, rfl⟩
  go_wp2_with fail
  refine C.out.mono ?_
  rintro e w1 ⟨a1, c1, rfl, ho, hb⟩
  have hf : Hid (Own 66 w.heap.size w1 a1 c1 (L (V xs / 2 ^ n)) ∧ Below w.heap.size w w1) := ⟨ho, hb⟩
  clear ho hb
  go_wp2
  go_ret2
  exact ⟨a1, c1, rfl, hf.out⟩

theorem shl_ok (H : Nat) (a : Option Addr) (cap : Nat) (xs : List Nat) (n : Nat) (w : World) (hs : Sl H w a cap xs) (hH : H ≤ w.heap.size) (hl : xs.length ≤ 400000) (hn : n ≤ 65536) :
    Calls Tryz.prog 43 #[.slice a xs.length cap, .int .i64 (n : Int)] w fun e w' =>
      ∃ a' c', e = .returned (.tuple #[.slice a' (L (V xs * 2 ^ n)).length c', .int .i64 0]) ∧ Own 66 w.heap.size w' a' c' (L (V xs * 2 ^ n)) ∧ Below w.heap.size w w' := by
  have c := shifted H a cap xs w hs hH (xs.length + n / 64 + 1) (V xs * 2 ^ n) (-(n : Int)) (by omega) (by omega) (by omega) (shl_bound xs hs.dig n) (by
    intro i hi wr hr
    by_cases h : n ≤ i * 64
    · have := from_nn H a cap xs (i * 64 - n) wr hr (by omega)
      rw [dg_shl_hi _ _ _ h, show ((i * 64 - n : Nat) : Int) = (i : Int) * 64 + -(n : Int) by omega] at this
      exact this
    · have := from_neg H a cap xs (n - i * 64) wr hr (by omega) (by omega)
      rw [dg_shl_lo _ _ _ (by omega), show -((n - i * 64 : Nat) : Int) = (i : Int) * 64 + -(n : Int) by omega] at this
      exact this)
  rw [show ((xs.length + n / 64 + 1 : Nat) : Int) = (xs.length : Int) + (n : Int) / 64 + 1 by omega] at c
  have C := Lib.hid c
  clear c
  go_enter Tryz.func43, Tryz.ntmps43
  go_wp2_with fail
  refine (may_yes n (by omega) (by omega) _).mono ?_; rintro e1 w1 ⟨rfl, rfl⟩
  go_wp2_with fail
  refine C.out.mono ?_
  rintro e w1 ⟨a1, c1, rfl, ho, hb⟩
  have hf : Hid (Own 66 w.heap.size w1 a1 c1 (L (V xs * 2 ^ n)) ∧ Below w.heap.size w w1) := ⟨ho, hb⟩
  clear ho hb
  go_wp2
  go_ret2
  exact ⟨a1, c1, rfl, hf.out⟩

end Go.Proofs.NT
/- The contract of tombolalaw02.Long: whether one of the slices has more than 24 limbs. -/
namespace Go.Proofs.NT
open Go.RowKit
open Go.Proofs
open Go.Proofs.NP
open Go.Proofs.SL
set_option linter.unusedVariables false
set_option maxRecDepth 20000

/-- are there more limbs than a statement goes over? -/
def tooLong (ls : List (Option Addr × Nat × Nat)) : Bool := ls.any fun l => decide (24 < l.2.1)

end Go.Proofs.NT
/- The contracts of package nat once more, over slices that lie in the world and over what they read as. At most 100000 limbs each. -/
namespace Go.Proofs.NR
open Go.RowKit
open Go.Proofs
open Go.Proofs.NP
open Go.Proofs.SL
set_option linter.unusedVariables false
set_option maxRecDepth 20000

/-- a number of at most i limbs -/
def Fits (m i : Nat) : Prop := m < 18446744073709551616 ^ i

theorem Fits.len {m i : Nat} (h : Fits m i) : (L m).length ≤ i := L_len _ _ h
theorem Fits.of {xs : List Nat} {i : Nat} (h : Ws xs) (hi : xs.length ≤ i) : Fits (V xs) i := Nat.lt_of_lt_of_le (V_lt h) (Nat.pow_le_pow_right (by decide) hi)
theorem Fits.mono {m n i : Nat} (h : Fits m i) (hn : n ≤ m) : Fits n i := Nat.lt_of_le_of_lt hn h
theorem Fits.sub {m i : Nat} (h : Fits m i) (n : Nat) : Fits (m - n) i := h.mono (Nat.sub_le _ _)
theorem Fits.div {m i : Nat} (h : Fits m i) (n : Nat) : Fits (m / n) i := h.mono (Nat.div_le_self _ _)
theorem Fits.mul {m n i j : Nat} (h : Fits m i) (h' : Fits n j) : Fits (m * n) (i + j) := by
  unfold Fits at *; rw [Nat.pow_add]; exact Nat.mul_lt_mul'' h h'
theorem Fits.add {m n i j : Nat} (h : Fits m i) (h' : Fits n j) : Fits (m + n) (i + j + 1) := by
  unfold Fits at *
  generalize hB : (18446744073709551616 : Nat) = B at *
  have hB' : 2 ≤ B := by omega
  have h1 : B ^ i ≤ B ^ (i + j) := Nat.pow_le_pow_right (by omega) (by omega)
  have h2 : B ^ j ≤ B ^ (i + j) := Nat.pow_le_pow_right (by omega) (by omega)
  have h3 : B ^ (i + j) * 2 ≤ B ^ (i + j) * B := Nat.mul_le_mul_left _ hB'
  rw [Nat.pow_succ]; omega
theorem Fits.shl {m i : Nat} (h : Fits m i) (k : Nat) : Fits (m * 2 ^ k) (i + k) := by
  unfold Fits at *
  rw [Nat.pow_add]
  have : 2 ^ k ≤ 18446744073709551616 ^ k := Nat.pow_le_pow_left (by decide) k
  exact Nat.lt_of_lt_of_le (Nat.mul_lt_mul_of_pos_right h (Nat.two_pow_pos k)) (Nat.mul_le_mul_left _ this)
/-- the limbs that a number is told by -/
theorem L_of {xs : List Nat} {m : Nat} (h : (xs.all fun x => decide (x < 18446744073709551616)) = true) (hl : (xs.isEmpty || xs.getLast? != some 0) = true) (hm : V xs = m) : xs = L m := by
  rw [← hm, L_V (ws_of xs h)]
  intro hne h0
  rw [List.getLast?_eq_some_getLast hne, h0] at hl
  cases xs with
  | nil => exact hne rfl
  | cons x xs => simp at hl

variable {w : World} {a b : Option Addr} {ca cb l k : Nat} {xs ys zs : List Nat}

/-- a call gives a new slice, beside the error 0 -/
def GivesE (e : TypeId) (w : World) (xs : List Nat) (en : Ending) (w' : World) : Prop :=
  ∃ a cap, en = .returned (.tuple #[.slice a xs.length cap, .int .i64 0]) ∧ Own e w.heap.size w' a cap xs ∧ Below w.heap.size w w'

/-- .. of length -/
theorem len_of {xs : List Nat} {m : Nat} (h : xs = L m) {i : Nat} (f : Fits m i) : xs.length ≤ i := by rw [h]; exact f.len

theorem trim (hx : Rd w a ca xs) (lx : xs.length = l) (h : l ≤ 100000) (hz : zs = L (V xs)) : Calls Tryz.prog 53 #[.slice a l ca] w (Gives 66 w zs) := by
  subst lx hz; exact NT.trim _ a ca xs w hx.sl (Nat.le_refl _) (by omega)
theorem of (n : Nat) (w : World) (hn : n < 18446744073709551616) : Calls Tryz.prog 44 #[.int .u64 (n : Int)] w (Gives 66 w (L n)) := NT.of n w hn
theorem len (hx : Rd w a ca xs) (lx : xs.length = l) (h : l ≤ 100000) (z : Nat) (hz : z = bitLen (V xs)) : Calls Tryz.prog 72 #[.slice a l ca] w fun e w' => e = .returned (.int .i64 (z : Nat)) ∧ w = w' := by
  subst lx hz; exact NT.len_any _ a ca xs w hx.sl (by omega)
theorem zero (hx : Rd w a ca xs) (lx : xs.length = l) (h : l ≤ 100000) (z : Bool) (hz : z = (V xs == 0)) : Calls Tryz.prog 50 #[.slice a l ca] w fun e w' => e = .returned (.bool z) ∧ w = w' := by
  subst lx hz; exact NT.zero_any _ a ca xs w hx.sl (by omega)
theorem cmp (hx : Rd w a ca xs) (hy : Rd w b cb ys) (lx : xs.length = l) (ly : ys.length = k) (h : l ≤ 100000) (h' : k ≤ 100000) (z : Int) (hz : z = NT.cmpI (V xs) (V ys)) :
    Calls Tryz.prog 73 #[.slice a l ca, .slice b k cb] w fun e w' => e = .returned (.int .i64 z) ∧ w = w' := by
  subst lx ly hz; exact NT.cmp _ a b ca cb xs ys w hx.sl hy.sl (by omega) (by omega)
theorem add (hx : Rd w a ca xs) (hy : Rd w b cb ys) (lx : xs.length = l) (ly : ys.length = k) (h : l ≤ 100000) (h' : k ≤ 100000) (hz : zs = L (V xs + V ys)) :
    Calls Tryz.prog 87 #[.slice a l ca, .slice b k cb] w (Gives 66 w zs) := by
  subst lx ly hz; exact NT.add _ a b ca cb xs ys w hx.sl hy.sl (Nat.le_refl _) (by omega) (by omega)
theorem sub_no (hx : Rd w a ca xs) (hy : Rd w b cb ys) (lx : xs.length = l) (ly : ys.length = k) (h : l ≤ 100000) (h' : k ≤ 100000) (hlt : V xs < V ys) :
    Calls Tryz.prog 90 #[.slice a l ca, .slice b k cb] w fun e w' => e = .returned (.tuple #[.slice none 0 0, .int .i64 8]) ∧ w = w' := by
  subst lx ly; exact NT.sub_no _ a b ca cb xs ys w hx.sl hy.sl (by omega) (by omega) hlt
theorem sub_ok (hx : Rd w a ca xs) (hy : Rd w b cb ys) (lx : xs.length = l) (ly : ys.length = k) (h : l ≤ 100000) (h' : k ≤ 100000) (hz : zs = L (V xs - V ys)) (hle : V ys ≤ V xs) :
    Calls Tryz.prog 90 #[.slice a l ca, .slice b k cb] w (GivesE 66 w zs) := by
  subst lx ly hz; exact NT.sub_ok _ a b ca cb xs ys w hx.sl hy.sl (Nat.le_refl _) (by omega) (by omega) hle
theorem mul (hx : Rd w a ca xs) (hy : Rd w b cb ys) (lx : xs.length = l) (ly : ys.length = k) (h : l ≤ 100000) (h' : k ≤ 100000) (hz : zs = L (V xs * V ys)) :
    Calls Tryz.prog 48 #[.slice a l ca, .slice b k cb] w (Gives 66 w zs) := by
  subst lx ly hz; exact NT.mul _ a b ca cb xs ys w hx.sl hy.sl (Nat.le_refl _) (by omega) (by omega)
theorem shl_ok (hx : Rd w a ca xs) (lx : xs.length = l) (h : l ≤ 100000) (i : Nat) (hi : i ≤ 65536) (hz : zs = L (V xs * 2 ^ i)) : Calls Tryz.prog 43 #[.slice a l ca, .int .i64 (i : Int)] w (GivesE 66 w zs) := by
  subst lx hz; exact NT.shl_ok _ a ca xs i w hx.sl (Nat.le_refl _) (by omega) hi
theorem shr_ok (hx : Rd w a ca xs) (lx : xs.length = l) (h : l ≤ 100000) (i : Nat) (hi : i ≤ 65536) (hz : zs = L (V xs / 2 ^ i)) : Calls Tryz.prog 78 #[.slice a l ca, .int .i64 (i : Int)] w (GivesE 66 w zs) := by
  subst lx hz; exact NT.shr_ok _ a ca xs i w hx.sl (Nat.le_refl _) (by omega) hi
theorem same (hx : Rd w a ca xs) (hy : Rd w b cb ys) (lx : xs.length = l) (ly : ys.length = k) (h : l ≤ 100000) (z : Bool) (hz : z = (xs == ys)) :
    Calls Tryz.prog 26 #[.slice a l ca, .slice b k cb] w fun e w' => e = .returned (.bool z) ∧ Kp w w' := by
  subst lx ly hz
  refine (NT.same _ a b ca cb xs ys w hx.sl hy.sl (by omega)).mono ?_
  rintro e w' ⟨rfl, k, rfl⟩
  exact ⟨rfl, (Kp.refl _).dr k⟩
theorem same_yes (hx : Rd w a ca xs) (hy : Rd w b cb ys) (lx : xs.length = l) (ly : ys.length = k) (h : l ≤ 100000) (ht : xs = ys) :
    Calls Tryz.prog 26 #[.slice a l ca, .slice b k cb] w fun e w' => e = .returned (.bool true) ∧ Kp w w' := same hx hy lx ly h true (by simpa using ht)
end Go.Proofs.NR
/- The examples of layer 2, as the program asks them. -/
namespace Go.Proofs.LN
open Go.RowKit
open Go.Proofs
open Go.Proofs.NP
open Go.Proofs.SL
open Go.Proofs.NR
set_option linter.unusedVariables false
set_option maxRecDepth 20000
end Go.Proofs.LN
/- What each law of layer 2 asks first: are its arguments short? .. and some facts on its numbers. -/
namespace Go.Proofs.LN
open Go.RowKit
open Go.Proofs
open Go.Proofs.NP
open Go.Proofs.SL
open Go.Proofs.NR
set_option linter.unusedVariables false
set_option maxRecDepth 20000

variable {w : World} {a b c : Option Addr} {ca cb cc l k j g : Nat} {e : TypeId}
/-- a row that came in reads some limbs -/
theorem rows {zs : List Int}
    (h : (a = none ∧ l = 0 ∧ ca = 0 ∧ zs = []) ∨ ∃ x, a = some x ∧ l ≤ ca ∧ ca ≤ maxLen ∧ zs.length = ca ∧ (∀ i, i < zs.length → w.cell? (x.add i) = some (.int .u64 (zs.getD i 0))) ∧ ∀ n ∈ zs, (Lit.int .u64 n).wf = true) :
    ∃ xs : List Nat, xs.length = l ∧ Rd w a ca xs := Rd.of_row h fun n hn => bounds_u64 hn
theorem bit_back_ge (X n k : Nat) (h : n ≤ k) : X / 2 ^ n * 2 ^ n / 2 ^ k = X / 2 ^ k := by
  have : 2 ^ k = 2 ^ n * 2 ^ (k - n) := by rw [← Nat.pow_add]; congr 1; omega
  rw [this, ← Nat.div_div_eq_div_mul, Nat.mul_div_cancel _ (Nat.two_pow_pos n), Nat.div_div_eq_div_mul]
theorem bit_up_lt (Q n k : Nat) (h : k < n) : Q * 2 ^ n / 2 ^ k % 2 = 0 := by
  have : 2 ^ n = 2 ^ (n - k - 1) * 2 * 2 ^ k := by rw [← Nat.pow_succ, ← Nat.pow_add]; congr 1; omega
  rw [this, ← Nat.mul_assoc, Nat.mul_div_cancel _ (Nat.two_pow_pos k), ← Nat.mul_assoc]
  omega
theorem bit_up (X n k : Nat) : X * 2 ^ n / 2 ^ (k + n) = X / 2 ^ k := by
  rw [Nat.pow_add, Nat.mul_comm (2 ^ k), ← Nat.div_div_eq_div_mul, Nat.mul_div_cancel _ (Nat.two_pow_pos n)]
theorem bit_down (X n k : Nat) : X / 2 ^ n / 2 ^ k = X / 2 ^ (k + n) := by
  rw [Nat.div_div_eq_div_mul, ← Nat.pow_add, Nat.add_comm]
theorem bitLen_up (X n : Nat) (h : X ≠ 0) : bitLen (X * 2 ^ n) = bitLen X + n := by
  have h0 := bitLen_pos X h
  obtain ⟨j, hj⟩ : ∃ j, bitLen X = j + 1 := ⟨bitLen X - 1, by omega⟩
  have h1 : X < 2 ^ (j + 1) := (bitLen_le_iff X _).1 (by omega)
  have h2 : 2 ^ j ≤ X := by
    have : ¬ X < 2 ^ j := by rw [← bitLen_le_iff]; omega
    omega
  rw [hj, bitLen_unique (X * 2 ^ n) (j + n)]
  · omega
  · rw [Nat.pow_add]; exact Nat.mul_le_mul_right _ h2
  · rw [show j + n + 1 = (j + 1) + n by omega, Nat.pow_add (2) (j + 1)]; exact Nat.mul_lt_mul_of_pos_right h1 (Nat.two_pow_pos n)
theorem bitLen_fits {X i : Nat} (h : Fits X i) : bitLen X ≤ 64 * i := by
  rw [bitLen_le_iff, Nat.pow_mul]; exact h
theorem V_nil : V [] = 0 := rfl
theorem V_one : V [1] = 1 := by decide +kernel
end Go.Proofs.LN
