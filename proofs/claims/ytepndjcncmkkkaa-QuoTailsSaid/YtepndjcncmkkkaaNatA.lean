/- Contracts of package nat. Every slice is read as a list of words below 2^64, at most a million of them. -/
import Derived.Test.YtepndjcncmkkkaaWAdd
import Derived.Test.YtepndjcncmkkkaaSl
namespace Go.Proofs.NT
open Go.RowKit
open Go.Proofs
open Go.Proofs.NP
open Go.Proofs.SL
set_option linter.unusedVariables false

/-- the limb at a place, 0 outside -/
def lim (xs : List Nat) (at' : Int) : Nat := if at' < 0 then 0 else xs[at'.toNat]?.getD 0

theorem lim_lt (xs : List Nat) (h : Ws xs) (i : Int) : lim xs i < 18446744073709551616 := by
  unfold lim; split
  · decide
  · exact h.getD (by decide) _

theorem lim_nat (xs : List Nat) (i : Nat) : lim xs (i : Int) = xs[i]?.getD 0 := by
  unfold lim; rw [if_neg (by omega), Int.toNat_natCast]

theorem limb (H : Nat) (a : Option Addr) (cap : Nat) (xs : List Nat) (i : Int) (w : World) (hs : Sl H w a cap xs) :
    Calls Try.prog 49 #[.slice a xs.length cap, .int .i64 i] w fun e w' => e = .returned (.int .u64 (lim xs i : Nat)) ∧ w = w' := by
  have hmax : (xs.length : Int) ≤ 9223372036854775807 := by have := hs.le; have := hs.max; unfold maxLen at this; omega
  by_cases h0 : i < 0
  · have e : Hid (lim xs i = 0) := by rw [Hid, lim, if_pos h0]
    go_enter Try.func49, Try.ntmps49
    go_wp2
    go_ret
    exact ⟨W.ret_int (by rw [e.out]; rfl), rfl⟩
  · obtain ⟨n, rfl⟩ := Int.eq_ofNat_of_zero_le (show 0 ≤ i by omega)
    clear h0
    by_cases h1 : n < xs.length
    · rcases hs.at' with h' | ⟨b, off, rfl, hlt, hc⟩
      · subst h'; simp at h1
      · have hc := hc n h1
        have e : Hid ((lim xs n : Nat) = xs[n]) := by rw [Hid, lim_nat]; simp [h1]
        go_enter Try.func49, Try.ntmps49
        go_wp2
        go_ret
        exact ⟨W.ret_int (by rw [e.out]), rfl⟩
    · have e : Hid ((lim xs n : Nat) = 0) := by rw [Hid, lim_nat]; simp [h1]
      go_enter Try.func49, Try.ntmps49
      go_wp2
      go_ret
      exact ⟨W.ret_int (by rw [e.out]; rfl), rfl⟩

theorem Try.info36 : (Try.prog.info? 36).map (fun i => (i.zero, i.size, i.bytes)) = some (some (.int .u64 0), 1, 8) := by kernel_rfl

theorem Sl.news {H : Nat} {w : World} {b off : Nat} {cap : Nat} {xs : List Nat} (hc : ∀ i (h : i < xs.length), w.cell? ⟨b, off + i, none⟩ = some (.int .u64 (xs[i] : Int))) :
    ∀ j u, (xs.map enc)[j]? = some u → w.cell? ((⟨b, off, none⟩ : Addr).add j) = some u := by
  intro j u hu
  have hj : j < xs.length := by
    rcases Nat.lt_or_ge j xs.length with h | h
    · exact h
    · rw [List.getElem?_eq_none (by simpa using h)] at hu; cases hu
  have e : (⟨b, off, none⟩ : Addr).add j = ⟨b, off + j, none⟩ := by unfold Addr.add; split <;> simp_all
  rw [e, hc j hj]
  simp [hj] at hu
  rw [← hu]; rfl

theorem clone_some (ad : Addr) (cap : Nat) (xs : List Nat) (w : World) (hd : Ws xs) (hlen : xs.length ≤ 1000000)
    (hnews : ∀ wx : World, (∀ p, p.block < w.heap.size → wx.cell? p = w.cell? p) → ∀ j u, (xs.map enc)[j]? = some u → wx.cell? (ad.add j) = some u) :
    Calls Try.prog 48 #[.slice (some ad) xs.length cap] w (Gives 36 w xs) := by
  obtain ⟨i0, hi, hz0, hz1, hz2⟩ := info_parts Try.info36
  have q1 := fun (wx : World) => Lib.run_eql_slice_nil (P := Try.prog) wx
  have hown : (w.alloc (.cells #[] 36)).ownsRow w.heap.size 36 1 (.slice (some ⟨w.heap.size, 0, none⟩) 0 0) 0 [] := World.ownsRow_made w #[] 0 (Nat.le_refl _) (by decide) rfl
  have H1 := Lib.hid (hnews (w.alloc (.cells #[] 36)) (fun p hp => World.cell?_alloc_lt w _ p hp))
  clear hnews
  have HD := Lib.hid hd
  clear hd
  obtain ⟨n, hn⟩ : ∃ n, xs.length = n := ⟨_, rfl⟩
  rw [hn] at hlen ⊢
  have HN := Lib.hid hn
  clear hn
  go_enter Try.func48, Try.ntmps48
  go_wp2_with (at_builtin; refine wpList_append_own _ rfl _ _ 23 rfl w.heap.size 36 i0 (.int .u64 0) 1 8 Try.underlying23 hi hz0 hz1 hz2 rfl (by decide) _ 0 [] rfl hown ad n cap (xs.map enc) rfl ?c1 ?c2 ?c3 ?c4 ?c5 ?c6 ?_)
  case c1 => rw [List.length_map, HN.out]; omega
  case c2 => exact H1.out
  case c3 => intro u hu; obtain ⟨x, _, rfl⟩ := List.mem_map.1 hu; rfl
  case c4 => unfold maxLen; omega
  case c5 => omega
  case c6 => simp
  intro v' w1 hown' hgrow _
  have hb : Below w.heap.size w w1 := ((Below.refl _ w).alloc (Nat.le_refl _) _).grown hgrow (by simp) (fun k hk => by simp [Value.ownBlock] at hk; omega)
  have hsh : ∃ a c, v' = .slice a n c := by
    rcases hown'.2 with ⟨rfl, rfl⟩ | ⟨g, c, cur, rfl, _⟩
    · exact ⟨none, 0, rfl⟩
    · exact ⟨_, c, rfl⟩
  obtain ⟨a', c', rfl⟩ := hsh
  have hf : Hid (Gives 36 w xs (.returned (.slice a' n c')) w1) := ⟨a', c', by rw [HN.out], ⟨HD.out, by rw [HN.out]; exact hown'⟩, hb⟩
  clear hb hown' hgrow hown H1 q1
  go_wp2
  go_ret
  exact hf.out

theorem clone (H : Nat) (a : Option Addr) (cap : Nat) (xs : List Nat) (w : World) (hs : Sl H w a cap xs) (hH : H ≤ w.heap.size) (hlen : xs.length ≤ 1000000) :
    Calls Try.prog 48 #[.slice a xs.length cap] w (Gives 36 w xs) := by
  cases a with
  | none =>
    have hx : xs = [] := by
      rcases hs.at' with h | ⟨b, off, h, _⟩
      · exact h
      · cases h
    subst hx
    have q1 := fun (wx : World) => Lib.run_eql_slice_nil (P := Try.prog) wx
    have hf : Hid (Gives 36 w [] (.returned (.slice none 0 0)) w) := ⟨none, 0, rfl, ⟨Dig.nil _, World.ownsRow_nil w _ _ _⟩, Below.refl _ _⟩
    clear hs
    go_enter Try.func48, Try.ntmps48
    go_wp2
    go_ret
    exact hf.out
  | some ad =>
    refine clone_some ad cap xs w hs.dig hlen ?_
    intro wx hx
    rcases hs.at' with rfl | ⟨b, off, h, hlt, hc⟩
    · intro j u hu; simp at hu
    · simp only [Option.some.injEq] at h
      subst h
      exact Sl.news (H := H) (cap := cap) fun i hi => by rw [hx _ (by show b < _; omega)]; exact hc i hi

theorem Sl.take {H : Nat} {w : World} {a : Option Addr} {cap : Nat} {xs : List Nat} (h : Sl H w a cap xs) (n : Nat) (hn : n ≤ xs.length) : Sl H w a cap (xs.take n) := by
  refine ⟨h.dig.take n, by have := h.le; simp; omega, h.max, ?_⟩
  rcases h.at' with rfl | ⟨b, off, rfl, hlt, hc⟩
  · exact .inl (by simp)
  · refine .inr ⟨b, off, rfl, hlt, fun i hi => ?_⟩
    rw [hc i (by simp at hi; omega)]
    simp

theorem trim (H : Nat) (a : Option Addr) (cap : Nat) (xs : List Nat) (w : World) (hs : Sl H w a cap xs) (hH : H ≤ w.heap.size) (hlen : xs.length ≤ 1000000) :
    Calls Try.prog 24 #[.slice a xs.length cap] w (Gives 36 w (L (V xs))) := by
  have hdone := fun n h1 h2 h3 => trim_done 18446744073709551616 (by decide) hs.dig n h1 h2 h3
  have hle := hs.le
  have hmx : cap ≤ 9223372036854775807 := by have := hs.max; unfold maxLen at this; omega
  change ∀ n, _ → _ → _ → xs.take n = L (V xs) at hdone
  generalize L (V xs) = ds at hdone ⊢
  have HD := Lib.hid hdone
  clear hdone
  go_enter Try.func24, Try.ntmps24
  go_wp2
  go_loop [3] (fun s => ∃ n : Nat, s = .int .i64 n ∧ n ≤ xs.length ∧ Hid (∀ j, n ≤ j → xs[j]?.getD 0 = 0)) (fun s => (intOf s).toNat)
  case atStart => exact ⟨xs.length, rfl, Nat.le_refl _, fun j hj => by simp [hj]⟩
  case round =>
    obtain ⟨n, rfl, hn, hz⟩ := hrel
    have fin : (n = 0 ∨ xs[n - 1]?.getD 0 ≠ 0) → Calls Try.prog 48 #[.slice a n cap] w (Gives 36 w ds) := by
      intro h
      have e := HD.out n hn hz.out h
      have c := clone H a cap (xs.take n) w (Sl.take hs n hn) hH (by simp; omega)
      have hl : (xs.take n).length = n := by simp; omega
      rw [hl] at c
      rw [← e]; exact c
    cases n with
    | zero =>
      have F := Lib.hid (fin (.inl rfl))
      clear fin
      go_wp2_with fail
      refine F.out.mono ?_
      rintro e w1 ⟨a1, c1, rfl, ho, hb⟩
      have hf : Hid (Gives 36 w ds (.returned (.slice a1 ds.length c1)) w1) := ⟨a1, c1, rfl, ho, hb⟩
      clear ho hb
      go_wp2
      go_ret
      exact hf.out
    | succ n =>
      rcases hs.at' with rfl | ⟨b, off, rfl, hlt, hc⟩
      · simp at hn
      have hc := hc n (by omega)
      have hg : xs[n]?.getD 0 = xs[n] := by simp [show n < xs.length by omega]
      by_cases hx : xs[n] = 0
      · rw [hx] at hc
        have hz' : Hid (∀ j, n ≤ j → xs[j]?.getD 0 = 0) := by
          intro j hj
          rcases Nat.eq_or_lt_of_le hj with rfl | h
          · rw [hg, hx]
          · exact hz.out j h
        clear fin hx hg
        go_wp2_with fail
        go_round
        case rel => exact ⟨n, by go_num, by omega, hz'⟩
        case measure => simp [intOf]
      · have F := Lib.hid (fin (.inr (by simpa [hg] using hx)))
        have hx' : (((xs[n] : Nat) : Int) == 0) = false := by simpa using hx
        clear hx hg fin
        go_wp2_with fail
        refine F.out.mono ?_
        rintro e w1 ⟨a1, c1, rfl, ho, hb⟩
        have hf : Hid (Gives 36 w ds (.returned (.slice a1 ds.length c1)) w1) := ⟨a1, c1, rfl, ho, hb⟩
        clear ho hb
        go_wp2
        go_ret
        exact hf.out
end Go.Proofs.NT
