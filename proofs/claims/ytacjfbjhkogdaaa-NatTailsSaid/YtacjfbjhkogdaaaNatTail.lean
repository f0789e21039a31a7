/- The contracts of tombolalaw02.tail (a natural with so many 0s at its end) and of trimmed. -/
import Derived.Test.YtacjfbjhkogdaaaNatLaw
import Derived.Test.YtacjfbjhkogdaaaZeros
namespace Go.Proofs.LN
open Go.RowKit
open Go.Proofs
open Go.Proofs.NP
open Go.Proofs.SL
open Go.Proofs.NR
set_option linter.unusedVariables false

theorem Ws_app {xs : List Nat} (hd : Ws xs) (n : Nat) : Ws (xs ++ List.replicate n 0) := by
  intro x hx
  rcases List.mem_append.1 hx with h | h
  · exact hd x h
  · rw [List.eq_of_mem_replicate h]; decide
theorem val_zeros (n : Nat) : val 18446744073709551616 (List.replicate n 0) = 0 := by
  induction n with
  | zero => rfl
  | succ n ih => rw [List.replicate_succ]; simp only [val, ih]
theorem V_app (xs : List Nat) (n : Nat) : V (xs ++ List.replicate n 0) = V xs := by
  unfold V
  induction xs with
  | nil => simpa [val] using val_zeros n
  | cons x xs ih => simp only [List.cons_append, val, ih]

theorem tail_some (ad : Addr) (ca n : Nat) (xs : List Nat) (w : World) (hn : n ≤ 1000) (hl : xs.length ≤ 100000) (hd : Ws xs)
    (hnews : ∀ wx : World, (∀ p, p.block < w.heap.size → wx.cell? p = w.cell? p) → ∀ j u, (xs.map enc)[j]? = some u → wx.cell? (ad.add j) = some u) :
    Calls Try.prog 29 #[.slice (some ad) xs.length ca, .int .i64 (n : Int)] w (Gives 34 w (xs ++ List.replicate n 0)) := by
  obtain ⟨i0, hi, hz0, hz1, hz2⟩ := info_parts NT.Try.info34
  have hown : (w.alloc (.cells #[] 34)).ownsRow w.heap.size 34 1 (.slice (some ⟨w.heap.size, 0, none⟩) 0 0) 0 [] := World.ownsRow_made w #[] 0 (Nat.le_refl _) (by decide) rfl
  have H1 := Lib.hid (hnews (w.alloc (.cells #[] 34)) (fun p hp => World.cell?_alloc_lt w _ p hp))
  clear hnews
  have HD := Lib.hid hd
  clear hd
  obtain ⟨l, hn'⟩ : ∃ l, xs.length = l := ⟨_, rfl⟩
  rw [hn'] at hl ⊢
  have HN := Lib.hid hn'
  clear hn'
  go_enter Try.func29, Try.ntmps29
  go_wp2_with (at_builtin; refine wpList_append_own _ rfl _ _ 23 rfl w.heap.size 34 i0 (.int .u64 0) 1 8 Try.underlying23 hi hz0 hz1 hz2 rfl (by decide) _ 0 [] rfl hown ad l ca (xs.map enc) rfl ?c1 ?c2 ?c3 ?c4 ?c5 ?c6 ?_)
  case c1 => rw [List.length_map, HN.out]; omega
  case c2 => exact H1.out
  case c3 => intro u hu; obtain ⟨x, _, rfl⟩ := List.mem_map.1 hu; rfl
  case c4 => unfold maxLen; omega
  case c5 => omega
  case c6 => simp
  intro v' w1 hown' hgrow hnil
  have hb : Below w.heap.size w w1 := ((Below.refl _ w).alloc (Nat.le_refl _) _).grown hgrow (by simp) (fun k hk => by simp [Value.ownBlock] at hk; omega)
  try simp only [Nat.zero_add, List.nil_append] at hown'
  have hsh : ∃ g c, v' = .slice (some ⟨g, 0, none⟩) l c ∧ w.heap.size ≤ g := by
    rcases hown'.2 with ⟨rfl, rfl⟩ | ⟨g, c, cur, rfl, hbg, _⟩
    · exact absurd rfl hnil
    · exact ⟨g, c, rfl, hbg⟩
  obtain ⟨g, c', rfl, hge⟩ := hsh
  obtain ⟨g2, c2, w2, hr, hown2, hgr2⟩ := run_append_own_zeros (P := Try.prog) w1 w.heap.size 23 3 23 34 i0 (.int .u64 0) .i64 .i64 Try.underlying23 Try.underlying3 hi hz0 hz1 hz2 rfl rfl g l c' (xs.map enc) hown' n (by omega) (by omega) hb.size
  have hb2 : Below w.heap.size w w2 := hb.grown hgr2 hb.size (fun k hk => by simp only [Option.some.injEq] at hk; omega)
  have hf : Hid (Gives 34 w (xs ++ List.replicate n 0) (.returned (.slice (some ⟨g2, 0, none⟩) (l + n) c2)) w2) := by
    refine ⟨some ⟨g2, 0, none⟩, c2, ?_, ⟨Ws_app HD.out n, ?_⟩, hb2⟩
    · rw [List.length_append, List.length_replicate, HN.out]
    · rw [List.length_append, List.length_replicate, HN.out, List.map_append, List.map_replicate]; exact hown2
  have HR := Lib.hid hr
  clear hb hb2 hown' hgrow hown H1 hown2 hgr2 hr hnil
  go_wp2_with (at_builtin; refine Lib.wpList_append_run _ rfl _ _ _ _ rfl _ _ rfl rfl _ _ HR.out ?_)
  go_wp2
  go_ret
  exact hf.out
theorem tail_none (n : Nat) (w : World) (hn : n ≤ 1000) :
    Calls Try.prog 29 #[.slice none 0 0, .int .i64 (n : Int)] w (Gives 34 w (List.replicate n 0)) := by
  obtain ⟨i0, hi, hz0, hz1, hz2⟩ := info_parts NT.Try.info34
  have hown : (w.alloc (.cells #[] 34)).ownsRow w.heap.size 34 1 (.slice (some ⟨w.heap.size, 0, none⟩) 0 0) 0 [] := World.ownsRow_made w #[] 0 (Nat.le_refl _) (by decide) rfl
  go_enter Try.func29, Try.ntmps29
  go_wp2_with (at_builtin; refine wpList_append_fits_any _ rfl _ _ 23 rfl w.heap.size 34 i0 1 Try.underlying23 hi hz1 w.heap.size 0 0 [] rfl hown none 0 0 [] rfl ?c1 ?c2 ?c3 ?c4 ?c5 ?_)
  case c1 => rfl
  case c3 => intro ad h; cases h
  case c4 => intro u hu; cases hu
  case c5 => omega
  intro w1 hown' hgrow
  have hb : Below w.heap.size w w1 := ((Below.refl _ w).alloc (Nat.le_refl _) _).grown hgrow (by simp) (fun k hk => by simp at hk; omega)
  try simp only [Nat.zero_add, List.nil_append, List.append_nil] at hown'
  obtain ⟨g2, c2, w2, hr, hown2, hgr2⟩ := run_append_own_zeros (P := Try.prog) w1 w.heap.size 23 3 23 34 i0 (.int .u64 0) .i64 .i64 Try.underlying23 Try.underlying3 hi hz0 hz1 hz2 rfl rfl w.heap.size 0 0 [] hown' n (by omega) (by omega) hb.size
  have hb2 : Below w.heap.size w w2 := hb.grown hgr2 hb.size (fun k hk => by simp only [Option.some.injEq] at hk; omega)
  try simp only [Nat.zero_add, List.nil_append] at hr hown2
  have hf : Hid (Gives 34 w (List.replicate n 0) (.returned (.slice (some ⟨g2, 0, none⟩) n c2)) w2) := by
    refine ⟨some ⟨g2, 0, none⟩, c2, ?_, ⟨by simpa using Ws_app (xs := []) (by intro x hx; cases hx) n, ?_⟩, hb2⟩
    · rw [List.length_replicate]
    · rw [List.length_replicate, List.map_replicate]; exact hown2
  have HR := Lib.hid hr
  clear hb hb2 hown' hgrow hown hown2 hgr2 hr
  go_wp2_with (at_builtin; refine Lib.wpList_append_run _ rfl _ _ _ _ rfl _ _ rfl rfl _ _ HR.out ?_)
  go_wp2
  go_ret
  exact hf.out
theorem tail (a : Option Addr) (ca n l : Nat) (xs : List Nat) (w : World) (hx : Rd w a ca xs) (lx : xs.length = l) (hl : l ≤ 100000) (z : Int) (hz : z = (n : Int)) (hn : n ≤ 1000) (hc0 : a = none → ca = 0) :
    Calls Try.prog 29 #[.slice a l ca, .int .i64 z] w (Gives 34 w (xs ++ List.replicate n 0)) := by
  subst lx hz
  cases a with
  | none =>
    have hx0 : xs = [] := by
      rcases hx.at' with h | ⟨b, off, h, _⟩
      · exact h
      · cases h
    subst hx0
    obtain rfl : ca = 0 := hc0 rfl
    exact tail_none n w hn
  | some ad =>
    refine tail_some ad ca n xs w hn hl hx.ws ?_
    intro wx hwx
    rcases hx.at' with rfl | ⟨b, off, h, hlt, hc⟩
    · intro j u hu; simp at hu
    · simp only [Option.some.injEq] at h
      subst h
      exact NT.Sl.news (H := w.heap.size) (cap := ca) fun i hi => by rw [hwx _ (by show b < _; omega)]; exact hc i hi
theorem tailz {a : Option Addr} {ca l : Nat} {xs zs : List Nat} {w : World} (n : Nat) (hx : Rd w a ca xs) (lx : xs.length = l) (hl : l ≤ 100000) (z : Int) (hz : z = (n : Int)) (hn : n ≤ 1000) (hc0 : a = none → ca = 0) (hzs : zs = xs ++ List.replicate n 0) :
    Calls Try.prog 29 #[.slice a l ca, .int .i64 z] w (Gives 34 w zs) := by
  subst hzs; exact tail a ca n l xs w hx lx hl z hz hn hc0
/-- a nil row has no room -/
theorem rows_cap {k : IntKind} {w : World} {a : Option Addr} {l ca : Nat} {zs : List Int}
    (h : (a = none ∧ l = 0 ∧ ca = 0 ∧ zs = []) ∨ ∃ x, a = some x ∧ l ≤ ca ∧ ca ≤ maxLen ∧ zs.length = ca ∧ (∀ i, i < zs.length → w.cell? (x.add i) = some (.int k (zs.getD i 0))) ∧ ∀ n ∈ zs, (Lit.int k n).wf = true) : a = none → ca = 0 := by
  rintro rfl
  rcases h with ⟨_, _, h, _⟩ | ⟨x, h, _⟩
  · exact h
  · cases h
theorem last_ne {n : Nat} {xs : List Nat} (h : xs = L n) (hx : xs ≠ []) : xs[xs.length - 1]'(by have := List.length_pos_iff.2 hx; omega) ≠ 0 := by
  subst h
  rw [← List.getLast_eq_getElem hx]
  exact digs_last _ (by decide) n hx
theorem trimmed {a : Option Addr} {ca l : Nat} {xs : List Nat} {w : World} (hx : Rd w a ca xs) (lx : xs.length = l) (hl : l ≤ 1000000) (n : Nat) (hn : xs = L n) :
    Calls Try.prog 31 #[.slice a l ca] w fun e w' => e = .returned (.bool true) ∧ w = w' := by
  rcases hx.at' with h | ⟨b, off, h, hlt, hc⟩
  · subst h
    simp at lx
    subst lx
    clear hn
    go_enter Try.func31, Try.ntmps31
    go_wp2
    go_ret
    exact ⟨rfl, rfl⟩
  · by_cases h0 : l = 0
    · clear hn hc
      subst h0
      go_enter Try.func31, Try.ntmps31
      go_wp2
      go_ret
      exact ⟨rfl, rfl⟩
    · have hne : xs ≠ [] := by intro h; subst h; simp at lx; omega
      have h1 : 1 ≤ l := by omega
      have hex : ∃ x : Nat, 0 < x ∧ w.cell? ⟨b, off + (l - 1), none⟩ = some (.int .u64 (x : Int)) := by
        have hcell := hc (xs.length - 1) (by omega)
        refine ⟨_, Nat.pos_of_ne_zero (last_ne hn hne), ?_⟩
        rw [← hcell, lx]
      obtain ⟨x, hx1, HC⟩ := hex
      subst h
      have HL := Lib.hid lx
      have HN := Lib.hid hn
      clear hn hne hc h0 lx
      go_enter Try.func31, Try.ntmps31
      go_wp2
      go_ret
      have hx2 : ((x : Int) != 0) = true := by rw [bne_iff_ne]; omega
      refine ⟨?_, rfl⟩
      show Ending.returned (Value.bool ((l : Int) == 0 || (x : Int) != 0)) = _
      rw [hx2, Bool.or_true]
end Go.Proofs.LN
