/- Alias tables: a copy of weights, by append onto an empty literal; the share of no place. -/
import Derived.Test.YticickjnlkbkoaaAliO
import Derived.Test.YticickjnlkbkoaaAliC
import Derived.Test.YticickjnlkbkoaaAliF
import Derived.Test.YticickjnlkbkoaaBelE
import Derived.Maps.AppendAt
import Derived.Lib.SlFresh
namespace Go.Proofs.AL
open Go.RowKit
open Go.Proofs
open Go.Proofs.NP
open Go.Proofs.SL
open Go.Proofs.RA
open Go.Proofs.BL
open Go
set_option linter.unusedVariables false
set_option linter.unusedSimpArgs false
set_option maxRecDepth 20000
theorem run_cloneI (w : World) (b0 : Nat) (a : Option Addr) (ca l : Nat) (xs : List Int) (hx : Ri w a xs) (lx : xs.length = l) (hl : l ≤ 100000) (hc0 : a = none → ca = 0) (hb0 : b0 = w.heap.size) :
    ∃ g c w', (Builtin.append_ #[22, 22] 22 #[.slice (some ⟨b0, 0, none⟩) 0 0, .slice a l ca]).run Try.prog (w.alloc (.cells #[] 2)) = .ok (.slice (some ⟨g, 0, none⟩) l c) w' ∧
      Oi 2 w.heap.size w' (some ⟨g, 0, none⟩) c xs ∧ Kp w w' := by
  subst lx hb0
  obtain ⟨i0, hi, hz0, hz1, hz2⟩ := info_parts Try.info2
  have hown : (w.alloc (.cells #[] 2)).ownsRow w.heap.size 2 1 (.slice (some ⟨w.heap.size, 0, none⟩) 0 0) 0 [] := World.ownsRow_made w #[] 0 (Nat.le_refl _) (by decide) rfl
  have hal : Below w.heap.size w (w.alloc (.cells #[] 2)) := (Below.refl _ w).alloc (Nat.le_refl _) _
  rcases hx.at' with h0 | ⟨b, off, rfl, hlt, hc⟩
  · cases a with
    | none =>
      obtain rfl : ca = 0 := hc0 rfl
      subst h0
      refine ⟨w.heap.size, 0, _, run_append_owned_none (P := Try.prog) _ w.heap.size 22 22 2 i0 1 Try.underlying22 hi _ 0 [] hown, ⟨hown⟩, hal⟩
    | some ad =>
      subst h0
      obtain ⟨v', w', hr, ho, hg, hn, hb⟩ := run_append_own_at (P := Try.prog) (w.alloc (.cells #[] 2)) w.heap.size 22 22 2 i0 (.int .i64 0) 1 8 Try.underlying22 hi hz0 hz1 hz2 rfl (by decide) _ 0 [] hown ad 0 ca [] rfl (by intro j u hu; simp at hu) (by intro u hu; cases hu) (by decide) (by decide) (by simp)
      simp only [Nat.zero_add, List.nil_append] at ho
      have hsh : ∃ g c, v' = .slice (some ⟨g, 0, none⟩) 0 c ∧ w.heap.size ≤ g := by
        rcases ho.2 with ⟨rfl, _⟩ | ⟨g, c, cur, rfl, hbg, _⟩
        · exact absurd (hn.1 rfl).1 (by simp)
        · exact ⟨g, c, rfl, hbg⟩
      obtain ⟨g, c, rfl, hge⟩ := hsh
      exact ⟨g, c, w', hr, ⟨ho⟩, hal.grown hg hal.size (fun k hk => by simp [Value.ownBlock] at hk; omega)⟩
  · have hnews : ∀ j u, (xs.map encI)[j]? = some u → (w.alloc (.cells #[] 2)).cell? ((⟨b, off, none⟩ : Addr).add j) = some u := fun j u hj => by
      rw [List.getElem?_map] at hj
      obtain ⟨x, hx1, rfl⟩ := Option.map_eq_some_iff.1 hj
      obtain ⟨hjl, rfl⟩ := List.getElem?_eq_some_iff.1 hx1
      have e : (⟨b, off, none⟩ : Addr).add j = ⟨b, off + j, none⟩ := by unfold Addr.add; split <;> simp_all
      rw [e, World.cell?_alloc_lt w _ _ (by show b < _; omega)]
      exact hc j hjl
    obtain ⟨v', w', hr, ho, hg, hn, hb⟩ := run_append_own_at (P := Try.prog) (w.alloc (.cells #[] 2)) w.heap.size 22 22 2 i0 (.int .i64 0) 1 8 Try.underlying22 hi hz0 hz1 hz2 rfl (by decide) _ 0 [] hown ⟨b, off, none⟩ xs.length ca (xs.map encI) (by simp) hnews (by intro u hu; obtain ⟨x, _, rfl⟩ := List.mem_map.1 hu; rfl) (by unfold maxLen; omega) (by omega) (by simp)
    simp only [Nat.zero_add, List.nil_append] at ho
    have hsh : ∃ g c, v' = .slice (some ⟨g, 0, none⟩) xs.length c ∧ w.heap.size ≤ g := by
      rcases ho.2 with ⟨rfl, _⟩ | ⟨g, c, cur, rfl, hbg, _⟩
      · exact absurd (hn.1 rfl).1 (by simp)
      · exact ⟨g, c, rfl, hbg⟩
    obtain ⟨g, c, rfl, hge⟩ := hsh
    exact ⟨g, c, w', hr, ⟨ho⟩, hal.grown hg hal.size (fun k hk => by simp [Value.ownBlock] at hk; omega)⟩
theorem share_no {w : World} {g gc go n : Nat} {s : Int} {cu ot : Nat → Int} (i : Int) (h : Tb w g gc go n s cu ot) (hs : s ≠ 0) (hi : ¬ (0 ≤ i ∧ i < n)) : Calls Try.prog 20 #[.pointer (some ⟨g, 0, none⟩), .int .i64 i] w (NoRat 1 w) := by
  have R0 := Lib.hid (Rs.new w #[.bool false, .slice none 0 0, .slice none 0 0] 42)
  have HA := Lib.hid (at1 i (h.nx ((Kp.refl w).al (.cells #[.bool false, .slice none 0 0, .slice none 0 0] 42))) hs 1 (by rw [atE, if_neg hi]))
  clear h hi
  go_enter Try.func20, Try.ntmps20
  go_wp2_with fail
  refine HA.out.mono ?_; rintro e w' ⟨rfl, rfl⟩
  have f0 := R0.out.rb.f 0
  have f1 := R0.out.rb.f 1
  have f2 := R0.out.rb.f 2
  have r0 := R0.out.rb.c 0
  have r1 := R0.out.rb.c 1
  have r2 := R0.out.rb.c 2
  clear HA
  go_wp2_with fail
  have RB := R0.out.rb
  have z0 := RB.c 0
  have z1 := RB.c 1
  have z2 := RB.c 2
  refine bodyPost_ret (v := .tuple #[.agg #[.bool false, .slice none 0 0, .slice none 0 0], .int .i64 1]) (by simp [results, Try.results20, go_sem, z0, z1, z2]) rfl ?_
  exact ⟨rfl, R0.out.kw⟩
end Go.Proofs.AL
