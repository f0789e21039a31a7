/- A copy of limbs, by append onto an empty literal; 0s behind them. -/
import Derived.Test.YtepndjcncmkkkaaQuoEnd
import Derived.Maps.AppendAt
import Derived.Lib.SlFresh
namespace Go.Proofs.QL
open Go.RowKit
open Go.Proofs
open Go.Proofs.NP
open Go.Proofs.SL
open Go.Proofs.NR
set_option linter.unusedVariables false
set_option linter.unusedSimpArgs false

theorem run_clone (w : World) (b0 : Nat) (a : Option Addr) (ca l : Nat) (xs : List Nat) (hx : Rd w a ca xs) (lx : xs.length = l) (hl : l ≤ 100000) (hc0 : a = none → ca = 0) (hb0 : b0 = w.heap.size) :
    ∃ g c w', (Builtin.append_ #[23, 23] 23 #[.slice (some ⟨b0, 0, none⟩) 0 0, .slice a l ca]).run Try.prog (w.alloc (.cells #[] 36)) = .ok (.slice (some ⟨g, 0, none⟩) l c) w' ∧
      Own 36 w.heap.size w' (some ⟨g, 0, none⟩) c xs ∧ Below w.heap.size w w' := by
  subst lx hb0
  obtain ⟨i0, hi, hz0, hz1, hz2⟩ := info_parts NT.Try.info36
  have hown : (w.alloc (.cells #[] 36)).ownsRow w.heap.size 36 1 (.slice (some ⟨w.heap.size, 0, none⟩) 0 0) 0 [] := World.ownsRow_made w #[] 0 (Nat.le_refl _) (by decide) rfl
  have hal : Below w.heap.size w (w.alloc (.cells #[] 36)) := (Below.refl _ w).alloc (Nat.le_refl _) _
  rcases hx.at' with h0 | ⟨b, off, rfl, hlt, hc⟩
  · cases a with
    | none =>
      obtain rfl : ca = 0 := hc0 rfl
      subst h0
      refine ⟨w.heap.size, 0, _, run_append_owned_none (P := Try.prog) _ w.heap.size 23 23 36 i0 1 Try.underlying23 hi _ 0 [] hown, ⟨Dig.nil _, hown⟩, hal⟩
    | some ad =>
      subst h0
      obtain ⟨v', w', hr, ho, hg, hn, hb⟩ := run_append_own_at (P := Try.prog) (w.alloc (.cells #[] 36)) w.heap.size 23 23 36 i0 (.int .u64 0) 1 8 Try.underlying23 hi hz0 hz1 hz2 rfl (by decide) _ 0 [] hown ad 0 ca [] rfl (by intro j u hu; simp at hu) (by intro u hu; cases hu) (by decide) (by decide) (by simp)
      simp only [Nat.zero_add, List.nil_append] at ho
      have hsh : ∃ g c, v' = .slice (some ⟨g, 0, none⟩) 0 c ∧ w.heap.size ≤ g := by
        rcases ho.2 with ⟨rfl, _⟩ | ⟨g, c, cur, rfl, hbg, _⟩
        · exact absurd (hn.1 rfl).1 (by simp)
        · exact ⟨g, c, rfl, hbg⟩
      obtain ⟨g, c, rfl, hge⟩ := hsh
      exact ⟨g, c, w', hr, ⟨Dig.nil _, ho⟩, hal.grown hg hal.size (fun k hk => by simp [Value.ownBlock] at hk; omega)⟩
  · have hnews : ∀ j u, (xs.map enc)[j]? = some u → (w.alloc (.cells #[] 36)).cell? ((⟨b, off, none⟩ : Addr).add j) = some u :=
      NT.Sl.news (H := w.heap.size) (cap := ca) fun i hi => by rw [World.cell?_alloc_lt w _ _ (by show b < _; omega)]; exact hc i hi
    obtain ⟨v', w', hr, ho, hg, hn, hb⟩ := run_append_own_at (P := Try.prog) (w.alloc (.cells #[] 36)) w.heap.size 23 23 36 i0 (.int .u64 0) 1 8 Try.underlying23 hi hz0 hz1 hz2 rfl (by decide) _ 0 [] hown ⟨b, off, none⟩ xs.length ca (xs.map enc) (by simp) hnews (by intro u hu; obtain ⟨x, _, rfl⟩ := List.mem_map.1 hu; rfl) (by unfold maxLen; omega) (by omega) (by simp)
    simp only [Nat.zero_add, List.nil_append] at ho
    have hsh : ∃ g c, v' = .slice (some ⟨g, 0, none⟩) xs.length c ∧ w.heap.size ≤ g := by
      rcases ho.2 with ⟨rfl, _⟩ | ⟨g, c, cur, rfl, hbg, _⟩
      · exact absurd (hn.1 rfl).1 (by simp)
      · exact ⟨g, c, rfl, hbg⟩
    obtain ⟨g, c, rfl, hge⟩ := hsh
    exact ⟨g, c, w', hr, ⟨hx.ws, ho⟩, hal.grown hg hal.size (fun k hk => by simp [Value.ownBlock] at hk; omega)⟩

theorem run_zeros {B : Nat} (w : World) (g c l : Nat) (xs : List Nat) (ho : Own 36 B w (some ⟨g, 0, none⟩) c xs) (lx : xs.length = l) (hl : l ≤ 100000) (z : Int) (k : Nat) (hz : z = k) (hk : k ≤ 1000) (hB : B ≤ w.heap.size) :
    ∃ g' c' w', (Builtin.append_ #[23, 3] 23 #[.slice (some ⟨g, 0, none⟩) l c, .int .i64 z]).run Try.prog w = .ok (.slice (some ⟨g', 0, none⟩) (l + k) c') w' ∧
      Own 36 B w' (some ⟨g', 0, none⟩) c' (xs ++ List.replicate k 0) ∧ w.grownBy w' (some g) := by
  subst lx hz
  obtain ⟨i0, hi, hz0, hz1, hz2⟩ := info_parts NT.Try.info36
  obtain ⟨g2, c2, w2, hr, hown2, hgr2⟩ := run_append_own_zeros (P := Try.prog) w B 23 3 23 36 i0 (.int .u64 0) .i64 .i64 Try.underlying23 Try.underlying3 hi hz0 hz1 hz2 rfl rfl g xs.length c (xs.map enc) ho.row k (by omega) (by omega) hB
  refine ⟨g2, c2, w2, hr, ⟨ho.dig.append (Dig.zeros (by decide) _), ?_⟩, hgr2⟩
  rw [List.length_append, List.length_replicate, List.map_append, List.map_replicate]; exact hown2
/-- .. the number a byte -/
theorem run_zeros8 {B : Nat} (w : World) (g c l : Nat) (xs zs : List Nat) (ho : Own 36 B w (some ⟨g, 0, none⟩) c xs) (lx : xs.length = l) (hl : l ≤ 100000) (z : Int) (k : Nat) (hz : z = k) (hk : k ≤ 1000) (hB : B ≤ w.heap.size) (hzs : zs = xs ++ List.replicate k 0) :
    ∃ g' c' w', (Builtin.append_ #[23, 5] 23 #[.slice (some ⟨g, 0, none⟩) l c, .int .u8 z]).run Try.prog w = .ok (.slice (some ⟨g', 0, none⟩) zs.length c') w' ∧
      Own 36 B w' (some ⟨g', 0, none⟩) c' zs ∧ w.grownBy w' (some g) := by
  subst lx hz hzs
  obtain ⟨i0, hi, hz0, hz1, hz2⟩ := info_parts NT.Try.info36
  obtain ⟨g2, c2, w2, hr, hown2, hgr2⟩ := run_append_own_zeros (P := Try.prog) w B 23 5 23 36 i0 (.int .u64 0) .u8 .u8 Try.underlying23 Try.underlying5 hi hz0 hz1 hz2 rfl rfl g xs.length c (xs.map enc) ho.row k (by omega) (by omega) hB
  refine ⟨g2, c2, w2, ?_, ⟨ho.dig.append (Dig.zeros (by decide) _), ?_⟩, hgr2⟩
  · rw [List.length_append, List.length_replicate]; exact hr
  · rw [List.length_append, List.length_replicate, List.map_append, List.map_replicate]; exact hown2
theorem drL_idem (x y : Nat) : QR.drL x y = L (V (QR.drL x y)) := by
  unfold QR.drL; split
  · rfl
  · rw [V_L]
theorem V_zs (xs : List Nat) (k : Nat) : V (xs ++ List.replicate k 0) = V xs := by
  unfold V
  rw [val_append, val_zeros]; simp
end Go.Proofs.QL
