/- Lesser strings: which are among them; the greatest one. -/
import Derived.Test.YtbmifejeffgobaaDoorCandJ
namespace Go.Proofs.CT
open Go.RowKit
open Go.Proofs
open Go.Proofs.BT
open Go
set_option linter.unusedVariables false
set_option linter.unusedSimpArgs false
theorem mem_rem {f : ByteArray → Nat → Nat → ByteArray} {u : ByteArray} {n i : Nat} (hne : ¬ f u i n = u) : ∀ {c a : Nat}, a ≤ i → i < a + c → f u i n ∈ rem f u n a c
  | 0, a, h1, h2 => by omega
  | c + 1, a, h1, h2 => by
    rw [rem, List.mem_append]
    rcases Nat.lt_or_ge a i with h | h
    · exact .inr (mem_rem hne (by omega) (by omega))
    · obtain rfl : a = i := by omega
      rw [if_neg hne]; simp
theorem mem_partJ {f : ByteArray → Nat → Nat → ByteArray} {u : ByteArray} {i : Nat} (h : i < u.size) (hne : ¬ f u i 1 = u) : f u i 1 ∈ partJ f u 0 := by
  simp only [partJ, List.mem_append]
  exact .inr (.inr (.inr (mem_rem hne (Nat.zero_le _) (by omega))))
theorem mem_downs {u : ByteArray} {i : Nat} (h : i < u.size) (h49 : u[i] = 49) : ∀ {c a : Nat}, a ≤ i → i < a + c → downB u i ∈ downs u a c
  | 0, a, h1, h2 => by omega
  | c + 1, a, h1, h2 => by
    rw [downs, List.mem_append]
    rcases Nat.lt_or_ge a i with h' | h'
    · exact .inr (mem_downs h h49 (by omega) (by omega))
    · obtain rfl : a = i := by omega
      rw [dif_pos h, if_pos h49]; simp
theorem cut_in {u : ByteArray} (hb : isB u = true) {k : Nat} (h : k < u.size) : cutB u k 1 ∈ cands u := by
  rw [cands, if_pos hb, List.mem_append]
  exact .inl (mem_partJ h (cut_ne (by omega) (by omega)))
theorem clear_ne {u : ByteArray} {k : Nat} (h : k < u.size) (h49 : u[k] = 49) : ¬ clearB u k 1 = u := by
  intro e
  have h1 := bl_clear u k 1
  rw [e, bl_at u k h, h49] at h1
  have hl : ((bl u).take k).length = k := by rw [List.length_take, bl_size]; omega
  have := congrArg (fun l => l[k]?) h1
  simp [hl] at this
theorem clear_in {u : ByteArray} (hb : isB u = true) {k : Nat} (h : k < u.size) (h49 : u[k] = 49) : clearB u k 1 ∈ cands u := by
  rw [cands, if_pos hb, List.mem_append, List.mem_append]
  exact .inr (.inl (mem_partJ h (clear_ne h h49)))
theorem down_in {u : ByteArray} (hb : isB u = true) {k : Nat} (h : k < u.size) (h49 : u[k] = 49) : downB u k ∈ cands u := by
  rw [cands, if_pos hb, List.mem_append, List.mem_append]
  exact .inr (.inr (mem_downs h h49 (Nat.zero_le _) (by omega)))
/-- is a text one of these? -/
theorem among_any (A : List ByteArray) (va : Value) (s : ByteArray) (w : World) (ha : Reads w va A) (z : Bool) (hz : z = true ↔ s ∈ A) :
    Calls Tryd.prog 15 #[va, .string s] w fun e w' => e = .returned (.bool z) ∧ w = w' := by
  obtain ⟨la, aa, ca, rfl, ra⟩ := ha
  have HZ := Lib.hid hz
  clear hz
  obtain ⟨n, hn⟩ : ∃ n, A.length = n := ⟨_, rfl⟩
  rw [hn]
  have HN := Lib.hid hn
  have hnn : n ≤ 100000 := by rw [← hn]; exact la
  clear hn
  go_enter Tryd.func15, Tryd.ntmps15
  go_wp2_with fail
  go_loop [5] (fun v => ∃ i : Nat, v = .int .i64 i ∧ i ≤ n ∧ Hid (s ∉ A.take i)) (fun v => n - (intOf v).toNat)
  case atStart => exact ⟨0, rfl, by omega, by simp [Hid]⟩
  case round =>
    obtain ⟨i, rfl, hi, HT⟩ := hrel
    by_cases hlt : i < n
    · have hiA : i < A.length := by rw [HN.out]; exact hlt
      rcases ra with h0 | ⟨ba, rfl, hba, hca⟩
      · rw [h0] at hiA; simp at hiA
      have c1 := hca i hiA
      obtain ⟨x, hx⟩ : ∃ x, A[i] = x := ⟨_, rfl⟩
      rw [hx] at c1
      clear hca
      by_cases hxy : x = s
      · have e := Lib.hid (show z = true from HZ.out.2 (by rw [← hxy, ← hx]; exact List.getElem_mem _))
        have t1 := seq_yes hxy
        clear HT hx hxy hiA
        go_wp2_with fail
        go_ret
        exact ⟨by rw [e.out]; rfl, rfl⟩
      · have HT2 := Lib.hid (show s ∉ A.take (i + 1) by
          rw [List.take_succ_eq_append_getElem hiA, List.mem_append, hx]
          rintro (h | h)
          · exact HT.out h
          · exact hxy (by have := List.mem_singleton.1 h; exact this.symm))
        have t1 := seq_no hxy
        clear HT hx hxy hiA
        go_wp2_with fail
        go_round
        case rel => exact ⟨i + 1, by go_num, by omega, HT2⟩
        case measure => simp [intOf]; omega
    · obtain rfl : i = n := by omega
      have e := Lib.hid (show z = false by
        have := HT.out
        rw [List.take_of_length_le (by rw [HN.out]; omega)] at this
        cases hz : z with
        | false => rfl
        | true => exact absurd (HZ.out.1 hz) this)
      clear HT
      go_wp2_with fail
      go_ret
      exact ⟨by rw [e.out]; rfl, rfl⟩
theorem among_below (A : List ByteArray) (va : Value) (s : ByteArray) (w : World) (ha : Reads w va A) (z : Bool) (hz : z = true ↔ s ∈ A) :
    Calls Tryd.prog 15 #[va, .string s] w fun e w' => e = .returned (.bool z) ∧ Below w.heap.size w w' :=
  (among_any A va s w ha z hz).mono fun e w' ⟨h, h2⟩ => ⟨h, by rw [← h2]; exact Below.refl _ _⟩
theorem quiet_add_same {P : Program} {f : FuncId} {args : Array Value} {w : World} {a n : Nat} {v : Value}
    (h : Calls P f args (w.drewN (a + n)) fun e w' => e = .returned v ∧ w' = w.drewN (a + n)) : Calls P f args (w.drewN (a + n)) fun e w'' => e = .returned v ∧ ∃ m, w'' = w.drewN (a + m) :=
  h.mono fun _ _ ⟨he, hm⟩ => ⟨he, n, hm⟩
/-- is a text among them, in a world that has only drawn -/
theorem among_drew (A : List ByteArray) (va : Value) (s : ByteArray) (w : World) (ha : Reads w va A) (hm : s ∈ A) (m : Nat) :
    Calls Tryd.prog 15 #[va, .string s] (w.drewN m) fun e w' => e = .returned (.bool true) ∧ w' = w.drewN m :=
  (among_any A va s _ (ha.later (below_drewN (Below.refl _ w) m)) true (by simp [hm])).mono fun e w' ⟨h, h2⟩ => ⟨h, h2.symm⟩
end Go.Proofs.CT
