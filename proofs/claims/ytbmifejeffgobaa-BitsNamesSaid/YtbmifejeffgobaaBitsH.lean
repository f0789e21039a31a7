/- Strings of bits: the document's Cmp. -/
import Derived.Test.YtbmifejeffgobaaBitsB
import Derived.Lib.Bytealg
namespace Go.Proofs.BT
open Go.RowKit
open Go.Proofs
open Go
set_option linter.unusedVariables false
set_option linter.unusedSimpArgs false
/-- how two texts stand to each other -/
def cmpB (a b : ByteArray) : Int := if a.size < b.size then -1 else if b.size < a.size then 1 else Lib.compareBytes a.data.toList b.data.toList
theorem drop_cons (a : ByteArray) (i : Nat) (h : i < a.size) : a.data.toList.drop i = a[i] :: a.data.toList.drop (i + 1) := by
  rw [List.drop_eq_getElem_cons (by simpa using h)]; rfl
theorem cb_step {a b : ByteArray} {i : Nat} (ha : i < a.size) (hb : i < b.size) : Lib.compareBytes (a.data.toList.drop i) (b.data.toList.drop i) = if a[i] < b[i] then -1 else if b[i] < a[i] then 1 else Lib.compareBytes (a.data.toList.drop (i + 1)) (b.data.toList.drop (i + 1)) := by
  rw [drop_cons a i ha, drop_cons b i hb, Lib.compareBytes]
set_option maxHeartbeats 1000000 in
theorem cmp2 (a b : ByteArray) (w : World) (hs : a.size ≤ 4294967296) (hs2 : b.size ≤ 4294967296) (z : Int) (hz : z = cmpB a b) :
    Calls Try.prog 14 #[.string a, .string b] w fun e w' => e = .returned (.int .i64 z) ∧ ∃ n, w.drewN n = w' := by
  have HZ := Lib.hid hz
  clear hz
  rcases Nat.lt_trichotomy a.size b.size with h | h | h
  · have e := Lib.hid (show z = -1 by rw [HZ.out, cmpB, if_pos h])
    have h1 : ¬ (a.size : Int) = b.size := by omega
    go_enter Try.func14, Try.ntmps14
    go_wp2_with fail
    go_ret
    exact ⟨by rw [e.out]; rfl, 0, rfl⟩
  · have HE := Lib.hid (show z = Lib.compareBytes a.data.toList b.data.toList by rw [HZ.out, cmpB, if_neg (by omega), if_neg (by omega)])
    have h1 : b.size ≤ a.size := by omega
    have h2 : a.size ≤ b.size := by omega
    clear h HZ
    go_enter Try.func14, Try.ntmps14
    go_wp2_with fail
    go_loopw [5] (fun v wr => ∃ i n : Nat, v = .int .i64 i ∧ i ≤ a.size ∧ Hid (z = Lib.compareBytes (a.data.toList.drop i) (b.data.toList.drop i)) ∧ wr = w.drewN n) (fun v _ => a.size - (intOf v).toNat)
    case atStart => exact ⟨0, 0, rfl, by omega, HE, rfl⟩
    case round =>
      obtain ⟨i, n, rfl, hi, HI, rfl⟩ := hrel
      by_cases hlt : i < a.size
      · have hlb : i < b.size := by omega
        have st := cb_step hlt hlb
        rw [← HI.out] at st
        have hA : a[i] < b[i] ↔ (a[i].toNat : Int) < (b[i].toNat : Int) := by rw [UInt8.lt_iff_toNat_lt]; omega
        have hB : b[i] < a[i] ↔ (b[i].toNat : Int) < (a[i].toNat : Int) := by rw [UInt8.lt_iff_toNat_lt]; omega
        have ST := Lib.hid st
        have HA := Lib.hid hA
        have HBB := Lib.hid hB
        clear st hA hB HI
        rcases Int.lt_trichotomy (a[i].toNat : Int) (b[i].toNat : Int) with hc | hc | hc
        · have e := Lib.hid (show z = -1 by rw [ST.out, if_pos (HA.out.2 hc)])
          have t : (((a[i].toNat : Int)) != (b[i].toNat : Int)) = true := by rw [bne_iff_ne]; omega
          go_wp2_with fail
          go_quiet (fail)
          go_wp2_with fail
          go_quiet (fail)
          go_wp2_with fail
          go_ret
          refine ⟨by rw [e.out]; rfl, ?_⟩
          rw [World.drewN_drewN, World.drewN_drewN]
          exact ⟨_, rfl⟩
        · have t : (((a[i].toNat : Int)) != (b[i].toNat : Int)) = false := by rw [hc]; simp
          have e := Lib.hid (show z = Lib.compareBytes (a.data.toList.drop (i + 1)) (b.data.toList.drop (i + 1)) by rw [ST.out, if_neg (by rw [HA.out]; omega), if_neg (by rw [HBB.out]; omega)])
          clear hc
          go_wp2_with fail
          go_quiet (fail)
          go_wp2_with fail
          go_roundw
          case rel => exact ⟨i + 1, _, by go_num, by omega, e, rfl⟩
          case measure => simp [intOf]; omega
        · have e := Lib.hid (show z = 1 by rw [ST.out, if_neg (by rw [HA.out]; omega), if_pos (HBB.out.2 hc)])
          have t : (((a[i].toNat : Int)) != (b[i].toNat : Int)) = true := by rw [bne_iff_ne]; omega
          have hc2 : ¬ (a[i].toNat : Int) < (b[i].toNat : Int) := by omega
          go_wp2_with fail
          go_quiet (fail)
          go_wp2_with fail
          go_quiet (fail)
          go_wp2_with fail
          go_ret
          refine ⟨by rw [e.out]; rfl, ?_⟩
          rw [World.drewN_drewN, World.drewN_drewN]
          exact ⟨_, rfl⟩
      · have e := Lib.hid (show z = 0 by
          have := HI.out
          have la : a.data.toList.length = a.size := Array.length_toList
          have lb : b.data.toList.length = b.size := Array.length_toList
          rw [List.drop_eq_nil_of_le (by omega), List.drop_eq_nil_of_le (by omega)] at this
          exact this)
        clear HI
        go_wp2_with fail
        go_ret
        exact ⟨by rw [e.out]; rfl, n, rfl⟩
  · have e := Lib.hid (show z = 1 by rw [HZ.out, cmpB, if_neg (by omega), if_pos h])
    have h1 : ¬ (a.size : Int) = b.size := by omega
    go_enter Try.func14, Try.ntmps14
    go_wp2_with fail
    go_ret
    exact ⟨by rw [e.out]; rfl, 0, rfl⟩
end Go.Proofs.BT
