/- The contract of word.Len: how many bits a word has. The argument is a word. -/
import Derived.Test.YtepndjcncmkkkaaProg
import Derived.Test.YtepndjcncmkkkaaWBase
namespace Go.Proofs.W
open Go.RowKit
set_option linter.unusedVariables false

theorem len (a : Int) (h0 : 0 ≤ a) (h1 : a ≤ 18446744073709551615) (w : World) :
    Calls Try.prog 35 #[.int .u64 a] w fun e w' => e = .returned (.int .i64 (bitLen a.toNat)) ∧ w = w' := by
  go_enter Try.func35, Try.ntmps35
  go_wp2
  go_step3
  go_wp2
  go_step3
  go_wp2
  go_loop [0, 3, 4] (fun s0 s3 s4 => ∃ (x : Int) (n j : Nat) (b : Int), s0 = .int .u64 x ∧ s3 = .int .i64 n ∧ s4 = .int .i64 b ∧ LenAt a x n j b) (fun _ _ s4 => (intOf s4).toNat)
  case atStart => exact ⟨a, 0, 6, 32, rfl, rfl, rfl, ⟨by simp, h0, by omega⟩⟩
  case round =>
    obtain ⟨x, n, j, b, rfl, rfl, rfl, ⟨hl, x0, hb⟩⟩ := hrel
    have H := Lib.hid hl
    clear hl
    rcases hb with ⟨rfl, rfl, hx, hn⟩ | ⟨rfl, rfl, hx, hn⟩ | ⟨rfl, rfl, hx, hn⟩ | ⟨rfl, rfl, hx, hn⟩ | ⟨rfl, rfl, hx, hn⟩ | ⟨rfl, rfl, hx, hn⟩ | ⟨rfl, rfl, hx, hn⟩
    · subst hn
      go_wp2
      · have ht : (x / 4294967296 != 0) = true := by assumption
        have hu := Lib.hid (LenAt.up H.out x0 32 4294967296 (by decide) (by simpa using ht))
        go_round
        case rel => exact ⟨_, 32, 5, 16, rfl, by go_num, rfl, ⟨by simpa using hu.out, by omega, by omega⟩⟩
        case measure => simp [intOf]
      · go_round
        case rel => exact ⟨x, 0, 5, 16, rfl, rfl, rfl, ⟨H.out, x0, by have ht : (x / 4294967296 != 0) = false := (by assumption); simp at ht; omega⟩⟩
        case measure => simp [intOf]
    · skip
      go_wp2
      · have ht : (x / 65536 != 0) = true := by assumption
        have hu := Lib.hid (LenAt.up H.out x0 16 65536 (by decide) (by simpa using ht))
        go_round
        case rel => exact ⟨_, n + 16, 4, 8, rfl, by go_num, rfl, ⟨hu.out, by omega, by omega⟩⟩
        case measure => simp [intOf]
      · go_round
        case rel => exact ⟨x, n, 4, 8, rfl, rfl, rfl, ⟨H.out, x0, by have ht : (x / 65536 != 0) = false := (by assumption); simp at ht; omega⟩⟩
        case measure => simp [intOf]
    · skip
      go_wp2
      · have ht : (x / 256 != 0) = true := by assumption
        have hu := Lib.hid (LenAt.up H.out x0 8 256 (by decide) (by simpa using ht))
        go_round
        case rel => exact ⟨_, n + 8, 3, 4, rfl, by go_num, rfl, ⟨hu.out, by omega, by omega⟩⟩
        case measure => simp [intOf]
      · go_round
        case rel => exact ⟨x, n, 3, 4, rfl, rfl, rfl, ⟨H.out, x0, by have ht : (x / 256 != 0) = false := (by assumption); simp at ht; omega⟩⟩
        case measure => simp [intOf]
    · skip
      go_wp2
      · have ht : (x / 16 != 0) = true := by assumption
        have hu := Lib.hid (LenAt.up H.out x0 4 16 (by decide) (by simpa using ht))
        go_round
        case rel => exact ⟨_, n + 4, 2, 2, rfl, by go_num, rfl, ⟨hu.out, by omega, by omega⟩⟩
        case measure => simp [intOf]
      · go_round
        case rel => exact ⟨x, n, 2, 2, rfl, rfl, rfl, ⟨H.out, x0, by have ht : (x / 16 != 0) = false := (by assumption); simp at ht; omega⟩⟩
        case measure => simp [intOf]
    · skip
      go_wp2
      · have ht : (x / 4 != 0) = true := by assumption
        have hu := Lib.hid (LenAt.up H.out x0 2 4 (by decide) (by simpa using ht))
        go_round
        case rel => exact ⟨_, n + 2, 1, 1, rfl, by go_num, rfl, ⟨hu.out, by omega, by omega⟩⟩
        case measure => simp [intOf]
      · go_round
        case rel => exact ⟨x, n, 1, 1, rfl, rfl, rfl, ⟨H.out, x0, by have ht : (x / 4 != 0) = false := (by assumption); simp at ht; omega⟩⟩
        case measure => simp [intOf]
    · skip
      go_wp2
      · have ht : (x / 2 != 0) = true := by assumption
        have hu := Lib.hid (LenAt.up H.out x0 1 2 (by decide) (by simpa using ht))
        go_round
        case rel => exact ⟨_, n + 1, 0, 0, rfl, by go_num, rfl, ⟨hu.out, by omega, by omega⟩⟩
        case measure => simp [intOf]
      · go_round
        case rel => exact ⟨x, n, 0, 0, rfl, rfl, rfl, ⟨H.out, x0, by have ht : (x / 2 != 0) = false := (by assumption); simp at ht; omega⟩⟩
        case measure => simp [intOf]
    · go_wp2
      go_ret
      refine ⟨ret_int ?_, rfl⟩
      have := bitLen_small x x0 hx
      rw [H.out]
      simp
      omega
end Go.Proofs.W
