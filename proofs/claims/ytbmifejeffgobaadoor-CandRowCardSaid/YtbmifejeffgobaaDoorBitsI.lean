/- Strings of bits: a number as bits. -/
import Derived.Test.YtbmifejeffgobaaDoorBitsG
import Derived.Test.YtbmifejeffgobaaDoorZeros
import Derived.Laws.IdiomStrings
namespace Go.Proofs.BT
open Go.RowKit
open Go.Proofs
open Go
set_option linter.unusedVariables false
set_option linter.unusedSimpArgs false
/-- a bit of a number, as a byte; its lowest bits as bytes -/
def bitB (n i : Nat) : UInt8 := if n / 2 ^ i % 2 = 1 then 49 else 48
def lowL (n : Nat) : Nat → List UInt8
  | 0 => []
  | i + 1 => bitB n i :: lowL n i
theorem lowL_len (n : Nat) : ∀ i, (lowL n i).length = i
  | 0 => rfl
  | i + 1 => by rw [lowL, List.length_cons, lowL_len n i]
def ofB (n w : Nat) : ByteArray := ⟨(lowL n w).toArray⟩
theorem ofB_size (n w : Nat) : (ofB n w).size = w := by simp [ofB, ByteArray.size, lowL_len]
theorem half (n i : Nat) : n / 2 ^ i / 2 = n / 2 ^ (i + 1) := by rw [Nat.div_div_eq_div_mul, Nat.pow_succ]
theorem ofB_succ (n i : Nat) : (⟨#[bitB n i]⟩ : ByteArray) ++ ofB n i = ofB n (i + 1) := by
  apply ByteArray.ext
  rw [ByteArray.data_append]
  simp only [ofB, lowL]
  apply Array.ext'
  simp
theorem big_zero (n : Nat) (h : n < 18446744073709551616) (w : Nat) (hw : 64 ≤ w) : n / 2 ^ w = 0 := by
  apply Nat.div_eq_of_lt
  have : 2 ^ 64 ≤ 2 ^ w := Nat.pow_le_pow_right (by decide) hw
  omega
/-- a byte in its cell -/
def enc8 (b : UInt8) : Value := .int .u8 (b.toNat : Int)
theorem Tryd.info5 : (Tryd.prog.info? 5).map (fun i => (i.zero, i.size, i.bytes)) = some (some (.int .u8 0), 1, 1) := by kernel_rfl
theorem addP (b j : Nat) : (⟨b, 0, none⟩ : Addr).add j = ⟨b, j, none⟩ := by cases j <;> simp [Addr.add]
theorem drop_set {α : Type} (os : List α) (j : Nat) (v : α) (h : j < os.length) : (os.set j v).drop j = v :: os.drop (j + 1) := by
  rw [List.drop_eq_getElem_cons (by simpa using h)]
  simp [List.drop_set]
theorem bit8 (m : Nat) (h : m < 18446744073709551616) : (48 + Go.bits BinOp.and IntKind.u64 (m : Int) 1) % 256 = (((if m % 2 = 1 then 49 else 48 : UInt8).toNat : Nat) : Int) := by
  have e := bits_and_u64_nat m 1 h (by decide)
  rw [Nat.and_one_is_mod] at e
  have e' : Go.bits BinOp.and IntKind.u64 (m : Int) 1 = ((m % 2 : Nat) : Int) := e
  rw [e']
  rcases Nat.mod_two_eq_zero_or_one m with h0 | h0 <;> rw [h0] <;> decide +kernel
end Go.Proofs.BT
