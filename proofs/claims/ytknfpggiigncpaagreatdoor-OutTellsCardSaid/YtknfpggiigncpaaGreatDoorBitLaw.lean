/- Bits of small numbers: 'and' with a mask of ones, 'or' of parts that do not meet. -/
import Derived.Laws.DeepBits32
import Derived.Laws.Bits64b
import Derived.Laws.Runes
set_option linter.unusedVariables false
set_option linter.unusedSimpArgs false
namespace Go.Proofs.YtknfpggiigncpaaGreatDoor.P

theorem and_i64 (a b : Nat) (ha : a < 9223372036854775808) (hb : b < 9223372036854775808) : bits .and .i64 (a : Int) (b : Int) = ((a &&& b : Nat) : Int) := by
  have hx : a &&& b < 2 ^ 63 := Nat.and_lt_two_pow _ (by omega)
  have h1 : (BitVec.ofInt 64 (a : Int)).toNat = a := by
    rw [BitVec.ofInt_natCast, BitVec.toNat_ofNat]; exact Nat.mod_eq_of_lt (by omega)
  have h2 : (BitVec.ofInt 64 (b : Int)).toNat = b := by
    rw [BitVec.ofInt_natCast, BitVec.toNat_ofNat]; exact Nat.mod_eq_of_lt (by omega)
  show IntKind.i64.wrap ((BitVec.ofInt 64 (a : Int) &&& BitVec.ofInt 64 (b : Int)).toNat : Int) = _
  rw [BitVec.toNat_and, h1, h2]
  exact wrap_small _ (by omega) (by omega)
theorem or_i64 (a b : Nat) (ha : a < 9223372036854775808) (hb : b < 9223372036854775808) : bits .or .i64 (a : Int) (b : Int) = ((a ||| b : Nat) : Int) := by
  have hx : a ||| b < 2 ^ 63 := Nat.or_lt_two_pow (by omega) (by omega)
  have h1 : (BitVec.ofInt 64 (a : Int)).toNat = a := by
    rw [BitVec.ofInt_natCast, BitVec.toNat_ofNat]; exact Nat.mod_eq_of_lt (by omega)
  have h2 : (BitVec.ofInt 64 (b : Int)).toNat = b := by
    rw [BitVec.ofInt_natCast, BitVec.toNat_ofNat]; exact Nat.mod_eq_of_lt (by omega)
  show IntKind.i64.wrap ((BitVec.ofInt 64 (a : Int) ||| BitVec.ofInt 64 (b : Int)).toNat : Int) = _
  rw [BitVec.toNat_or, h1, h2]
  exact wrap_small _ (by omega) (by omega)
theorem or_i32 (a b : Nat) (ha : a < 2147483648) (hb : b < 2147483648) : bits .or .i32 (a : Int) (b : Int) = ((a ||| b : Nat) : Int) := by
  have hx : a ||| b < 2 ^ 31 := Nat.or_lt_two_pow (by omega) (by omega)
  have h1 : (BitVec.ofInt 32 (a : Int)).toNat = a := by
    rw [BitVec.ofInt_natCast, BitVec.toNat_ofNat]; exact Nat.mod_eq_of_lt (by omega)
  have h2 : (BitVec.ofInt 32 (b : Int)).toNat = b := by
    rw [BitVec.ofInt_natCast, BitVec.toNat_ofNat]; exact Nat.mod_eq_of_lt (by omega)
  show IntKind.i32.wrap ((BitVec.ofInt 32 (a : Int) ||| BitVec.ofInt 32 (b : Int)).toNat : Int) = _
  rw [BitVec.toNat_or, h1, h2]
  exact wrap_i32_small _ (by omega) (by omega)
theorem and_u8 (a b : Nat) (ha : a < 256) (hb : b < 256) : bits .and .u8 (a : Int) (b : Int) = ((a &&& b : Nat) : Int) := by
  have hx : a &&& b < 2 ^ 8 := Nat.and_lt_two_pow _ (by omega)
  have h1 : (BitVec.ofInt 8 (a : Int)).toNat = a := by
    rw [BitVec.ofInt_natCast, BitVec.toNat_ofNat]; exact Nat.mod_eq_of_lt (by omega)
  have h2 : (BitVec.ofInt 8 (b : Int)).toNat = b := by
    rw [BitVec.ofInt_natCast, BitVec.toNat_ofNat]; exact Nat.mod_eq_of_lt (by omega)
  show IntKind.u8.wrap ((BitVec.ofInt 8 (a : Int) &&& BitVec.ofInt 8 (b : Int)).toNat : Int) = _
  rw [BitVec.toNat_and, h1, h2]
  simp [IntKind.wrap, IntKind.bits, IntKind.signed]
  omega
theorem and_mask (a k : Nat) : a &&& (2 ^ k - 1) = a % 2 ^ k := Nat.and_two_pow_sub_one_eq_mod a k
theorem or_parts (a b k : Nat) (h : b < 2 ^ k) : (2 ^ k * a) ||| b = 2 ^ k * a + b := (Nat.two_pow_add_eq_or_of_lt h a).symm

theorem or64_i64 (a b : Nat) (ha : a < 1073741824) (hb : b < 64) : bits .or .i64 ((a : Int) * 64) (b : Int) = (a : Int) * 64 + b := by
  have := or_parts a b 6 hb
  rw [show (a : Int) * 64 = ((2 ^ 6 * a : Nat) : Int) by omega, or_i64 _ _ (by omega) (by omega), this]
  omega
theorem or64_i32 (a b : Nat) (ha : a < 33554432) (hb : b < 64) : bits .or .i32 ((a : Int) * 64) (b : Int) = (a : Int) * 64 + b := by
  have := or_parts a b 6 hb
  rw [show (a : Int) * 64 = ((2 ^ 6 * a : Nat) : Int) by omega, or_i32 _ _ (by omega) (by omega), this]
  omega
theorem mask63_u8 (a : Nat) (ha : a < 256) : bits .and .u8 (a : Int) 63 = ((a % 64 : Nat) : Int) := by
  rw [show (63 : Int) = ((63 : Nat) : Int) from rfl, and_u8 a 63 ha (by omega), show 63 = 2 ^ 6 - 1 from rfl, and_mask]
theorem mask15_u8 (a : Nat) (ha : a < 256) : bits .and .u8 (a : Int) 15 = ((a % 16 : Nat) : Int) := by
  rw [show (15 : Int) = ((15 : Nat) : Int) from rfl, and_u8 a 15 ha (by omega), show 15 = 2 ^ 4 - 1 from rfl, and_mask]
theorem mask7_u8 (a : Nat) (ha : a < 256) : bits .and .u8 (a : Int) 7 = ((a % 8 : Nat) : Int) := by
  rw [show (7 : Int) = ((7 : Nat) : Int) from rfl, and_u8 a 7 ha (by omega), show 7 = 2 ^ 3 - 1 from rfl, and_mask]
theorem mask31_u8 (a : Nat) (ha : a < 256) : bits .and .u8 (a : Int) 31 = ((a % 32 : Nat) : Int) := by
  rw [show (31 : Int) = ((31 : Nat) : Int) from rfl, and_u8 a 31 ha (by omega), show 31 = 2 ^ 5 - 1 from rfl, and_mask]
theorem mask192_u8 : ∀ a : Nat, a < 256 → (bits .and .u8 (a : Int) 192 = 128 ↔ a / 64 = 2) := by
  intro a ha
  rw [show (192 : Int) = ((192 : Nat) : Int) from rfl, and_u8 a 192 ha (by omega)]
  have : ∀ a < 256, (a &&& 192 = 128 ↔ a / 64 = 2) := by decide +kernel
  have := this a ha
  omega
theorem mask31_i64 (a : Nat) (ha : a < 9223372036854775808) : bits .and .i64 (a : Int) 31 = ((a % 32 : Nat) : Int) := by
  rw [show (31 : Int) = ((31 : Nat) : Int) from rfl, and_i64 a 31 ha (by omega), show 31 = 2 ^ 5 - 1 from rfl, and_mask]
theorem mask15_i64 (a : Nat) (ha : a < 9223372036854775808) : bits .and .i64 (a : Int) 15 = ((a % 16 : Nat) : Int) := by
  rw [show (15 : Int) = ((15 : Nat) : Int) from rfl, and_i64 a 15 ha (by omega), show 15 = 2 ^ 4 - 1 from rfl, and_mask]
theorem mask7_i64 (a : Nat) (ha : a < 9223372036854775808) : bits .and .i64 (a : Int) 7 = ((a % 8 : Nat) : Int) := by
  rw [show (7 : Int) = ((7 : Nat) : Int) from rfl, and_i64 a 7 ha (by omega), show 7 = 2 ^ 3 - 1 from rfl, and_mask]
/-- A head of ones above a part. -/
theorem or_head (h b k c : Nat) (hh : h = 2 ^ k * c) (hb : b < 2 ^ k) (h1 : h < 4294967296) (h2 : b < 4294967296) : bits .or .i64 (h : Int) (b : Int) = ((h + b : Nat) : Int) := by
  rw [or_i64 _ _ (by omega) (by omega), hh, or_parts c b k hb]
end Go.Proofs.YtknfpggiigncpaaGreatDoor.P
