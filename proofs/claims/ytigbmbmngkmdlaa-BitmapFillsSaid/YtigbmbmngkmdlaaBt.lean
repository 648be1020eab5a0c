/-
  Bits of numbers of 64 bits, told of natural numbers.
-/
import Derived.Test.YtigbmbmngkmdlaaL
namespace Go.Proofs.Ytigbmbmngkmdlaa.Bt
open Go.RowKit Go.Proofs.Ytigbmbmngkmdlaa.L

theorem cast_lt {a j : Nat} (h : a < 2 ^ j) : (a : Int) < 2 ^ j := by exact_mod_cast h
theorem and_u64 (a b : Nat) (ha : a < 2 ^ 64) (hb : b < 2 ^ 64) : bits .and .u64 (a : Int) (b : Int) = ((a &&& b : Nat) : Int) := (bits_nat .u64 64 (by decide) wraps_u64 a b ha hb).1
theorem or_u64 (a b : Nat) (ha : a < 2 ^ 64) (hb : b < 2 ^ 64) : bits .or .u64 (a : Int) (b : Int) = ((a ||| b : Nat) : Int) := (bits_nat .u64 64 (by decide) wraps_u64 a b ha hb).2
theorem hi_bit (a k i : Nat) : (a / 2 ^ k * 2 ^ k).testBit i = (decide (k ≤ i) && a.testBit i) := by
  rw [Nat.mul_comm, Nat.testBit_two_pow_mul]
  by_cases h : k ≤ i
  · simp [h, Nat.testBit_div_two_pow, Nat.sub_add_cancel h]
  · simp [h]
theorem bit_hi {a i : Nat} (ha : a < 2 ^ 64) (hi : 64 ≤ i) : a.testBit i = false := Nat.testBit_lt_two_pow (Nat.lt_of_lt_of_le ha (Nat.pow_le_pow_right (by decide) hi))
theorem andn_u64 (a k : Nat) (ha : a < 2 ^ 64) (hk : k ≤ 64) : bits .andNot .u64 (a : Int) ((2 ^ k - 1 : Nat) : Int) = ((a / 2 ^ k * 2 ^ k : Nat) : Int) := by
  have hb : 2 ^ k - 1 < 2 ^ 64 := by
    have : 2 ^ k ≤ 2 ^ 64 := Nat.pow_le_pow_right (by decide) hk
    have := Nat.two_pow_pos k
    omega
  simp only [bits, BitVec.ofInt_natCast]
  have e : (BitVec.ofNat IntKind.u64.bits a &&& ~~~BitVec.ofNat IntKind.u64.bits (2 ^ k - 1)).toNat = a / 2 ^ k * 2 ^ k := by
    apply Nat.eq_of_testBit_eq
    intro i
    rw [hi_bit, BitVec.testBit_toNat]
    have h64 : IntKind.u64.bits = 64 := rfl
    simp only [BitVec.getLsbD_and, BitVec.getLsbD_not, BitVec.getLsbD_ofNat, Nat.testBit_two_pow_sub_one, h64]
    by_cases h1 : i < 64
    · by_cases h2 : k ≤ i
      · have h3 : ¬ i < k := by omega
        simp [h1, h2, h3]
      · have h3 : i < k := by omega
        simp [h1, h2, h3]
    · rw [bit_hi ha (by omega)]; simp [h1]
  rw [e]
  exact wraps_u64 _ (by omega) (cast_lt (Nat.lt_of_le_of_lt (Nat.div_mul_le_self _ _) ha))
theorem andn_zero (a k : Nat) : ((((a / 2 ^ k * 2 ^ k : Nat) : Int) == 0)) = decide (a < 2 ^ k) := by
  have hp := Nat.two_pow_pos k
  by_cases h : a < 2 ^ k
  · simp [Nat.div_eq_of_lt h, h]
  · have h1 : 0 < a / 2 ^ k := Nat.div_pos (by omega) hp
    have h2 : 0 < a / 2 ^ k * 2 ^ k := Nat.mul_pos h1 hp
    rw [decide_eq_false h]
    generalize a / 2 ^ k * 2 ^ k = y at h2
    simp
    omega
theorem shl_u64 {i : Nat} (h : i < 64) : IntKind.u64.wrap (2 ^ i) = ((2 ^ i : Nat) : Int) := by
  have : (2 ^ i : Nat) < 2 ^ 64 := Nat.pow_lt_pow_right (by decide) h
  rw [show (2 : Int) ^ i = ((2 ^ i : Nat) : Int) from by simp]
  exact wraps_u64 _ (Int.natCast_nonneg _) (cast_lt this)
theorem bit_one (a i : Nat) : ((((a / 2 ^ i % 2 : Nat) : Int) == 1)) = a.testBit i := by
  rw [Nat.testBit_eq_decide_div_mod_eq]
  rcases Nat.mod_two_eq_zero_or_one (a / 2 ^ i) with h | h <;> simp [h]
theorem and1_u64 (a : Nat) (ha : a < 2 ^ 64) : bits .and .u64 (a : Int) 1 = ((a % 2 : Nat) : Int) := by
  have := and_u64 a 1 ha (by decide)
  rwa [Nat.and_one_is_mod] at this
theorem shr_nat (a j : Nat) : (a : Int) / 2 ^ j = ((a / 2 ^ j : Nat) : Int) := by simp
theorem has_bit {x j : Nat} (hx : x < 2 ^ 64) : (bits .and .u64 ((x : Int) / 2 ^ j) 1 == 1) = x.testBit j := by
  rw [shr_nat, and1_u64 _ (Nat.lt_of_le_of_lt (Nat.div_le_self _ _) hx), bit_one]
end Go.Proofs.Ytigbmbmngkmdlaa.Bt
