/-
  bitmap, the reference: Write.
-/
import Derived.Test.YtigbmbmngkmdlaaBg
namespace Go.Proofs.Ytigbmbmngkmdlaa.Bm
open Go.RowKit Go.Proofs.Ytigbmbmngkmdlaa.L Go.Proofs.Ytigbmbmngkmdlaa.Bt Go.Proofs.YtigbmbmngkmdlaaW.PrintWords

/-- the number of some truths, the least first -/
def num : List Bool → Nat
  | [] => 0
  | b :: r => b.toNat + 2 * num r
theorem num_lt : ∀ l : List Bool, num l < 2 ^ l.length
  | [] => by simp [num]
  | b :: r => by
    have := num_lt r
    have hb : b.toNat ≤ 1 := by cases b <;> simp
    simp only [num, List.length_cons, Nat.pow_succ]
    omega
theorem num_bit : ∀ (l : List Bool) (i : Nat), (num l).testBit i = l.getD i false
  | [], i => by simp [num]
  | b :: r, 0 => by cases b <;> simp [num, Nat.testBit_zero] <;> omega
  | b :: r, i + 1 => by
    have hb : (b.toNat + 2 * num r) / 2 = num r := by cases b <;> simp <;> omega
    rw [num, Nat.testBit_succ, hb, num_bit r i]
    simp
theorem num_bits (x n : Nat) : num (bitsL x n) = x % 2 ^ n := by
  apply Nat.eq_of_testBit_eq
  intro i
  rw [num_bit, Nat.testBit_mod_two_pow]
  by_cases h : i < n
  · simp [bitsL, h]
  · simp [bitsL, h]
/-- the first bytes of a number -/
def byts (x q : Nat) : List Int := (List.range q).map (fun i => ((x / 2 ^ (8 * i) % 256 : Nat) : Int))
theorem byts_succ (x q : Nat) : byts x (q + 1) = byts x q ++ [((x / 2 ^ (8 * q) % 256 : Nat) : Int)] := by simp [byts, List.range_succ]
theorem byts_len (x q : Nat) : (byts x q).length = q := by simp [byts]
/-- what is known behind m truths -/
def Mid (X len m q v wv : Nat) : Prop := (m < len → ∃ k, m = 8 * q + k ∧ k < 8 ∧ v = X / 2 ^ (8 * q) % 2 ^ k ∧ wv = 2 ^ k) ∧ (m = len → q = (len + 7) / 8)
theorem top_byte {X len q k : Nat} (hX : X < 2 ^ len) (h : len ≤ 8 * q + k) (hk : k ≤ 8) : X / 2 ^ (8 * q) % 256 = X / 2 ^ (8 * q) % 2 ^ k := by
  have h1 : X / 2 ^ (8 * q) < 2 ^ k := by
    rw [Nat.div_lt_iff_lt_mul (Nat.two_pow_pos _), ← Nat.pow_add]
    exact Nat.lt_of_lt_of_le hX (Nat.pow_le_pow_right (by decide) (by omega))
  have h2 : 2 ^ k ≤ 2 ^ 8 := Nat.pow_le_pow_right (by decide) hk
  rw [Nat.mod_eq_of_lt (by omega), Nat.mod_eq_of_lt h1]
theorem mid_step {X m q k : Nat} (hm : m = 8 * q + k) (b : Bool) (hb : X.testBit m = b) : X / 2 ^ (8 * q) % 2 ^ (k + 1) = X / 2 ^ (8 * q) % 2 ^ k + (if b then 2 ^ k else 0) := by
  have h : (X / 2 ^ (8 * q)).testBit k = b := by rw [Nat.testBit_div_two_pow, show k + 8 * q = m from by omega, hb]
  rw [ Nat.testBit_eq_decide_div_mod_eq] at h
  rw [Nat.mod_pow_succ]
  rcases Nat.mod_two_eq_zero_or_one (X / 2 ^ (8 * q) / 2 ^ k) with h2 | h2
  · rw [h2] at h ⊢; simp at h; subst h; simp
  · rw [h2] at h ⊢; simp at h; subst h; simp
end Go.Proofs.Ytigbmbmngkmdlaa.Bm
