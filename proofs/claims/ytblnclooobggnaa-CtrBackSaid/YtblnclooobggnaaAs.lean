/-
  aes: the document's mixing, in plain Lean.
-/
import Derived.Test.YtblnclooobggnaaAp
namespace Go.Proofs.Ytblnclooobggnaa.A
open Go.RowKit Go.Proofs.Ytblnclooobggnaa.L Go.Proofs.Ytblnclooobggnaa.N

theorem rmul_two : ∀ a, a < 256 → rmul a 2 = dbl a := by decide +kernel
theorem two_rmul : ∀ a, a < 256 → rmul 2 a = dbl a := by decide +kernel
theorem three_rmul : ∀ a, a < 256 → rmul 3 a = dbl a ^^^ a := by decide +kernel
theorem bmix0 : ∀ a0 a1 a2 a3 D0 D1 : Bool, ((a0 ^^ (((a0 ^^ a1) ^^ a2) ^^ a3)) ^^ (D0 ^^ D1)) = (((D0 ^^ (D1 ^^ a1)) ^^ a2) ^^ a3) := by decide
theorem bmix1 : ∀ a0 a1 a2 a3 D0 D1 : Bool, ((a1 ^^ (((a0 ^^ a1) ^^ a2) ^^ a3)) ^^ (D0 ^^ D1)) = (((D0 ^^ (D1 ^^ a2)) ^^ a3) ^^ a0) := by decide
theorem bmix2 : ∀ a0 a1 a2 a3 D0 D1 : Bool, ((a2 ^^ (((a0 ^^ a1) ^^ a2) ^^ a3)) ^^ (D0 ^^ D1)) = (((D0 ^^ (D1 ^^ a3)) ^^ a0) ^^ a1) := by decide
theorem bmix3 : ∀ a0 a1 a2 a3 D0 D1 : Bool, ((a3 ^^ (((a0 ^^ a1) ^^ a2) ^^ a3)) ^^ (D0 ^^ D1)) = (((D0 ^^ (D1 ^^ a0)) ^^ a1) ^^ a2) := by decide
theorem mixB_ref {a : List Nat} (ha : a.length = 4) (h8 : ∀ x ∈ a, x < 256) {i : Nat} (hi : i < 4) :
    mixB a i = ((rmul 2 (a.getD i 0) ^^^ rmul 3 (a.getD ((i + 1) % 4) 0)) ^^^ a.getD ((i + 2) % 4) 0) ^^^ a.getD ((i + 3) % 4) 0 := by
  obtain ⟨a0, a1, a2, a3, rfl⟩ := len4 ha
  have p0 : a0 < 256 := h8 _ (by simp)
  have p1 : a1 < 256 := h8 _ (by simp)
  have p2 : a2 < 256 := h8 _ (by simp)
  have p3 : a3 < 256 := h8 _ (by simp)
  rcases (show i = 0 ∨ i = 1 ∨ i = 2 ∨ i = 3 from by omega) with h | h | h | h <;> subst h
  · show (a0 ^^^ (a0 ^^^ a1 ^^^ a2 ^^^ a3)) ^^^ dbl (a0 ^^^ a1) = ((rmul 2 a0 ^^^ rmul 3 a1) ^^^ a2) ^^^ a3
    rw [two_rmul _ p0, three_rmul _ p1, dbl_xor _ p0 _ p1]
    apply Nat.eq_of_testBit_eq
    intro i
    simp only [Nat.testBit_xor]
    exact bmix0 _ _ _ _ _ _
  · show (a1 ^^^ (a0 ^^^ a1 ^^^ a2 ^^^ a3)) ^^^ dbl (a1 ^^^ a2) = ((rmul 2 a1 ^^^ rmul 3 a2) ^^^ a3) ^^^ a0
    rw [two_rmul _ p1, three_rmul _ p2, dbl_xor _ p1 _ p2]
    apply Nat.eq_of_testBit_eq
    intro i
    simp only [Nat.testBit_xor]
    exact bmix1 _ _ _ _ _ _
  · show (a2 ^^^ (a0 ^^^ a1 ^^^ a2 ^^^ a3)) ^^^ dbl (a2 ^^^ a3) = ((rmul 2 a2 ^^^ rmul 3 a3) ^^^ a0) ^^^ a1
    rw [two_rmul _ p2, three_rmul _ p3, dbl_xor _ p2 _ p3]
    apply Nat.eq_of_testBit_eq
    intro i
    simp only [Nat.testBit_xor]
    exact bmix2 _ _ _ _ _ _
  · show (a3 ^^^ (a0 ^^^ a1 ^^^ a2 ^^^ a3)) ^^^ dbl (a3 ^^^ a0) = ((rmul 2 a3 ^^^ rmul 3 a0) ^^^ a1) ^^^ a2
    rw [two_rmul _ p3, three_rmul _ p0, dbl_xor _ p3 _ p0]
    apply Nat.eq_of_testBit_eq
    intro i
    simp only [Nat.testBit_xor]
    exact bmix3 _ _ _ _ _ _
end Go.Proofs.Ytblnclooobggnaa.A
