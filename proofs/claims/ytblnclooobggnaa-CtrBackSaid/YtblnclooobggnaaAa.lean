/-
  aes: plain.
-/
import Derived.Test.YtblnclooobggnaaN
namespace Go.Proofs.Ytblnclooobggnaa.A

def dbl (b : Nat) : Nat := if 128 ≤ b then (2 * b % 256) ^^^ 27 else 2 * b
def rl (v n : Nat) : Nat := v * 2 ^ n % 256 + v / 2 ^ (8 - n)
def aff (v : Nat) : Nat := (((v ^^^ 99) ^^^ rl v 1) ^^^ rl v 2) ^^^ rl v 3 ^^^ rl v 4
def q1 (q : Nat) : Nat := q ^^^ (2 * q % 256)
def q2 (q : Nat) : Nat := q ^^^ (4 * q % 256)
def q4 (q : Nat) : Nat := q ^^^ (16 * q % 256)
def q9 (q : Nat) : Nat := if 128 ≤ q then q ^^^ 9 else q
def qs (q : Nat) : Nat := q9 (q4 (q2 (q1 q)))
/-- powers of three, of its inverse, the boxes so far -/
def bx : Nat → Nat × Nat × List Nat
  | 0 => (1, 1, List.replicate 256 0)
  | i + 1 => ((bx i).1 ^^^ dbl (bx i).1, qs (bx i).2.1, (bx i).2.2.set (bx i).1 (aff (bx i).2.1))
def boxT : List Nat := (bx 255).2.2.set 0 (aff 0)
theorem xor8 {a b : Nat} (ha : a < 256) (hb : b < 256) : a ^^^ b < 256 := Nat.xor_lt_two_pow (n := 8) ha hb
theorem dbl_lt {b : Nat} (h : b < 256) : dbl b < 256 := by
  unfold dbl
  split
  · exact xor8 (by omega) (by decide)
  · omega
theorem rl_lt {v n : Nat} (h : v < 256) (hn : 1 ≤ n) (hn2 : n ≤ 4) : rl v n < 256 := by
  rcases (show n = 1 ∨ n = 2 ∨ n = 3 ∨ n = 4 from by omega) with h | h | h | h <;> subst h <;> unfold rl <;> simp <;> omega
theorem aff_lt {v : Nat} (h : v < 256) : aff v < 256 := by
  unfold aff
  exact xor8 (xor8 (xor8 (xor8 (xor8 h (by decide)) (rl_lt h (by decide) (by decide))) (rl_lt h (by decide) (by decide))) (rl_lt h (by decide) (by decide))) (rl_lt h (by decide) (by decide))
theorem q1_lt {q : Nat} (h : q < 256) : q1 q < 256 := xor8 h (Nat.mod_lt _ (by decide))
theorem q2_lt {q : Nat} (h : q < 256) : q2 q < 256 := xor8 h (Nat.mod_lt _ (by decide))
theorem q4_lt {q : Nat} (h : q < 256) : q4 q < 256 := xor8 h (Nat.mod_lt _ (by decide))
theorem q9_lt {q : Nat} (h : q < 256) : q9 q < 256 := by
  unfold q9
  split
  · exact xor8 h (by decide)
  · exact h
theorem qs_lt {q : Nat} (h : q < 256) : qs q < 256 := q9_lt (q4_lt (q2_lt (q1_lt h)))
theorem bx_lt : ∀ i, (bx i).1 < 256 ∧ (bx i).2.1 < 256 ∧ (bx i).2.2.length = 256 ∧ ∀ x ∈ (bx i).2.2, x < 256
  | 0 => by
    rw [bx]
    exact ⟨by decide, by decide, List.length_replicate, fun x hx => by rw [List.eq_of_mem_replicate hx]; decide⟩
  | i + 1 => by
    obtain ⟨h1, h2, h3, h4⟩ := bx_lt i
    rw [bx]
    exact ⟨xor8 h1 (dbl_lt h1), qs_lt h2, by rw [List.length_set]; exact h3, N.set_lt h4 (aff_lt h2)⟩
theorem boxT_len : boxT.length = 256 := by unfold boxT; rw [List.length_set]; exact (bx_lt 255).2.2.1
theorem boxT_lt : ∀ x ∈ boxT, x < 256 := N.set_lt (bx_lt 255).2.2.2 (aff_lt (by decide))
/-! the document's -/
def mul2 (a : Nat) : Nat := if 255 < 2 * a then (2 * a) ^^^ 283 else 2 * a
def mulF : Nat → Nat → Nat → Nat → Nat
  | 0, _, _, p => p
  | k + 1, a, b, p => mulF k (mul2 a) (b / 2) (if b % 2 = 1 then p ^^^ a else p)
def rmul (a b : Nat) : Nat := mulF 8 a b 0
def invF (x : Nat) : Nat → Nat → Nat   -- up to i (from 1): the last that is an inverse
  | 0, v => v
  | i + 1, v => let w := invF x i v; if rmul x (i + 1) = 1 then i + 1 else w
def outF : Nat → Nat → Nat → Nat
  | 0, _, o => o
  | k + 1, v, o => outF k (2 * v % 256 + v / 128) (o ^^^ (2 * v % 256 + v / 128))
def rbox (x : Nat) : Nat := let v := if x = 0 then 0 else invF x 255 0; outF 4 v (v ^^^ 99)
theorem rbox_all : (List.range 256).map rbox = boxT := by decide +kernel
end Go.Proofs.Ytblnclooobggnaa.A
