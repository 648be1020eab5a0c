/-
  sha: words of 32 bits and one block, in plain Lean.
-/
import Derived.Test.YtagfplcafeblbaaProg
namespace Go.Proofs.Ytagfplcafeblbaa.H

/-- a word turned down -/
def rot (x n : Nat) : Nat := x / 2 ^ n + (x % 2 ^ n) * 2 ^ (32 - n)
def add32 (a b : Nat) : Nat := (a + b) % 4294967296
theorem add32_lt (a b : Nat) : add32 a b < 4294967296 := Nat.mod_lt _ (by decide)
theorem rot_lt {x n : Nat} (hn : n ≤ 32) (hx : x < 4294967296) : rot x n < 4294967296 := by
  unfold rot
  have e : (4294967296 : Nat) = 2 ^ n * 2 ^ (32 - n) := by
    rw [← Nat.pow_add, show n + (32 - n) = 32 from by omega]
  have h1 : x / 2 ^ n < 2 ^ (32 - n) := Nat.div_lt_of_lt_mul (by rw [← e]; exact hx)
  have h2 : x % 2 ^ n + 1 ≤ 2 ^ n := Nat.mod_lt _ (Nat.two_pow_pos n)
  have h3 := Nat.mul_le_mul_right (2 ^ (32 - n)) h2
  rw [Nat.add_mul, Nat.one_mul, ← e] at h3
  omega
def begN : List Nat := [0x6a09e667, 0xbb67ae85, 0x3c6ef372, 0xa54ff53a, 0x510e527f, 0x9b05688c, 0x1f83d9ab, 0x5be0cd19]
def kN : List Nat := [
  0x428a2f98, 0x71374491, 0xb5c0fbcf, 0xe9b5dba5, 0x3956c25b, 0x59f111f1, 0x923f82a4, 0xab1c5ed5,
  0xd807aa98, 0x12835b01, 0x243185be, 0x550c7dc3, 0x72be5d74, 0x80deb1fe, 0x9bdc06a7, 0xc19bf174,
  0xe49b69c1, 0xefbe4786, 0x0fc19dc6, 0x240ca1cc, 0x2de92c6f, 0x4a7484aa, 0x5cb0a9dc, 0x76f988da,
  0x983e5152, 0xa831c66d, 0xb00327c8, 0xbf597fc7, 0xc6e00bf3, 0xd5a79147, 0x06ca6351, 0x14292967,
  0x27b70a85, 0x2e1b2138, 0x4d2c6dfc, 0x53380d13, 0x650a7354, 0x766a0abb, 0x81c2c92e, 0x92722c85,
  0xa2bfe8a1, 0xa81a664b, 0xc24b8b70, 0xc76c51a3, 0xd192e819, 0xd6990624, 0xf40e3585, 0x106aa070,
  0x19a4c116, 0x1e376c08, 0x2748774c, 0x34b0bcb5, 0x391c0cb3, 0x4ed8aa4a, 0x5b9cca4f, 0x682e6ff3,
  0x748f82ee, 0x78a5636f, 0x84c87814, 0x8cc70208, 0x90befffa, 0xa4506ceb, 0xbef9a3f7, 0xc67178f2]
/-- four bytes -/
def wordN (b : List Nat) (i : Nat) : Nat := b.getD i 0 * 16777216 + b.getD (i + 1) 0 * 65536 + b.getD (i + 2) 0 * 256 + b.getD (i + 3) 0
def sg0 (x : Nat) : Nat := rot x 7 ^^^ rot x 18 ^^^ x / 8
def sg1 (x : Nat) : Nat := rot x 17 ^^^ rot x 19 ^^^ x / 1024
def bs0 (x : Nat) : Nat := rot x 2 ^^^ rot x 13 ^^^ rot x 22
def bs1 (x : Nat) : Nat := rot x 6 ^^^ rot x 11 ^^^ rot x 25
/-- the words ahead, sixteen of them -/
def bufS (i : Nat) (w : List Nat) : List Nat :=
  if 16 ≤ i then w.set (i % 16) (add32 (w.getD (i % 16) 0) (add32 (add32 (w.getD ((i + 9) % 16) 0) (sg0 (w.getD ((i + 1) % 16) 0))) (sg1 (w.getD ((i + 14) % 16) 0)))) else w
/-- one round, of the word x and the constant k -/
def rnd (v : List Nat) (k x : Nat) : List Nat :=
  let t := add32 (add32 (add32 (add32 (v.getD 7 0) (bs1 (v.getD 4 0))) (v.getD 6 0 ^^^ (v.getD 4 0 &&& (v.getD 5 0 ^^^ v.getD 6 0)))) k) x
  let u := add32 (bs0 (v.getD 0 0)) ((v.getD 0 0 &&& v.getD 1 0) ||| (v.getD 2 0 &&& (v.getD 0 0 ||| v.getD 1 0)))
  [add32 t u, v.getD 0 0, v.getD 1 0, v.getD 2 0, add32 (v.getD 3 0) t, v.getD 4 0, v.getD 5 0, v.getD 6 0]
def step (i : Nat) (p : List Nat × List Nat) : List Nat × List Nat :=
  let w := bufS i p.1
  (w, rnd p.2 (kN.getD i 0) (w.getD (i % 16) 0))
/-- i rounds -/
def rounds : Nat → List Nat × List Nat → List Nat × List Nat
  | 0, p => p
  | i + 1, p => step i (rounds i p)
def mixN (s b : List Nat) : List Nat := List.zipWith add32 (rounds 64 ((List.range 16).map (fun i => wordN b (4 * i)), s)).2 s
/-- whole blocks go in; what is left -/
def blocks : Nat → List Nat → List Nat → List Nat
  | 0, s, _ => s
  | n + 1, s, b => blocks n (mixN s (b.take 64)) (b.drop 64)
def padN (l : List Nat) (n : Nat) : List Nat := l ++ 128 :: (List.replicate ((119 - l.length % 64) % 64) 0 ++ (List.range 8).map (fun i => n * 8 / 256 ^ (7 - i) % 256))
def outN (v : List Nat) : List Nat := v.flatMap (fun x => [x / 16777216 % 256, x / 65536 % 256, x / 256 % 256, x % 256])
def shaN (l : List Nat) : List Nat := let p := padN l l.length; outN (blocks (p.length / 64) begN p)
theorem abc : shaN [97, 98, 99] = [0xba, 0x78, 0x16, 0xbf, 0x8f, 0x01, 0xcf, 0xea, 0x41, 0x41, 0x40, 0xde, 0x5d, 0xae, 0x22, 0x23, 0xb0, 0x03, 0x61, 0xa3, 0x96, 0x17, 0x7a, 0x9c, 0xb4, 0x10, 0xff, 0x61, 0xf2, 0x00, 0x15, 0xad] := by decide +kernel
end Go.Proofs.Ytagfplcafeblbaa.H
