/-
  bitmap: how many bits of a number are set: plain laws.
-/
import Derived.Test.YtigbmbmngkmdlaaBm
namespace Go.Proofs.Ytigbmbmngkmdlaa.Bm
open Go.RowKit Go.Proofs.Ytigbmbmngkmdlaa.L Go.Proofs.Ytigbmbmngkmdlaa.Bt

/-- how many of the first k bits are set -/
def pcB : Nat → Nat → Nat
  | 0, _ => 0
  | k + 1, x => x % 2 + pcB k (x / 2)
theorem pcB_le : ∀ k x, pcB k x ≤ k
  | 0, _ => Nat.le_refl _
  | k + 1, x => by have := pcB_le k (x / 2); simp only [pcB]; omega
theorem pcB_zero : ∀ k, pcB k 0 = 0
  | 0 => rfl
  | k + 1 => by simp [pcB, pcB_zero k]
theorem pcB_add : ∀ j k x, pcB (j + k) x = pcB j (x % 2 ^ j) + pcB k (x / 2 ^ j)
  | 0, k, x => by simp [pcB]
  | j + 1, k, x => by
    rw [show j + 1 + k = (j + k) + 1 from by omega]
    simp only [pcB]
    rw [pcB_add j k (x / 2), Nat.div_div_eq_div_mul, ← Nat.pow_succ', Nat.pow_succ]
    have h1 : x % (2 ^ j * 2) % 2 = x % 2 := Nat.mod_mod_of_dvd _ (Nat.dvd_mul_left _ _)
    have h2 : x % (2 ^ j * 2) / 2 = x / 2 % 2 ^ j := by rw [Nat.mul_comm, Nat.mod_mul_right_div_self]
    rw [h1, h2]
    omega
theorem pcB_lt : ∀ {k x : Nat}, x < 2 ^ k → ∀ j, pcB (k + j) x = pcB k x := fun {k x} h j => by
  rw [pcB_add, Nat.div_eq_of_lt h, pcB_zero, Nat.mod_eq_of_lt h, Nat.add_zero]
theorem pcB_or : ∀ k x y, pcB k x ≤ pcB k (x ||| y) ∧ pcB k (x ||| y) ≤ pcB k x + pcB k y
  | 0, _, _ => by simp [pcB]
  | k + 1, x, y => by
    have h := pcB_or k (x / 2) (y / 2)
    rw [← Nat.or_div_two] at h
    have h2 : (x ||| y) % 2 = x % 2 ||| y % 2 := by rw [Nat.or_mod_two_pow (n := 1)]
    simp only [pcB]
    rw [h2]
    rcases Nat.mod_two_eq_zero_or_one x with hx | hx <;> rcases Nat.mod_two_eq_zero_or_one y with hy | hy <;> rw [hx, hy] <;> simp <;> omega
theorem bitsL_cons (x k : Nat) : bitsL x (k + 1) = decide (x % 2 = 1) :: bitsL (x / 2) k := by
  unfold bitsL
  rw [List.range_succ_eq_map, List.map_cons, List.map_map]
  congr 1
  · simp [Nat.testBit_zero]
  · apply List.map_congr_left
    intro i _
    simp [Nat.testBit_succ]
theorem bitsL_count : ∀ k x, (bitsL x k).count true = pcB k x
  | 0, _ => by simp [bitsL, pcB]
  | k + 1, x => by
    rw [bitsL_cons, List.count_cons, bitsL_count k]
    simp only [pcB]
    rcases Nat.mod_two_eq_zero_or_one x with hx | hx <;> rw [hx] <;> simp <;> omega

theorem and_join (a m A M : Nat) (ha : a < 256) (hm : m < 256) : (a + 256 * A) &&& (m + 256 * M) = (a &&& m) + 256 * (A &&& M) := by
  have key : ∀ (b B : Nat), b < 256 → ∀ i, (b + 256 * B).testBit i = if i < 8 then b.testBit i else B.testBit (i - 8) := fun b B hb i => by
    rw [Nat.add_comm, show 256 = 2 ^ 8 from rfl, Nat.testBit_two_pow_mul_add _ (by simpa using hb)]
  have hlt : a &&& m < 256 := Nat.lt_of_le_of_lt Nat.and_le_left ha
  apply Nat.eq_of_testBit_eq
  intro i
  rw [Nat.testBit_and, key _ _ ha, key _ _ hm, key _ _ hlt]
  split <;> simp [Nat.testBit_and]
/-- a byte, so many times -/
def rep (m : Nat) : Nat → Nat
  | 0 => 0
  | n + 1 => m + 256 * rep m n
def s1 (n x : Nat) : Nat := (x / 2 &&& rep 85 n) + (x &&& rep 85 n)
def s2 (n x : Nat) : Nat := (x / 4 &&& rep 51 n) + (x &&& rep 51 n)
def s3 (n x : Nat) : Nat := (x + x / 16) &&& rep 15 n
theorem s1_step (n a A : Nat) (ha : a < 256) : s1 (n + 1) (a + 256 * A) = ((a / 2 &&& 85) + (a &&& 85)) + 256 * s1 n A := by
  have h : (a + 256 * A) / 2 = (a / 2 + 128 * (A % 2)) + 256 * (A / 2) := by omega
  have h2 : ∀ a, a < 256 → ∀ r, r < 2 → (a / 2 + 128 * r) &&& 85 = a / 2 &&& 85 := by decide +kernel
  simp only [s1, rep]
  rw [h, and_join _ _ _ _ (by omega) (by decide), and_join _ _ _ _ ha (by decide), h2 a ha _ (Nat.mod_lt _ (by decide))]
  omega
theorem s2_step (n a A : Nat) (ha : a < 256) : s2 (n + 1) (a + 256 * A) = ((a / 4 &&& 51) + (a &&& 51)) + 256 * s2 n A := by
  have h : (a + 256 * A) / 4 = (a / 4 + 64 * (A % 4)) + 256 * (A / 4) := by omega
  have h2 : ∀ a, a < 256 → ∀ r, r < 4 → (a / 4 + 64 * r) &&& 51 = a / 4 &&& 51 := by decide +kernel
  simp only [s2, rep]
  rw [h, and_join _ _ _ _ (by omega) (by decide), and_join _ _ _ _ ha (by decide), h2 a ha _ (Nat.mod_lt _ (by decide))]
  omega
/-- each byte is a pair of numbers not above 4 -/
def fine : Nat → Nat → Prop
  | 0, x => x = 0
  | n + 1, x => x % 256 % 16 ≤ 4 ∧ x % 256 / 16 ≤ 4 ∧ fine n (x / 256)
theorem s3_step (n a A : Nat) (h1 : a % 16 ≤ 4) (h2 : a / 16 ≤ 4) (h3 : A % 16 ≤ 4) : s3 (n + 1) (a + 256 * A) = (a + a / 16) % 16 + 256 * s3 n A := by
  have h : (a + 256 * A) + (a + 256 * A) / 16 = (a + a / 16 + 16 * (A % 16)) + 256 * (A + A / 16) := by omega
  simp only [s3, rep]
  rw [h, and_join _ _ _ _ (by omega) (by decide)]
  have h3 : ∀ y, y &&& 15 = y % 16 := fun y => Nat.and_two_pow_sub_one_eq_mod y 4
  rw [h3]
  omega
/-- the sum of the bytes' counts, byte by byte -/
def tab : Nat → Nat → Nat
  | 0, _ => 0
  | n + 1, x => pcB 8 (x % 256) + 256 * tab n (x / 256)
theorem byte_tab : ∀ a, a < 256 → (let b := (a / 2 &&& 85) + (a &&& 85); let c := (b / 4 &&& 51) + (b &&& 51); b < 256 ∧ c < 256 ∧ c % 16 ≤ 4 ∧ c / 16 ≤ 4 ∧ (c + c / 16) % 16 = pcB 8 a) := by decide +kernel
theorem stages : ∀ n x, x < 256 ^ n → s3 n (s2 n (s1 n x)) = tab n x ∧ s2 n (s1 n x) % 16 ≤ 4
  | 0, x, h => by
    have : x = 0 := by simpa using h
    subst this
    simp [s1, s2, s3, rep, tab]
  | n + 1, x, h => by
    have hx : x = x % 256 + 256 * (x / 256) := by omega
    obtain ⟨ih, ih2⟩ := stages n (x / 256) (by rw [Nat.pow_succ] at h; omega)
    obtain ⟨hb, hc, h1, h2, h3⟩ := byte_tab (x % 256) (Nat.mod_lt _ (by decide))
    have e : s2 (n + 1) (s1 (n + 1) x) = (((x % 256 / 2 &&& 85) + (x % 256 &&& 85)) / 4 &&& 51) + (((x % 256 / 2 &&& 85) + (x % 256 &&& 85)) &&& 51) + 256 * s2 n (s1 n (x / 256)) := by
      conv => lhs; rw [hx]
      rw [s1_step _ _ _ (Nat.mod_lt _ (by decide)), s2_step _ _ _ hb]
    rw [e]
    generalize (((x % 256 / 2 &&& 85) + (x % 256 &&& 85)) / 4 &&& 51) + (((x % 256 / 2 &&& 85) + (x % 256 &&& 85)) &&& 51) = cc at hc h1 h2 h3
    refine ⟨?_, by clear hx e hb h ih ih2 h3; omega⟩
    show _ = pcB 8 (x % 256) + 256 * tab n (x / 256)
    rw [← ih, s3_step _ _ _ h1 h2 ih2, h3]
theorem tab_sum (x : Nat) : ∃ c0 c1 c2 c3 c4 c5 c6 c7 : Nat, c0 ≤ 8 ∧ c1 ≤ 8 ∧ c2 ≤ 8 ∧ c3 ≤ 8 ∧ c4 ≤ 8 ∧ c5 ≤ 8 ∧ c6 ≤ 8 ∧ c7 ≤ 8 ∧
    tab 8 x = c0 + 256 * (c1 + 256 * (c2 + 256 * (c3 + 256 * (c4 + 256 * (c5 + 256 * (c6 + 256 * c7)))))) ∧ pcB 64 x = c0 + (c1 + (c2 + (c3 + (c4 + (c5 + (c6 + c7)))))) := by
  have e : ∀ k y, pcB (8 + k) y = pcB 8 (y % 256) + pcB k (y / 256) := fun k y => pcB_add 8 k y
  have d : ∀ k y, tab (k + 1) y = pcB 8 (y % 256) + 256 * tab k (y / 256) := fun _ _ => rfl
  have z : ∀ y, tab 0 y = 0 := fun _ => rfl
  have u : ∀ y, pcB 0 y = 0 := fun _ => rfl
  have h8 : ∀ y, pcB 8 y ≤ 8 := pcB_le 8
  generalize hq : pcB 8 = q at e d h8
  have hp : pcB 64 x = pcB (8 + (8 + (8 + (8 + (8 + (8 + (8 + (8 + 0)))))))) x := rfl
  refine ⟨q (x % 256), q (x / 256 % 256), q (x / 256 / 256 % 256), q (x / 256 / 256 / 256 % 256), q (x / 256 / 256 / 256 / 256 % 256), q (x / 256 / 256 / 256 / 256 / 256 % 256), q (x / 256 / 256 / 256 / 256 / 256 / 256 % 256), q (x / 256 / 256 / 256 / 256 / 256 / 256 / 256 % 256), h8 _, h8 _, h8 _, h8 _, h8 _, h8 _, h8 _, h8 _, ?_, ?_⟩
  · rw [d, d, d, d, d, d, d, d, z, Nat.mul_zero, Nat.add_zero]
  · rw [hp, e, e, e, e, e, e, e, e, u, Nat.add_zero]
theorem dv8 (c r : Nat) (h : c < 256) : (c + 256 * r) / 256 = r := by omega
theorem dv16 (c d r : Nat) (h : c < 256) (h' : d < 256) : (c + 256 * (d + 256 * r)) / 65536 = r := by omega
theorem dv32 (c d e f r : Nat) (h : c < 256) (h' : d < 256) (h2 : e < 256) (h3 : f < 256) : (c + 256 * (d + 256 * (e + 256 * (f + 256 * r)))) / 4294967296 = r := by omega
theorem fold_sum (c0 c1 c2 c3 c4 c5 c6 c7 : Nat) (h0 : c0 ≤ 8) (h1 : c1 ≤ 8) (h2 : c2 ≤ 8) (h3 : c3 ≤ 8) (h4 : c4 ≤ 8) (h5 : c5 ≤ 8) (h6 : c6 ≤ 8) (h7 : c7 ≤ 8) (y y1 y2 y3 : Nat)
    (e0 : y = c0 + 256 * (c1 + 256 * (c2 + 256 * (c3 + 256 * (c4 + 256 * (c5 + 256 * (c6 + 256 * c7))))))) (e1 : y1 = y + y / 256) (e2 : y2 = y1 + y1 / 65536) (e3 : y3 = y2 + y2 / 4294967296) :
    y3 < 9223372036854775808 ∧ y1 < 9223372036854775808 ∧ y2 < 9223372036854775808 ∧ y3 % 128 = c0 + (c1 + (c2 + (c3 + (c4 + (c5 + (c6 + c7)))))) := by
  rw [e0, dv8 _ _ (by omega)] at e1
  have f1 : y1 = (c0 + c1) + 256 * ((c1 + c2) + 256 * ((c2 + c3) + 256 * ((c3 + c4) + 256 * ((c4 + c5) + 256 * ((c5 + c6) + 256 * ((c6 + c7) + 256 * c7)))))) := by omega
  clear e1 e0
  rw [f1, dv16 _ _ _ (by omega) (by omega)] at e2
  have f2 : y2 = (c0 + c1 + c2 + c3) + 256 * ((c1 + c2 + c3 + c4) + 256 * ((c2 + c3 + c4 + c5) + 256 * ((c3 + c4 + c5 + c6) + 256 * ((c4 + c5 + c6 + c7) + 256 * ((c5 + c6 + c7) + 256 * ((c6 + c7) + 256 * c7)))))) := by omega
  clear e2
  rw [f2, dv32 _ _ _ _ _ (by omega) (by omega) (by omega) (by omega)] at e3
  have f3 : y3 = (c0 + c1 + c2 + c3 + c4 + c5 + c6 + c7) + 256 * ((c1 + c2 + c3 + c4 + c5 + c6 + c7) + 256 * ((c2 + c3 + c4 + c5 + c6 + c7) + 256 * ((c3 + c4 + c5 + c6 + c7) + 256 * ((c4 + c5 + c6 + c7) + 256 * ((c5 + c6 + c7) + 256 * ((c6 + c7) + 256 * c7)))))) := by omega
  clear e3
  refine ⟨?_, ?_, ?_, ?_⟩
  · clear f1 f2; omega
  · clear f2 f3; omega
  · clear f1 f3; omega
  · clear f1 f2; omega
end Go.Proofs.Ytigbmbmngkmdlaa.Bm
