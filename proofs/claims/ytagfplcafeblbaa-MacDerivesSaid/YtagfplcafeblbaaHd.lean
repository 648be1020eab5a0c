/-
  sha: blocks go in piece by piece; padding; in plain Lean.
-/
import Derived.Test.YtagfplcafeblbaaHa
namespace Go.Proofs.Ytagfplcafeblbaa.H

theorem blocks_add : ∀ (m n : Nat) (s l : List Nat), blocks (m + n) s l = blocks n (blocks m s l) (l.drop (64 * m))
  | 0, n, s, l => by simp [blocks]
  | m + 1, n, s, l => by
    rw [show m + 1 + n = (m + n) + 1 from by omega]
    show blocks (m + n) (mixN s (l.take 64)) (l.drop 64) = blocks n (blocks m (mixN s (l.take 64)) (l.drop 64)) _
    rw [blocks_add m n, List.drop_drop, show 64 + 64 * m = 64 * (m + 1) from by omega]
theorem blocks_app : ∀ (n : Nat) (s l m : List Nat), 64 * n ≤ l.length → blocks n s (l ++ m) = blocks n s l
  | 0, _, _, _, _ => rfl
  | n + 1, s, l, m, h => by
    show blocks n (mixN s ((l ++ m).take 64)) ((l ++ m).drop 64) = blocks n (mixN s (l.take 64)) (l.drop 64)
    rw [List.take_append_of_le_length (by omega), List.drop_append_of_le_length (by omega), blocks_app n _ _ _ (by simp; omega)]
/-- the state behind all whole blocks -/
def stN (s l : List Nat) : List Nat := blocks (l.length / 64) s l
/-- what is left -/
def lfN (l : List Nat) : List Nat := l.drop (64 * (l.length / 64))
theorem lfN_length (l : List Nat) : (lfN l).length = l.length % 64 := by
  unfold lfN
  rw [List.length_drop]
  omega
theorem split_len (l b : List Nat) : (l ++ b).length / 64 = l.length / 64 + (lfN l ++ b).length / 64 := by
  rw [List.length_append, List.length_append, lfN_length]
  omega
theorem drop_app (l b : List Nat) : (l ++ b).drop (64 * (l.length / 64)) = lfN l ++ b := by
  unfold lfN
  rw [List.drop_append_of_le_length (by omega)]
theorem stN_app (s l b : List Nat) : stN s (l ++ b) = stN (stN s l) (lfN l ++ b) := by
  unfold stN
  rw [split_len, blocks_add, drop_app, blocks_app (l.length / 64) s l b (by omega)]
theorem lfN_app (l b : List Nat) : lfN (l ++ b) = lfN (lfN l ++ b) := by
  conv => lhs; unfold lfN
  rw [split_len, Nat.mul_add, ← List.drop_drop, drop_app]
  rfl
theorem stN_small {s l : List Nat} (h : l.length < 64) : stN s l = s := by
  unfold stN
  rw [Nat.div_eq_of_lt h]
  rfl
theorem lfN_small {l : List Nat} (h : l.length < 64) : lfN l = l := by
  unfold lfN
  rw [Nat.div_eq_of_lt h]
  rfl
theorem stN_step {s l : List Nat} (h : 64 ≤ l.length) : stN s l = stN (mixN s (l.take 64)) (l.drop 64) := by
  unfold stN
  rw [show l.length / 64 = (l.drop 64).length / 64 + 1 from by rw [List.length_drop]; omega]
  rfl
theorem lfN_step {l : List Nat} (h : 64 ≤ l.length) : lfN l = lfN (l.drop 64) := by
  unfold lfN
  rw [List.drop_drop, show l.length / 64 = (l.drop 64).length / 64 + 1 from by rw [List.length_drop]; omega, show 64 * ((l.drop 64).length / 64 + 1) = 64 + 64 * ((l.drop 64).length / 64) from by omega]
/-- what is put behind a text of r bytes (of whole blocks more), n in all -/
def endN (r n : Nat) : List Nat := 128 :: (List.replicate ((119 - r % 64) % 64) 0 ++ (List.range 8).map (fun i => n * 8 / 256 ^ (7 - i) % 256))
theorem padN_eq (l : List Nat) (n : Nat) : padN l n = l ++ endN l.length n := rfl
theorem endN_mod (r n : Nat) : endN (r % 64) n = endN r n := by
  unfold endN
  rw [Nat.mod_mod]
theorem endN_length (r n : Nat) : (r + (endN r n).length) % 64 = 0 := by
  unfold endN
  simp only [List.length_cons, List.length_append, List.length_replicate, List.length_map, List.length_range]
  omega
theorem endN_lt (r n : Nat) : ∀ x ∈ endN r n, x < 256 := by
  intro x hx
  unfold endN at hx
  simp only [List.mem_cons, List.mem_append, List.mem_replicate, List.mem_map, List.mem_range] at hx
  rcases hx with rfl | ⟨_, rfl⟩ | ⟨i, _, rfl⟩
  · decide
  · decide
  · exact Nat.mod_lt _ (by decide)
/-- the sum, of the state and of what is left -/
theorem sha_left (l : List Nat) : outN (stN (stN begN l) (padN (lfN l) l.length)) = shaN l := by
  unfold shaN
  simp only
  rw [show blocks ((padN l l.length).length / 64) begN (padN l l.length) = stN begN (padN l l.length) from rfl]
  rw [padN_eq l, stN_app, padN_eq, lfN_length, endN_mod]
theorem mixN_length {s b : List Nat} (h : s.length = 8) : (mixN s b).length = 8 := by
  have key : ∀ (i : Nat) (p : List Nat × List Nat), p.2.length = 8 → (rounds i p).2.length = 8 := by
    intro i p hp
    cases i with
    | zero => exact hp
    | succ i => rfl
  unfold mixN
  rw [List.length_zipWith, key 64 _ h, h]
  rfl
theorem mixN_lt {s b : List Nat} : ∀ x ∈ mixN s b, x < 4294967296 := by
  intro x hx
  unfold mixN at hx
  rw [List.mem_iff_getElem] at hx
  obtain ⟨i, hi, rfl⟩ := hx
  rw [List.getElem_zipWith]
  exact add32_lt _ _
theorem blocks_length : ∀ (n : Nat) {s : List Nat} (l : List Nat), s.length = 8 → (blocks n s l).length = 8
  | 0, _, _, h => h
  | n + 1, _, l, h => blocks_length n (l.drop 64) (mixN_length h)
theorem blocks_lt : ∀ (n : Nat) {s : List Nat} (l : List Nat), (∀ x ∈ s, x < 4294967296) → ∀ x ∈ blocks n s l, x < 4294967296
  | 0, _, _, h => h
  | n + 1, _, l, _ => blocks_lt n (l.drop 64) mixN_lt
theorem begN_length : begN.length = 8 := rfl
theorem begN_lt : ∀ x ∈ begN, x < 4294967296 := by decide
theorem stN_length {s : List Nat} (l : List Nat) (h : s.length = 8) : (stN s l).length = 8 := blocks_length _ l h
theorem stN_lt {s : List Nat} (l : List Nat) (h : ∀ x ∈ s, x < 4294967296) : ∀ x ∈ stN s l, x < 4294967296 := blocks_lt _ l h
theorem outN_length {v : List Nat} (h : v.length = 8) : (outN v).length = 32 := by
  have : ∀ (v : List Nat), (outN v).length = 4 * v.length := by
    intro v
    induction v with
    | nil => rfl
    | cons x v ih => rw [show outN (x :: v) = [x / 16777216 % 256, x / 65536 % 256, x / 256 % 256, x % 256] ++ outN v from rfl, List.length_append, ih]; simp; omega
  rw [this, h]
theorem shaN_length (l : List Nat) : (shaN l).length = 32 := outN_length (blocks_length _ _ rfl)
theorem outN_lt (v : List Nat) : ∀ x ∈ outN v, x < 256 := by
  intro x hx
  unfold outN at hx
  rw [List.mem_flatMap] at hx
  obtain ⟨y, _, h⟩ := hx
  simp only [List.mem_cons, List.not_mem_nil, or_false] at h
  rcases h with h | h | h | h <;> subst h <;> exact Nat.mod_lt _ (by decide)
theorem shaN_lt (l : List Nat) : ∀ x ∈ shaN l, x < 256 := outN_lt _
theorem outN_get {v : List Nat} {i k : Nat} (hi : i < v.length) (hk : k < 4) : (outN v).getD (4 * i + k) 0 = v.getD i 0 / 2 ^ (24 - 8 * k) % 256 := by
  induction v generalizing i with
  | nil => simp at hi
  | cons x v ih =>
    rw [show outN (x :: v) = [x / 16777216 % 256, x / 65536 % 256, x / 256 % 256, x % 256] ++ outN v from rfl]
    cases i with
    | zero =>
      rw [List.getD_eq_getElem?_getD, List.getElem?_append_left (by simp; omega)]
      have : k = 0 ∨ k = 1 ∨ k = 2 ∨ k = 3 := by omega
      rcases this with rfl | rfl | rfl | rfl <;> simp
    | succ i =>
      rw [List.getD_eq_getElem?_getD, List.getElem?_append_right (by simp; omega)]
      simp only [List.length_cons, List.length_nil]
      rw [show 4 * (i + 1) + k - (0 + 1 + 1 + 1 + 1) = 4 * i + k from by omega, ← List.getD_eq_getElem?_getD, ih (by simpa using hi)]
      rfl
end Go.Proofs.Ytagfplcafeblbaa.H
