/-
  sha: the document's roots and primes, in plain Lean: digits below 4096, their product, what is compared, and the constants that come of them.
-/
import Derived.Test.YtagfplcafeblbaaHe
namespace Go.Proofs.Ytagfplcafeblbaa.H

def val : List Nat → Nat
  | [] => 0
  | x :: l => x + 4096 * val l
def digs : Nat → Nat → List Nat
  | 0, _ => []
  | n + 1, v => v % 4096 :: digs n (v / 4096)
theorem digs_length : ∀ (n v : Nat), (digs n v).length = n
  | 0, _ => rfl
  | n + 1, v => by rw [digs, List.length_cons, digs_length n]
theorem digs_lt : ∀ (n v : Nat), ∀ x ∈ digs n v, x < 4096
  | 0, _, x, h => by cases h
  | n + 1, v, x, h => by
    rw [digs, List.mem_cons] at h
    rcases h with rfl | h
    · omega
    · exact digs_lt n _ x h
theorem digs_get : ∀ (n v i : Nat), i < n → (digs n v).getD i 0 = v / 4096 ^ i % 4096
  | 0, _, _, h => by omega
  | n + 1, v, 0, _ => by simp [digs]
  | n + 1, v, i + 1, h => by
    rw [digs, List.getD_cons_succ, digs_get n _ i (by omega), Nat.div_div_eq_div_mul, Nat.pow_succ, Nat.mul_comm 4096]
theorem digs_snoc : ∀ (n v : Nat), digs (n + 1) v = digs n v ++ [v / 4096 ^ n % 4096]
  | 0, v => by simp [digs]
  | n + 1, v => by
    rw [digs, digs_snoc n (v / 4096), digs, List.cons_append, Nat.div_div_eq_div_mul, Nat.pow_succ, Nat.mul_comm 4096]
theorem val_digs : ∀ (n v : Nat), v < 4096 ^ n → val (digs n v) = v
  | 0, v, h => by simp at h; subst h; rfl
  | n + 1, v, h => by
    rw [digs, val, val_digs n (v / 4096) (by rw [Nat.pow_succ] at h; exact Nat.div_lt_of_lt_mul (by rw [Nat.mul_comm]; exact h))]
    omega
theorem digs_zero {n v : Nat} (h : v < 4096 ^ n) : digs (n + 1) v = digs n v ++ [0] := by
  rw [digs_snoc, Nat.div_eq_of_lt h]
theorem val_lt : ∀ (l : List Nat), (∀ x ∈ l, x < 4096) → val l < 4096 ^ l.length
  | [], _ => by simp [val]
  | x :: l, h => by
    have h1 := h x (by simp)
    have h2 := val_lt l fun y hy => h y (by simp [hy])
    rw [val, List.length_cons, Nat.pow_succ]
    omega
theorem val_drop (l : List Nat) (i : Nat) (h : i < l.length) : val (l.drop i) = l.getD i 0 + 4096 * val (l.drop (i + 1)) := by
  rw [List.drop_eq_getElem_cons h, val]
  simp [List.getD_eq_getElem?_getD, List.getElem?_eq_getElem h]
theorem val_set : ∀ (l : List Nat) (j d : Nat), j < l.length → val (l.set j (l.getD j 0 + d)) = val l + d * 4096 ^ j
  | [], _, _, h => by simp at h
  | x :: l, 0, d, _ => by simp [val]; omega
  | x :: l, j + 1, d, h => by
    simp only [List.set_cons_succ, List.getD_cons_succ, val]
    rw [val_set l j d (by simpa using h), Nat.pow_succ, Nat.mul_add]
    have : 4096 * (d * 4096 ^ j) = d * (4096 ^ j * 4096) := by ac_rfl
    omega
theorem val_take (l : List Nat) (i : Nat) (h : i < l.length) : val (l.take (i + 1)) = val (l.take i) + l.getD i 0 * 4096 ^ i := by
  induction l generalizing i with
  | nil => simp at h
  | cons x l ih =>
    cases i with
    | zero => simp [val]
    | succ i =>
      simp only [List.take_succ_cons, val, List.getD_cons_succ]
      rw [ih i (by simpa using h), Nat.pow_succ, Nat.mul_add]
      have : 4096 * (l.getD i 0 * 4096 ^ i) = l.getD i 0 * (4096 ^ i * 4096) := by ac_rfl
      omega
theorem val_zero (n : Nat) : val (List.replicate n 0) = 0 := by
  induction n with
  | zero => rfl
  | succ n ih => rw [List.replicate_succ, val, ih]

/-- what is carried: the head of a round -/
structure Car (l : List Nat) (i c : Nat) : Prop where
  eq : c + val (l.drop i) = val l / 4096 ^ i
  lt : c < 2 ^ 51
theorem Car.start (l : List Nat) : Car l 0 0 := ⟨by simp, by decide⟩
theorem Car.digit {l : List Nat} {i c : Nat} (h : Car l i c) (hi : i < l.length) : (c + l.getD i 0) % 4096 = val l / 4096 ^ i % 4096 := by
  have := h.eq
  rw [val_drop l i hi] at this
  omega
theorem Car.step {l : List Nat} {i c : Nat} (h : Car l i c) (hi : i < l.length) (hb : l.getD i 0 < 2 ^ 50) : Car l (i + 1) ((c + l.getD i 0) / 4096) := by
  have h1 := h.eq
  have h2 := h.lt
  rw [val_drop l i hi] at h1
  refine ⟨?_, by omega⟩
  rw [Nat.pow_succ, ← Nat.div_div_eq_div_mul, ← h1]
  omega
theorem Car.stop {l : List Nat} {c : Nat} (h : Car l l.length c) (hv : val l < 4096 ^ l.length) : c = 0 := by
  have h1 := h.eq
  rw [Nat.div_eq_of_lt hv] at h1
  omega

/-- what a product's rows are at a round -/
structure Mul (a b : List Nat) (i k : Nat) (o : List Nat) : Prop where
  len : o.length = a.length + b.length
  eq : val o = val (a.take i) * val b + a.getD i 0 * 4096 ^ i * val (b.take k)
  lt : ∀ j, o.getD j 0 ≤ 16777216 * (i * b.length + k)
theorem Mul.start (a b : List Nat) : Mul a b 0 0 (List.replicate (a.length + b.length) 0) :=
  ⟨by simp, by simp [val_zero, val], fun j => by
    rw [List.getD_eq_getElem?_getD, List.getElem?_replicate]
    split <;> simp⟩
theorem getD_set' (l : List Nat) (i j x : Nat) : (l.set i x).getD j 0 = if i = j ∧ i < l.length then x else l.getD j 0 := by
  simp only [List.getD_eq_getElem?_getD, List.getElem?_set]
  by_cases h : i = j
  · subst h
    by_cases h2 : i < l.length <;> simp [h2]
  · simp [h]
theorem Mul.step {a b : List Nat} {i k : Nat} {o : List Nat} (h : Mul a b i k o) (ha : ∀ x ∈ a, x < 4096) (hb : ∀ x ∈ b, x < 4096) (hi : i < a.length) (hk : k < b.length) :
    Mul a b i (k + 1) (o.set (i + k) (o.getD (i + k) 0 + a.getD i 0 * b.getD k 0)) := by
  have gx : ∀ (l : List Nat) (n : Nat), n < l.length → (∀ x ∈ l, x < 4096) → l.getD n 0 < 4096 := fun l n hn hl => by
    rw [List.getD_eq_getElem?_getD, List.getElem?_eq_getElem hn]
    exact hl _ (List.getElem_mem hn)
  have h1 := gx a i hi ha
  have h2 := gx b k hk hb
  have h3 : a.getD i 0 * b.getD k 0 ≤ 16769025 := Nat.mul_le_mul (show _ ≤ 4095 by omega) (show _ ≤ 4095 by omega)
  refine ⟨by rw [List.length_set, h.len], ?_, fun j => ?_⟩
  · rw [val_set _ _ _ (by rw [h.len]; omega), h.eq, val_take b k hk, Nat.mul_add, Nat.pow_add]
    have : a.getD i 0 * b.getD k 0 * (4096 ^ i * 4096 ^ k) = a.getD i 0 * 4096 ^ i * (b.getD k 0 * 4096 ^ k) := by ac_rfl
    omega
  · rw [getD_set']
    have h4 := h.lt j
    have h5 := h.lt (i + k)
    have e : 16777216 * (i * b.length + (k + 1)) = 16777216 * (i * b.length + k) + 16777216 := by rw [← Nat.add_assoc, Nat.mul_succ]
    rw [e]
    obtain ⟨M, hM⟩ : ∃ M, 16777216 * (i * b.length + k) = M := ⟨_, rfl⟩
    obtain ⟨N, hN⟩ : ∃ N, a.getD i 0 * b.getD k 0 = N := ⟨_, rfl⟩
    rw [hM] at h4 h5 ⊢
    rw [hN] at h3 ⊢
    clear hM hN e
    split <;> omega
theorem Mul.next {a b : List Nat} {i : Nat} {o : List Nat} (h : Mul a b i b.length o) (hi : i < a.length) : Mul a b (i + 1) 0 o :=
  ⟨h.len, by rw [h.eq, List.take_length, val_take a i hi, Nat.add_mul]; simp [val], fun j => by have := h.lt j; rw [show (i + 1) * b.length + 0 = i * b.length + b.length from by rw [Nat.add_zero, Nat.succ_mul]]; exact this⟩
theorem Mul.all {a b : List Nat} {o : List Nat} (h : Mul a b a.length 0 o) : val o = val a * val b := by
  rw [h.eq, List.take_length]; simp [val]

/-- what is compared from above -/
structure Cmp (N a b i : Nat) : Prop where
  eq : a / 4096 ^ i = b / 4096 ^ i
theorem Cmp.start {N a b : Nat} (ha : a < 4096 ^ N) (hb : b < 4096 ^ N) : Cmp N a b N := ⟨by rw [Nat.div_eq_of_lt ha, Nat.div_eq_of_lt hb]⟩
theorem Cmp.same {N a b i : Nat} (h : Cmp N a b (i + 1)) (hd : a / 4096 ^ i % 4096 = b / 4096 ^ i % 4096) : Cmp N a b i := by
  have h1 := h.eq
  rw [Nat.pow_succ, ← Nat.div_div_eq_div_mul, ← Nat.div_div_eq_div_mul] at h1
  exact ⟨by omega⟩
theorem Cmp.less {N a b i : Nat} (h : Cmp N a b (i + 1)) (hd : a / 4096 ^ i % 4096 ≠ b / 4096 ^ i % 4096) : decide (a / 4096 ^ i % 4096 < b / 4096 ^ i % 4096) = decide (a ≤ b) := by
  have h1 := h.eq
  rw [Nat.pow_succ, ← Nat.div_div_eq_div_mul, ← Nat.div_div_eq_div_mul] at h1
  by_cases hl : a / 4096 ^ i % 4096 < b / 4096 ^ i % 4096
  · have h2 : a / 4096 ^ i < b / 4096 ^ i := by omega
    have h3 : a < b := Nat.lt_of_div_lt_div h2
    rw [decide_eq_true hl, decide_eq_true (by omega)]
  · have h2 : b / 4096 ^ i < a / 4096 ^ i := by omega
    have h3 : b < a := Nat.lt_of_div_lt_div h2
    rw [decide_eq_false hl, decide_eq_false (by omega)]
theorem Cmp.stop {N a b : Nat} (h : Cmp N a b 0) : decide (a ≤ b) = true := by
  have := h.eq
  simp at this
  exact decide_eq_true (by omega)

def undN (three : Bool) (p x : Nat) : Bool := if three then decide (x * x * x ≤ p * 2 ^ 96) else decide (x * x ≤ p * 2 ^ 64)
def bisN (three : Bool) (p : Nat) : Nat → Nat → Nat → Nat
  | 0, lo, _ => lo
  | f + 1, lo, hi => if lo + 1 < hi then (if undN three p ((lo + hi) / 2) then bisN three p f ((lo + hi) / 2) hi else bisN three p f lo ((lo + hi) / 2)) else lo
def rootN (three : Bool) (p : Nat) : Nat := bisN three p 37 0 137438953472 % 4294967296
theorem bis_end {three : Bool} {p f lo hi : Nat} (h : ¬ lo + 1 < hi) : bisN three p f lo hi = lo := by
  cases f with
  | zero => rfl
  | succ f => rw [bisN, if_neg h]
theorem bis_up {three : Bool} {p f lo hi : Nat} (h : lo + 1 < hi) (hu : undN three p ((lo + hi) / 2) = true) : bisN three p (f + 1) lo hi = bisN three p f ((lo + hi) / 2) hi := by rw [bisN, if_pos h, if_pos hu]
theorem bis_down {three : Bool} {p f lo hi : Nat} (h : lo + 1 < hi) (hu : undN three p ((lo + hi) / 2) = false) : bisN three p (f + 1) lo hi = bisN three p f lo ((lo + hi) / 2) := by rw [bisN, if_pos h, if_neg (by rw [hu]; decide)]

/-- no number from 2 on and below i divides n -/
def noDiv (n : Nat) : Nat → Bool
  | 0 => true
  | i + 1 => noDiv n i && (decide (i < 2) || n % i != 0)
def primeN (n : Nat) : Bool := noDiv n n && decide (1 < n)
theorem noDiv_le {n : Nat} : ∀ {i j : Nat}, i ≤ j → noDiv n j = true → noDiv n i = true
  | i, 0, h, hj => by rw [show i = 0 from by omega]; rfl
  | i, j + 1, h, hj => by
    by_cases e : i = j + 1
    · subst e; exact hj
    · rw [noDiv, Bool.and_eq_true] at hj
      exact noDiv_le (by omega) hj.1
theorem noDiv_hit {n i : Nat} (hi : 2 ≤ i) (hn : i < n) (h : n % i = 0) : primeN n = false := by
  cases hp : primeN n with
  | false => rfl
  | true =>
    unfold primeN at hp
    rw [Bool.and_eq_true] at hp
    have h1 := noDiv_le (show i + 1 ≤ n from hn) hp.1
    rw [noDiv, Bool.and_eq_true, h] at h1
    have := h1.2
    simp at this
    omega
theorem noDiv_miss {n i : Nat} (h : noDiv n i = true) (hm : n % i ≠ 0) : noDiv n (i + 1) = true := by
  rw [noDiv, h]; simp [hm]
theorem noDiv_two (n : Nat) : noDiv n 2 = true := by simp [noDiv]
def primesN : Nat → List Nat
  | 0 => []
  | p + 1 => if primeN p then primesN p ++ [p] else primesN p
theorem primes_all : (primesN 312).length = 64 := by decide +kernel
theorem primes_311 : (primesN 311).length = 63 := by decide +kernel
theorem primes_mono : ∀ {p q : Nat}, p ≤ q → (primesN p).length ≤ (primesN q).length
  | p, 0, h => by rw [show p = 0 from by omega]; exact Nat.le_refl _
  | p, q + 1, h => by
    by_cases e : p = q + 1
    · rw [e]; exact Nat.le_refl _
    · have := primes_mono (show p ≤ q from by omega)
      rw [primesN]
      split
      · rw [List.length_append]; omega
      · exact this
theorem primes_lt {p : Nat} (h : p < 312) : (primesN p).length < 64 := by
  have := primes_mono (show p ≤ 311 from by omega)
  rw [primes_311] at this
  omega
theorem roots_k : (primesN 312).map (rootN true) = kN := by decide +kernel
theorem roots_s : ((primesN 312).take 8).map (rootN false) = begN := by decide +kernel
end Go.Proofs.Ytagfplcafeblbaa.H
