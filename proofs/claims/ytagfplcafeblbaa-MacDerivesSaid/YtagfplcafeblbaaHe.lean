/-
  sha: the document's block is the same block, in plain Lean.
-/
import Derived.Test.YtagfplcafeblbaaHd
namespace Go.Proofs.Ytagfplcafeblbaa.H

def turn1 (x : Nat) : Nat := x / 2 + 2147483648 * (x % 2)
def turnN : Nat → Nat → Nat
  | 0, x => x
  | n + 1, x => turnN n (turn1 x)
theorem turn1_rot {x n : Nat} (hn : n < 32) : turn1 (rot x n) = rot x (n + 1) := by
  have e1 : x / 2 ^ n / 2 = x / 2 ^ (n + 1) := by rw [Nat.div_div_eq_div_mul, Nat.pow_succ]
  have e2 : x % 2 ^ (n + 1) = x % 2 ^ n + 2 ^ n * (x / 2 ^ n % 2) := by rw [Nat.pow_succ, Nat.mod_mul]
  have e3 : 2 ^ (32 - n) = 2 * 2 ^ (32 - (n + 1)) := by rw [show 32 - n = (32 - (n + 1)) + 1 from by omega, Nat.pow_succ, Nat.mul_comm]
  have e4 : 2 ^ n * 2 ^ (32 - (n + 1)) = 2147483648 := by rw [← Nat.pow_add, show n + (32 - (n + 1)) = 31 from by omega]
  unfold rot
  rw [e2, e3, ← e1, Nat.add_mul, show 2 ^ n * (x / 2 ^ n % 2) * 2 ^ (32 - (n + 1)) = (x / 2 ^ n % 2) * (2 ^ n * 2 ^ (32 - (n + 1))) from by ac_rfl, e4]
  generalize x / 2 ^ n = q
  rw [show x % 2 ^ n * (2 * 2 ^ (32 - (n + 1))) = 2 * (x % 2 ^ n * 2 ^ (32 - (n + 1))) from by ac_rfl]
  generalize x % 2 ^ n * 2 ^ (32 - (n + 1)) = r
  unfold turn1
  omega
theorem turnN_snoc : ∀ (n x : Nat), turnN (n + 1) x = turn1 (turnN n x)
  | 0, x => by rw [turnN, turnN, turnN]
  | n + 1, x => by rw [turnN, turnN_snoc n (turn1 x), turnN]
theorem rot0 (x : Nat) : rot x 0 = x := by
  unfold rot
  simp [Nat.mod_one]
theorem turnN_rot (x : Nat) : ∀ {n : Nat}, n ≤ 32 → turnN n x = rot x n := by
  intro n
  induction n with
  | zero => intro _; rw [turnN, rot0]
  | succ n ih => intro h; rw [turnN_snoc, ih (by omega), turn1_rot (by omega)]
def downN : Nat → Nat → Nat
  | 0, x => x
  | n + 1, x => downN n (x / 2)
theorem downN_eq : ∀ (n x : Nat), downN n x = x / 2 ^ n
  | 0, x => by simp [downN]
  | n + 1, x => by
    show downN n (x / 2) = _
    rw [downN_eq n, Nat.div_div_eq_div_mul, Nat.pow_succ, Nat.mul_comm]
theorem ch_eq {e f g : Nat} (he : e < 4294967296) (hg : g < 4294967296) : (e &&& f) ^^^ ((4294967295 - e) &&& g) = g ^^^ (e &&& (f ^^^ g)) := by
  apply Nat.eq_of_testBit_eq
  intro i
  have h1 : (4294967295 - e).testBit i = (decide (i < 32) && !e.testBit i) := by
    have := Nat.testBit_two_pow_sub_succ (n := 32) he i
    rwa [show 2 ^ 32 - (e + 1) = 4294967295 - e from by omega] at this
  simp only [Nat.testBit_xor, Nat.testBit_and, h1]
  by_cases hi : i < 32
  · simp only [hi, decide_true, Bool.true_and]
    cases e.testBit i <;> cases f.testBit i <;> cases g.testBit i <;> rfl
  · have hz : g.testBit i = false := Nat.testBit_lt_two_pow (Nat.lt_of_lt_of_le (show g < 2 ^ 32 from hg) (show 2 ^ 32 ≤ 2 ^ i from Nat.pow_le_pow_right (by decide) (by omega)))
    have hz2 : e.testBit i = false := Nat.testBit_lt_two_pow (Nat.lt_of_lt_of_le (show e < 2 ^ 32 from he) (show 2 ^ 32 ≤ 2 ^ i from Nat.pow_le_pow_right (by decide) (by omega)))
    simp [hz, hz2]
theorem maj_eq (a b c : Nat) : (a &&& b) ^^^ (a &&& c) ^^^ (b &&& c) = (a &&& b) ||| (c &&& (a ||| b)) := by
  apply Nat.eq_of_testBit_eq
  intro i
  simp only [Nat.testBit_xor, Nat.testBit_and, Nat.testBit_or]
  cases a.testBit i <;> cases b.testBit i <;> cases c.testBit i <;> rfl
/-- the words, all of them -/
def wx (w : List Nat) (i : Nat) : Nat := add32 (add32 (add32 (w.getD (i - 16) 0) (w.getD (i - 7) 0)) (sg0 (w.getD (i - 15) 0))) (sg1 (w.getD (i - 2) 0))
def extW : Nat → List Nat → List Nat
  | 0, w => w
  | n + 1, w => extW n w ++ [wx (extW n w) (16 + n)]
def w16 (b : List Nat) : List Nat := (List.range 16).map (fun i => wordN b (4 * i))
theorem w16_length (b : List Nat) : (w16 b).length = 16 := by simp [w16]
theorem extW_length {w : List Nat} (h : w.length = 16) : ∀ n, (extW n w).length = 16 + n
  | 0 => h
  | n + 1 => by
    rw [extW, List.length_append, extW_length h n]
    rfl
theorem extW_get {w : List Nat} (h : w.length = 16) {n : Nat} : ∀ {m j : Nat}, n ≤ m → j < 16 + n → (extW m w).getD j 0 = (extW n w).getD j 0 := by
  intro m
  induction m with
  | zero => intro j hm hj; rw [show n = 0 from by omega]
  | succ m ih =>
    intro j hm hj
    by_cases e : n = m + 1
    · rw [e]
    · rw [← ih (by omega) hj]
      rw [extW, List.getD_eq_getElem?_getD, List.getElem?_append_left (by rw [extW_length h]; omega), List.getD_eq_getElem?_getD]
theorem extW_succ (n : Nat) (w : List Nat) : extW (n + 1) w = extW n w ++ [wx (extW n w) (16 + n)] := by rw [extW]
theorem wx_ext {w : List Nat} (h : w.length = 16) {n m : Nat} (hm : n ≤ m) : wx (extW m w) (16 + n) = wx (extW n w) (16 + n) := by
  have e0 := extW_get h (n := n) (m := m) (j := 16 + n - 16) hm (by omega)
  have e1 := extW_get h (n := n) (m := m) (j := 16 + n - 7) hm (by omega)
  have e2 := extW_get h (n := n) (m := m) (j := 16 + n - 15) hm (by omega)
  have e3 := extW_get h (n := n) (m := m) (j := 16 + n - 2) hm (by omega)
  unfold wx
  rw [e0, e1, e2, e3]
theorem extW_new {w : List Nat} (h : w.length = 16) {n m : Nat} (hm : n < m) : (extW m w).getD (16 + n) 0 = wx (extW m w) (16 + n) := by
  have e1 := extW_get h (n := n + 1) (m := m) (j := 16 + n) (by omega) (by omega)
  have e2 := wx_ext h (n := n) (m := m) (by omega)
  rw [e1, e2, extW_succ, List.getD_eq_getElem?_getD, List.getElem?_append_right (by rw [extW_length h]; omega), extW_length h, Nat.sub_self, List.getElem?_cons_zero, Option.getD_some]
def rW (b : List Nat) : List Nat := extW 48 (w16 b)
theorem rW_length (b : List Nat) : (rW b).length = 64 := extW_length (w16_length b) 48
def rrnd (v : List Nat) (k x : Nat) : List Nat :=
  let t := add32 (add32 (add32 (add32 (v.getD 7 0) (bs1 (v.getD 4 0))) ((v.getD 4 0 &&& v.getD 5 0) ^^^ ((4294967295 - v.getD 4 0) &&& v.getD 6 0))) k) x
  let u := add32 (bs0 (v.getD 0 0)) ((v.getD 0 0 &&& v.getD 1 0) ^^^ (v.getD 0 0 &&& v.getD 2 0) ^^^ (v.getD 1 0 &&& v.getD 2 0))
  [add32 t u, v.getD 0 0, v.getD 1 0, v.getD 2 0, add32 (v.getD 3 0) t, v.getD 4 0, v.getD 5 0, v.getD 6 0]
def rrounds (w : List Nat) : Nat → List Nat → List Nat
  | 0, v => v
  | i + 1, v => rrnd (rrounds w i v) (kN.getD i 0) (w.getD i 0)
def rinto (s b : List Nat) : List Nat := List.zipWith add32 (rrounds (rW b) 64 s) s
theorem rrnd_eq {v : List Nat} (k x : Nat) (hv : ∀ y ∈ v, y < 4294967296) : rrnd v k x = rnd v k x := by
  have hg : ∀ i, v.getD i 0 < 4294967296 := fun i => by
    rw [List.getD_eq_getElem?_getD]
    by_cases h : i < v.length
    · rw [List.getElem?_eq_getElem h]; exact hv _ (List.getElem_mem h)
    · rw [List.getElem?_eq_none (by omega)]; decide
  unfold rrnd rnd
  rw [ch_eq (hg 4) (hg 6), maj_eq]
theorem rnd_lt {v : List Nat} (k x : Nat) (hv : ∀ y ∈ v, y < 4294967296) : ∀ y ∈ rnd v k x, y < 4294967296 := by
  have hg : ∀ i, v.getD i 0 < 4294967296 := fun i => by
    rw [List.getD_eq_getElem?_getD]
    by_cases h : i < v.length
    · rw [List.getElem?_eq_getElem h]; exact hv _ (List.getElem_mem h)
    · rw [List.getElem?_eq_none (by omega)]; decide
  intro y hy
  unfold rnd at hy
  simp only [List.mem_cons, List.not_mem_nil, or_false] at hy
  rcases hy with h | h | h | h | h | h | h | h <;> subst h <;> first | exact add32_lt _ _ | exact hg _
theorem rounds_lt : ∀ (i : Nat) (p : List Nat × List Nat), (∀ y ∈ p.2, y < 4294967296) → ∀ y ∈ (rounds i p).2, y < 4294967296
  | 0, _, h => h
  | i + 1, p, h => rnd_lt _ _ (rounds_lt i p h)
theorem add32_assoc4 (x a b c : Nat) : add32 x (add32 (add32 a b) c) = add32 (add32 (add32 x a) b) c := by
  unfold add32
  omega
theorem bufS_length (i : Nat) (w : List Nat) : (bufS i w).length = w.length := by
  unfold bufS
  split
  · rw [List.length_set]
  · rfl
theorem rounds_buf_length : ∀ (i : Nat) (p : List Nat × List Nat), (rounds i p).1.length = p.1.length
  | 0, _ => rfl
  | i + 1, p => by
    show (bufS i (rounds i p).1).length = _
    rw [bufS_length, rounds_buf_length i]
theorem rounds_1 (i : Nat) (p : List Nat × List Nat) : (rounds (i + 1) p).1 = bufS i (rounds i p).1 := by rw [rounds, step]
theorem rounds_2 (i : Nat) (p : List Nat × List Nat) : (rounds (i + 1) p).2 = rnd (rounds i p).2 (kN.getD i 0) ((rounds (i + 1) p).1.getD (i % 16) 0) := by rw [rounds_1, rounds, step]
theorem bufS_at {i : Nat} {u : List Nat} (h16 : 16 ≤ i) (hl : u.length = 16) : (bufS i u).getD (i % 16) 0 = add32 (add32 (add32 (u.getD (i % 16) 0) (u.getD ((i + 9) % 16) 0)) (sg0 (u.getD ((i + 1) % 16) 0))) (sg1 (u.getD ((i + 14) % 16) 0)) := by
  unfold bufS
  rw [if_pos h16, List.getD_eq_getElem?_getD, List.getElem?_set_self (by rw [hl]; omega), Option.getD_some, add32_assoc4]
theorem bufS_ne {i j : Nat} {u : List Nat} (h : j % 16 ≠ i % 16 ∨ i < 16) : (bufS i u).getD (j % 16) 0 = u.getD (j % 16) 0 := by
  unfold bufS
  split
  · rw [List.getD_eq_getElem?_getD, List.getElem?_set_ne (by omega), ← List.getD_eq_getElem?_getD]
  · rfl
/-- of the words ahead sixteen are kept -/
theorem buf_inv {w : List Nat} (h : w.length = 16) (s : List Nat) : ∀ (i : Nat), i ≤ 64 → ∀ j, (j < 16 ∨ j < i) → i ≤ j + 16 → (rounds i (w, s)).1.getD (j % 16) 0 = (extW 48 w).getD j 0 := by
  intro i
  induction i with
  | zero =>
    intro _ j hj _
    have hj : j < 16 := by omega
    have e := extW_get h (n := 0) (m := 48) (j := j) (by omega) (by omega)
    rw [Nat.mod_eq_of_lt hj, e, extW, rounds]
  | succ i ih0 =>
    intro hi j hj hij
    have ih := ih0 (by omega)
    have hl : (rounds i (w, s)).1.length = 16 := (rounds_buf_length i (w, s)).trans h
    rw [rounds_1]
    by_cases e : j = i ∧ 16 ≤ i
    · obtain ⟨e, h16⟩ := e
      subst e
      have hn := extW_new h (n := j - 16) (m := 48) (by omega)
      rw [show 16 + (j - 16) = j from by omega] at hn
      have e0 := ih (j - 16) (by omega) (by omega)
      have e1 := ih (j - 7) (by omega) (by omega)
      have e2 := ih (j - 15) (by omega) (by omega)
      have e3 := ih (j - 2) (by omega) (by omega)
      rw [show (j - 16) % 16 = j % 16 from by omega] at e0
      rw [show (j - 7) % 16 = (j + 9) % 16 from by omega] at e1
      rw [show (j - 15) % 16 = (j + 1) % 16 from by omega] at e2
      rw [show (j - 2) % 16 = (j + 14) % 16 from by omega] at e3
      rw [bufS_at h16 hl, hn, e0, e1, e2, e3, wx]
    · rw [bufS_ne (by omega)]
      exact ih j (by omega) (by omega)
theorem rrounds_eq {w : List Nat} (h : w.length = 16) {s : List Nat} (hs : ∀ y ∈ s, y < 4294967296) : ∀ (i : Nat), i ≤ 64 → rrounds (extW 48 w) i s = (rounds i (w, s)).2 := by
  intro i
  induction i with
  | zero => intro _; rw [rrounds, rounds]
  | succ i ih =>
    intro hi
    have hb := buf_inv h s (i + 1) hi i (by omega) (by omega)
    rw [rounds_2, hb, rrounds, ih (by omega), rrnd_eq _ _ (rounds_lt i (w, s) hs)]
theorem rinto_eq {s : List Nat} (b : List Nat) (hs : ∀ y ∈ s, y < 4294967296) : rinto s b = mixN s b := by
  unfold rinto mixN rW
  rw [rrounds_eq (w16_length b) hs 64 (by omega)]
  unfold w16
  exact rfl
/-- the document's sum -/
def rwith (l : List Nat) : List Nat := outN (blocks ((padN l l.length).length / 64) begN (padN l l.length))
theorem rwith_eq (l : List Nat) : rwith l = shaN l := rfl
end Go.Proofs.Ytagfplcafeblbaa.H
