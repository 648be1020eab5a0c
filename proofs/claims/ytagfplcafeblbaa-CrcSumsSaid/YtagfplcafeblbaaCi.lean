/-
  crc: bursts and single bytes, in plain Lean.
-/
import Derived.Test.YtagfplcafeblbaaCg
namespace Go.Proofs.Ytagfplcafeblbaa.C

theorem ext_getD {a b : List Nat} (hl : a.length = b.length) (h : ∀ j, j < a.length → a.getD j 0 = b.getD j 0) : a = b := by
  refine List.ext_getElem hl (fun j ha hb => ?_)
  have := h j ha
  rwa [List.getD_eq_getElem?_getD, List.getElem?_eq_getElem ha, List.getD_eq_getElem?_getD, List.getElem?_eq_getElem hb] at this
theorem getD_set {l : List Nat} {p v j : Nat} (hp : p < l.length) : (l.set p v).getD j 0 = if p = j then v else l.getD j 0 := by
  rw [List.getD_eq_getElem?_getD, List.getElem?_set, List.getD_eq_getElem?_getD]
  by_cases h : p = j
  · subst h; simp [hp]
  · simp [h]
/-- some bytes turned, one behind the other -/
def cs (l x : List Nat) (at' : Nat) : Nat → List Nat
  | 0 => l
  | i + 1 => (cs l x at' i).set (at' + i) ((cs l x at' i).getD (at' + i) 0 ^^^ x.getD i 0)
theorem cs_length (l x : List Nat) (at' : Nat) : ∀ i, (cs l x at' i).length = l.length
  | 0 => rfl
  | i + 1 => by unfold cs; rw [List.length_set, cs_length l x at' i]
theorem cs_get (l x : List Nat) (at' : Nat) : ∀ i, at' + i ≤ l.length → ∀ j, (cs l x at' i).getD j 0 = if at' ≤ j ∧ j < at' + i then l.getD j 0 ^^^ x.getD (j - at') 0 else l.getD j 0
  | 0, _, j => by
    rw [if_neg (by omega)]
    rfl
  | i + 1, h, j => by
    have ih := cs_get l x at' i (by omega)
    unfold cs
    rw [getD_set (by rw [cs_length]; omega)]
    by_cases hj : at' + i = j
    · subst hj
      rw [if_pos rfl, ih, if_neg (by omega), if_pos (by omega), Nat.add_sub_cancel_left]
    · rw [if_neg hj, ih]
      by_cases h2 : at' ≤ j ∧ j < at' + i
      · rw [if_pos h2, if_pos (by omega)]
      · rw [if_neg h2, if_neg (by omega)]
theorem cs_lt {l x : List Nat} {at' : Nat} (hl : ∀ y ∈ l, y < 256) (hx : ∀ y ∈ x, y < 256) : ∀ i, i ≤ x.length → at' + i ≤ l.length → ∀ y ∈ cs l x at' i, y < 256
  | 0, _, _ => hl
  | i + 1, h, h2 => by
    intro y hy
    unfold cs at hy
    rcases List.mem_or_eq_of_mem_set hy with h1 | h1
    · exact cs_lt hl hx i (by omega) (by omega) y h1
    · rw [h1]
      exact Nat.xor_lt_two_pow (n := 8) (getD_lt (by rw [cs_length]; omega) (cs_lt hl hx i (by omega) (by omega))) (getD_lt (by omega) hx)
/-- nothing, some bytes, nothing -/
def mask (n : Nat) (x : List Nat) (m : Nat) : List Nat := List.replicate n 0 ++ x ++ List.replicate m 0
theorem mask_length (n : Nat) (x : List Nat) (m : Nat) : (mask n x m).length = n + x.length + m := by simp [mask]; omega
theorem mask_get (n : Nat) (x : List Nat) (m j : Nat) : (mask n x m).getD j 0 = if n ≤ j ∧ j < n + x.length then x.getD (j - n) 0 else 0 := by
  unfold mask
  rw [List.getD_eq_getElem?_getD, List.append_assoc]
  by_cases h1 : j < n
  · rw [List.getElem?_append_left (by simpa using h1), if_neg (by omega)]
    simp [h1]
  · rw [List.getElem?_append_right (by simp; omega), List.length_replicate]
    by_cases h2 : j - n < x.length
    · rw [List.getElem?_append_left h2, if_pos (by omega), List.getD_eq_getElem?_getD]
    · rw [List.getElem?_append_right (by omega), if_neg (by omega)]
      by_cases h3 : j - n - x.length < m
      · simp [List.getElem?_replicate, h3]
      · simp [List.getElem?_replicate, h3]
theorem zip_get {a b : List Nat} (h : a.length = b.length) {j : Nat} (hj : j < a.length) : (List.zipWith (· ^^^ ·) a b).getD j 0 = a.getD j 0 ^^^ b.getD j 0 := by
  simp [List.getD_eq_getElem?_getD, List.getElem?_zipWith, List.getElem?_eq_getElem hj, List.getElem?_eq_getElem (h ▸ hj)]
theorem cs_zip {l x : List Nat} {at' : Nat} (h : at' + x.length ≤ l.length) : cs l x at' x.length = List.zipWith (· ^^^ ·) l (mask at' x (l.length - at' - x.length)) := by
  have hm : (mask at' x (l.length - at' - x.length)).length = l.length := by rw [mask_length]; omega
  refine ext_getD (by rw [cs_length, List.length_zipWith, hm, Nat.min_self]) (fun j hj => ?_)
  rw [cs_length] at hj
  rw [cs_get l x at' x.length h, zip_get hm.symm hj, mask_get]
  split
  · rfl
  · rw [Nat.xor_zero]
theorem le4_length (x : Nat) : (le4 x).length = 4 := rfl
theorem le4_lt (x : Nat) : ∀ y ∈ le4 x, y < 256 := by
  intro y hy
  simp [le4] at hy
  omega
theorem burst_law {l : List Nat} {at' y : Nat} (h : at' + 4 ≤ l.length) (hy : y < 4294967296) : ofN (cs l (le4 y) at' 4) = ofN l ↔ y = 0 := by
  have e := cs_zip (l := l) (x := le4 y) (at' := at') h
  rw [le4_length] at e
  rw [of_diff e (by rw [mask_length, le4_length]; omega)]
  exact burst hy
/-- one byte turned -/
theorem one_law {l : List Nat} {p y : Nat} (hp : p < l.length) (hy : y < 256) : ofN (l.set p (l.getD p 0 ^^^ y)) = ofN l ↔ y = 0 := by
  have e := cs_zip (l := l) (x := [y]) (at' := p) hp
  have e1 : cs l [y] p 1 = l.set p (l.getD p 0 ^^^ y) := rfl
  rw [show ([y] : List Nat).length = 1 from rfl, e1] at e
  rw [of_diff e (by rw [mask_length]; simp; omega)]
  exact one_byte hy
theorem clN_length (l : List Nat) : (clN l).length = l.length + 4 := by simp [clN, le4_length]
theorem clN_lt {l : List Nat} (hl : ∀ x ∈ l, x < 256) : ∀ x ∈ clN l, x < 256 := by
  intro x hx
  rcases List.mem_append.1 hx with h | h
  · exact hl x h
  · exact le4_lt _ x h
theorem le4_inj {a b : Nat} (ha : a < 4294967296) (hb : b < 4294967296) (h : le4 a = le4 b) : a = b := by
  simp only [le4, List.cons.injEq, and_true] at h
  omega
theorem ends_close (l : List Nat) : endsN (clN l) = true := by
  unfold endsN
  rw [clN_length, Nat.add_sub_cancel]
  have : (clN l).take l.length = l := by unfold clN; simp
  rw [this]
  simp
theorem xor_ne {a y : Nat} (h : y ≠ 0) : a ^^^ y ≠ a := fun e => h (by
  have : a ^^^ (a ^^^ y) = a ^^^ a := by rw [e]
  rwa [← Nat.xor_assoc, Nat.xor_self, Nat.zero_xor] at this)
theorem ends_turned {l : List Nat} {p y : Nat} (hl : ∀ x ∈ l, x < 256) (hp : p < l.length + 4) (hy : y < 256) (h0 : y ≠ 0) : endsN ((clN l).set p ((clN l).getD p 0 ^^^ y)) = false := by
  unfold endsN
  rw [List.length_set, clN_length, Nat.add_sub_cancel]
  suffices h : ¬ clN (((clN l).set p ((clN l).getD p 0 ^^^ y)).take l.length) = (clN l).set p ((clN l).getD p 0 ^^^ y) by
    rw [decide_eq_false h, Bool.and_false]
  intro h
  by_cases hp1 : p < l.length
  · have e1 : (clN l).set p ((clN l).getD p 0 ^^^ y) = l.set p (l.getD p 0 ^^^ y) ++ le4 (ofN l) := by
      unfold clN
      rw [List.set_append_left _ _ hp1, List.getD_eq_getElem?_getD, List.getElem?_append_left hp1, ← List.getD_eq_getElem?_getD]
    rw [e1] at h
    have e2 : (l.set p (l.getD p 0 ^^^ y) ++ le4 (ofN l)).take l.length = l.set p (l.getD p 0 ^^^ y) := by
      rw [List.take_append_of_le_length (by simp)]
      exact List.take_of_length_le (by simp)
    rw [e2] at h
    unfold clN at h
    have e3 := le4_inj (ofN_lt (by
      intro x hx
      rcases List.mem_or_eq_of_mem_set hx with h1 | h1
      · exact hl x h1
      · rw [h1]
        exact Nat.xor_lt_two_pow (n := 8) (getD_lt hp1 hl) hy)) (ofN_lt hl) (List.append_cancel_left h)
    exact h0 ((one_law hp1 hy).1 e3)
  · have e2 : ((clN l).set p ((clN l).getD p 0 ^^^ y)).take l.length = l := by
      rw [List.take_set_of_le (by omega)]
      unfold clN; simp
    rw [e2] at h
    have h2 : (clN l).getD p 0 = ((clN l).set p ((clN l).getD p 0 ^^^ y)).getD p 0 := congrArg (fun z : List Nat => z.getD p 0) h
    rw [getD_set (by rw [clN_length]; omega), if_pos rfl] at h2
    exact xor_ne h0 h2.symm
end Go.Proofs.Ytagfplcafeblbaa.C
