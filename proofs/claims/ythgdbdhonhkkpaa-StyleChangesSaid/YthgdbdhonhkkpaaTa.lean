/-
  style: plain.
-/
import Derived.Test.YthgdbdhonhkkpaaVp
namespace Go.Proofs.Ythgdbdhonhkkpaa.St
open Go.RowKit Go.Proofs.Ythgdbdhonhkkpaa.V

/-- flags, the two colours -/
abbrev Sty := Nat × Nat × Nat
def colB (c : Nat) : Bool := decide (c = 0 ∨ (16777216 ≤ c ∧ c ≤ 16777471) ∨ (33554432 ≤ c ∧ c < 50331648))
def rightB (s : Sty) : Bool := colB s.2.1 && colB s.2.2
def flagN (n : Int) : Nat := if n = 1 then 1 else if n = 2 then 2 else if n = 3 then 4 else if n = 4 then 8 else if n = 5 then 16 else if n = 7 then 32 else if n = 8 then 64 else if n = 9 then 128 else 0
theorem flag_no {n : Int} (h : n < 1 ∨ n = 6 ∨ 9 < n) : flagN n = 0 := by
  unfold flagN
  repeat rw [if_neg (by omega)]
theorem flag_yes {n : Int} (h1 : 1 ≤ n) (h2 : n ≤ 9) (h3 : n ≠ 6) : flagN n ≠ 0 := by
  unfold flagN
  (repeat' split) <;> omega
theorem flag_lt (n : Int) : flagN n < 256 := by
  unfold flagN
  (repeat' split) <;> omega
def plainS (s : Sty) (n : Int) : Sty :=
  if n = 0 then (0, 0, 0)
  else if flagN n ≠ 0 then (s.1 ||| flagN n, s.2)
  else if n = 22 then (s.1 &&& 252, s.2)
  else if 22 < n ∧ n < 30 then (s.1 &&& (255 - flagN (n - 20)), s.2)
  else if n = 39 then (s.1, 0, s.2.2)
  else if n = 49 then (s.1, s.2.1, 0)
  else if 30 ≤ n ∧ n ≤ 37 then (s.1, (16777216 + (n - 30)).toNat, s.2.2)
  else if 40 ≤ n ∧ n ≤ 47 then (s.1, s.2.1, (16777216 + (n - 40)).toNat)
  else if 90 ≤ n ∧ n ≤ 97 then (s.1, (16777216 + (n - 82)).toNat, s.2.2)
  else if 100 ≤ n ∧ n ≤ 107 then (s.1, s.2.1, (16777216 + (n - 92)).toNat)
  else s
def smallB (n : Int) : Bool := decide (0 ≤ n ∧ n ≤ 255)
/-- a colour's numbers: the colour, how many they are, whether it is one -/
def colR (l : List Int) : Nat × Nat × Bool :=
  if 2 ≤ l.length ∧ l.getD 0 0 = 5 then ((16777216 + l.getD 1 0 % 256).toNat, 2, smallB (l.getD 1 0))
  else if 4 ≤ l.length ∧ l.getD 0 0 = 2 then ((33554432 + 65536 * (l.getD 1 0 % 256) + 256 * (l.getD 2 0 % 256) + l.getD 3 0 % 256).toNat, 4, smallB (l.getD 1 0) && smallB (l.getD 2 0) && smallB (l.getD 3 0))
  else (0, l.length, false)
theorem colR_le (l : List Int) : (colR l).2.1 ≤ l.length := by
  unfold colR
  (repeat' split) <;> (try dsimp only) <;> omega
def setC (s : Sty) (n : Int) (r : Nat × Nat × Bool) : Sty := if r.2.2 then (if n = 38 then (s.1, r.1, s.2.2) else (s.1, s.2.1, r.1)) else s
def chgF : Nat → List Int → Sty → Sty
  | 0, _, s => s
  | _ + 1, [], s => s
  | k + 1, n :: l, s => if n = 38 ∨ n = 48 then chgF k (l.drop (colR l).2.1) (setC s n (colR l)) else chgF k l (plainS s n)
theorem chgF_fuel : ∀ (k m : Nat) (l : List Int) (s : Sty), l.length ≤ k → l.length ≤ m → chgF k l s = chgF m l s
  | 0, m, l, s, h, _ => by
    obtain rfl : l = [] := List.eq_nil_of_length_eq_zero (by omega)
    cases m <;> rw [chgF] <;> rfl
  | k + 1, 0, l, s, _, h => by
    obtain rfl : l = [] := List.eq_nil_of_length_eq_zero (by omega)
    rw [chgF, chgF]
  | k + 1, m + 1, [], s, _, _ => by rw [chgF, chgF]
  | k + 1, m + 1, n :: l, s, h1, h2 => by
    simp only [List.length_cons] at h1 h2
    have hd : (l.drop (colR l).2.1).length ≤ l.length := by rw [List.length_drop]; omega
    rw [chgF, chgF, chgF_fuel k m (l.drop _) _ (by omega) (by omega), chgF_fuel k m l _ (by omega) (by omega)]
def chgG (l : List Int) (s : Sty) : Sty := chgF l.length l s
theorem chgG_nil (s : Sty) : chgG [] s = s := by rw [chgG, List.length_nil, chgF]
theorem chgG_plain {n : Int} (l : List Int) (s : Sty) (h : ¬ (n = 38 ∨ n = 48)) : chgG (n :: l) s = chgG l (plainS s n) := by
  rw [chgG, List.length_cons, chgF, if_neg h, chgG]
theorem chgG_col {n : Int} (l : List Int) (s : Sty) (h : n = 38 ∨ n = 48) : chgG (n :: l) s = chgG (l.drop (colR l).2.1) (setC s n (colR l)) := by
  rw [chgG, List.length_cons, chgF, if_pos h, chgG]
  exact chgF_fuel _ _ _ _ (by rw [List.length_drop]; omega) (Nat.le_refl _)
def chgS (s : Sty) (l : List Int) : Sty := if l = [] then (0, 0, 0) else chgG l s
def okS (s : Sty) : Prop := s.1 < 256 ∧ s.2.1 < 4294967296 ∧ s.2.2 < 4294967296
theorem plain_ok {s : Sty} (n : Int) (h : okS s) : okS (plainS s n) := by
  obtain ⟨h1, h2, h3⟩ := h
  have hf := flag_lt n
  have o1 : s.1 ||| flagN n < 256 := Nat.or_lt_two_pow (n := 8) h1 hf
  have a1 : s.1 &&& 252 < 256 := Nat.and_lt_two_pow (n := 8) _ (by decide)
  have a2 : s.1 &&& (255 - flagN (n - 20)) < 256 := Nat.and_lt_two_pow (n := 8) _ (by omega)
  unfold plainS okS
  (repeat' split) <;> (try dsimp only) <;> omega
theorem colR_lt (l : List Int) : (colR l).1 < 4294967296 := by
  unfold colR
  (repeat' split) <;> (try dsimp only) <;> omega
theorem set_ok {s : Sty} (n : Int) (l : List Int) (h : okS s) : okS (setC s n (colR l)) := by
  have hc := colR_lt l
  obtain ⟨h1, h2, h3⟩ := h
  unfold setC okS
  (repeat' split) <;> (try dsimp only) <;> omega
theorem chgF_ok : ∀ (k : Nat) (l : List Int) (s : Sty), okS s → okS (chgF k l s)
  | 0, _, s, h => by rw [chgF]; exact h
  | k + 1, [], s, h => by rw [chgF]; exact h
  | k + 1, n :: l, s, h => by
    rw [chgF]
    split
    · exact chgF_ok k _ _ (set_ok n l h)
    · exact chgF_ok k _ _ (plain_ok n h)
theorem chgS_ok {s : Sty} (l : List Int) (h : okS s) : okS (chgS s l) := by
  unfold chgS
  split
  · exact ⟨by decide, by decide, by decide⟩
  · exact chgF_ok _ _ _ h
/-! a style's numbers -/
def nums (first : Int) (c : Nat) : List Int :=
  if c = 0 then [] else if c < 33554432 then [first, 5, (c : Int) - 16777216] else [first, 2, (c : Int) / 65536 % 256, (c : Int) / 256 % 256, (c : Int) % 256]
def flagT (f : Nat) : Nat → List Int
  | 0 => []
  | k + 1 => if flagN ((k + 1 : Nat) : Int) ≠ 0 ∧ f &&& flagN ((k + 1 : Nat) : Int) ≠ 0 then flagT f k ++ [((k + 1 : Nat) : Int)] else flagT f k
def parR (s : Sty) : List Int := if rightB s then [0] ++ flagT s.1 9 ++ nums 38 s.2.1 ++ nums 48 s.2.2 else []
theorem flagT_len (f : Nat) : ∀ k, (flagT f k).length ≤ k
  | 0 => by rw [flagT]; simp
  | k + 1 => by
    have := flagT_len f k
    rw [flagT]
    split
    · simp; omega
    · omega
/-! bytes -/
def wrE (s : Sty) : Int := if rightB s then 0 else 3
def wrL (s : Sty) : List Int := if rightB s then [(s.1 : Int)] ++ putL (s.2.1 : Int) ++ putL (s.2.2 : Int) else []
/-- what comes of reading: flags, colours, the place behind, why not -/
def rdR (l : List Int) (at_ : Int) : Sty × Int × Int :=
  if at_ < 0 ∨ (l.length : Int) < at_ then ((0, 0, 0), 0, 1)
  else if at_ = l.length then ((0, 0, 0), 0, 10)
  else if (getR l (at_ + 1)).2.2 ≠ 0 then ((0, 0, 0), 0, (getR l (at_ + 1)).2.2)
  else if (getR l (getR l (at_ + 1)).2.1).2.2 ≠ 0 then ((0, 0, 0), 0, (getR l (getR l (at_ + 1)).2.1).2.2)
  else if 50331647 < (getR l (at_ + 1)).1 ∨ 50331647 < (getR l (getR l (at_ + 1)).2.1).1 then ((0, 0, 0), 0, 3)
  else if rightB ((l.getD at_.toNat 0).toNat, (getR l (at_ + 1)).1.toNat, (getR l (getR l (at_ + 1)).2.1).1.toNat) then (((l.getD at_.toNat 0).toNat, (getR l (at_ + 1)).1.toNat, (getR l (getR l (at_ + 1)).2.1).1.toNat), (getR l (getR l (at_ + 1)).2.1).2.1, 0)
  else ((0, 0, 0), 0, 3)
end Go.Proofs.Ythgdbdhonhkkpaa.St
