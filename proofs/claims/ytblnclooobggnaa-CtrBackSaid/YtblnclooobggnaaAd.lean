/-
  aes: the round keys, in plain Lean; what a filled cipher holds.
-/
import Derived.Test.YtblnclooobggnaaAa
import Derived.Test.YtblnclooobggnaaNq
namespace Go.Proofs.Ytblnclooobggnaa.A
open Go.RowKit Go.Proofs.Ytblnclooobggnaa.N

def pw : Nat → Nat
  | 0 => 1
  | n + 1 => dbl (pw n)
theorem pw_lt : ∀ n, pw n < 256
  | 0 => by decide
  | n + 1 => dbl_lt (pw_lt n)
def bxv (x : Nat) : Nat := boxT.getD x 0
theorem bxv_lt (x : Nat) : bxv x < 256 := getD_lt0 (by decide) x boxT_lt
/-- the word ahead of word i, turned where i is a fourth -/
def tmpW (W : List Nat) (i : Nat) : List Nat :=
  if i % 4 = 0 then [bxv (W.getD (4 * (i - 1) + 1) 0) ^^^ pw ((i - 1) / 4), bxv (W.getD (4 * (i - 1) + 2) 0), bxv (W.getD (4 * (i - 1) + 3) 0), bxv (W.getD (4 * (i - 1)) 0)]
  else [W.getD (4 * (i - 1)) 0, W.getD (4 * (i - 1) + 1) 0, W.getD (4 * (i - 1) + 2) 0, W.getD (4 * (i - 1) + 3) 0]
def nxtW (W : List Nat) (i : Nat) : List Nat := (List.range 4).map (fun k => W.getD (4 * (i - 4) + k) 0 ^^^ (tmpW W i).getD k 0)
/-- the first 4 + n words' bytes -/
def WS (key : List Nat) : Nat → List Nat
  | 0 => key
  | n + 1 => WS key n ++ nxtW (WS key n) (n + 4)
theorem WS_succ (key : List Nat) (n : Nat) : WS key (n + 1) = WS key n ++ nxtW (WS key n) (n + 4) := by rw [WS]
theorem nxtW_len (W : List Nat) (i : Nat) : (nxtW W i).length = 4 := by simp [nxtW]
theorem WS_len {key : List Nat} (h : key.length = 16) : ∀ n, (WS key n).length = 16 + 4 * n
  | 0 => by rw [WS]; omega
  | n + 1 => by rw [WS_succ, List.length_append, WS_len h n, nxtW_len]; omega
theorem tmpW_lt {W : List Nat} (h : ∀ x ∈ W, x < 256) (i : Nat) : ∀ x ∈ tmpW W i, x < 256 := by
  have g : ∀ j, W.getD j 0 < 256 := fun j => getD_lt0 (by decide) j h
  have l4 : ∀ {a b c d x : Nat}, a < 256 → b < 256 → c < 256 → d < 256 → x ∈ [a, b, c, d] → x < 256 := fun ha hb hc hd hx => by
    simp only [List.mem_cons, List.not_mem_nil, or_false] at hx
    rcases hx with h | h | h | h <;> rw [h] <;> assumption
  intro x hx
  unfold tmpW at hx
  split at hx
  · exact l4 (xor8 (bxv_lt _) (pw_lt _)) (bxv_lt _) (bxv_lt _) (bxv_lt _) hx
  · exact l4 (g _) (g _) (g _) (g _) hx
theorem nxtW_lt {W : List Nat} (h : ∀ x ∈ W, x < 256) (i : Nat) : ∀ x ∈ nxtW W i, x < 256 := by
  intro x hx
  obtain ⟨k, _, rfl⟩ := List.mem_map.1 hx
  exact xor8 (getD_lt0 (by decide) _ h) (getD_lt0 (by decide) _ (tmpW_lt h i))
theorem WS_lt {key : List Nat} (h : ∀ x ∈ key, x < 256) : ∀ n, ∀ x ∈ WS key n, x < 256
  | 0 => by rw [WS]; exact h
  | n + 1 => by rw [WS_succ]; exact app_lt (WS_lt h n) (nxtW_lt (WS_lt h n) _)
def WK (key : List Nat) : List Nat := WS key 40
theorem WK_len {key : List Nat} (h : key.length = 16) : (WK key).length = 176 := WS_len h 40
theorem WK_lt {key : List Nat} (h : ∀ x ∈ key, x < 256) : ∀ x ∈ WK key, x < 256 := WS_lt h 40
def twT : List Nat := (List.range 256).map dbl
theorem twT_len : twT.length = 256 := by simp [twT]
theorem twT_get {i : Nat} (h : i < 256) : twT.getD i 0 = dbl i := by
  unfold twT
  rw [List.getD_eq_getElem?_getD, List.getElem?_map, List.getElem?_range h]
  rfl
/-- all bytes of a cipher -/
def MM (key box tw ws : List Nat) : List Nat := key ++ (box ++ (tw ++ ws))
def MF (key : List Nat) : List Nat := MM key boxT twT (WK key)
section
variable {key box tw ws : List Nat}
theorem MM_len (h1 : key.length = 16) (h2 : box.length = 256) (h3 : tw.length = 256) (h4 : ws.length = 176) : (MM key box tw ws).length = 704 := by
  unfold MM; simp only [List.length_append]; omega
theorem getD_left {a b : List Nat} {i : Nat} (h : i < a.length) : (a ++ b).getD i 0 = a.getD i 0 := by
  rw [List.getD_eq_getElem?_getD, List.getElem?_append_left h, ← List.getD_eq_getElem?_getD]
theorem getD_right {a b : List Nat} {n : Nat} (i : Nat) (h : a.length = n) : (a ++ b).getD (n + i) 0 = b.getD i 0 := by
  rw [List.getD_eq_getElem?_getD, List.getElem?_append_right (by omega), show n + i - a.length = i from by omega, ← List.getD_eq_getElem?_getD]
theorem MM_key (h1 : key.length = 16) {i : Nat} (h : i < 16) : (MM key box tw ws).getD i 0 = key.getD i 0 := getD_left (by omega)
theorem MM_box (h1 : key.length = 16) (h2 : box.length = 256) {i : Nat} (h : i < 256) : (MM key box tw ws).getD (16 + i) 0 = box.getD i 0 := by
  unfold MM; rw [getD_right i h1, getD_left (by omega)]
theorem MM_tw (h1 : key.length = 16) (h2 : box.length = 256) (h3 : tw.length = 256) {i : Nat} (h : i < 256) : (MM key box tw ws).getD (272 + i) 0 = tw.getD i 0 := by
  unfold MM; rw [show 272 + i = 16 + (256 + i) from by omega, getD_right _ h1, getD_right i h2, getD_left (by omega)]
theorem MM_ws (h1 : key.length = 16) (h2 : box.length = 256) (h3 : tw.length = 256) (i : Nat) : (MM key box tw ws).getD (528 + i) 0 = ws.getD i 0 := by
  unfold MM; rw [show 528 + i = 16 + (256 + (256 + i)) from by omega, getD_right _ h1, getD_right _ h2, getD_right i h3]
theorem set_right {a b : List Nat} {n : Nat} (i x : Nat) (h : a.length = n) : (a ++ b).set (n + i) x = a ++ b.set i x := by
  rw [List.set_append_right _ _ (by omega), show n + i - a.length = i from by omega]
theorem MM_set_tw (h1 : key.length = 16) (h2 : box.length = 256) (h3 : tw.length = 256) {i : Nat} (h : i < 256) (x : Nat) : (MM key box tw ws).set (272 + i) x = MM key box (tw.set i x) ws := by
  unfold MM; rw [show 272 + i = 16 + (256 + i) from by omega, set_right _ _ h1, set_right _ _ h2, List.set_append_left _ _ (by omega)]
theorem MM_set_ws (h1 : key.length = 16) (h2 : box.length = 256) (h3 : tw.length = 256) (i x : Nat) : (MM key box tw ws).set (528 + i) x = MM key box tw (ws.set i x) := by
  unfold MM; rw [show 528 + i = 16 + (256 + (256 + i)) from by omega, set_right _ _ h1, set_right _ _ h2, set_right _ _ h3]
theorem MM_sp_box (h1 : key.length = 16) (h2 : box.length = 256) {cs : List Nat} (hc : cs.length = 256) : splice (MM key box tw ws) 16 cs = MM key cs tw ws := by
  unfold splice MM
  have e1 : (key ++ (box ++ (tw ++ ws))).take 16 = key := by rw [List.take_append_of_le_length (by omega), List.take_of_length_le (by omega)]
  have e2 : (key ++ (box ++ (tw ++ ws))).drop (16 + cs.length) = tw ++ ws := by
    rw [hc, ← List.drop_drop, show (16 : Nat) = key.length from h1.symm, List.drop_left, show (256 : Nat) = box.length from h2.symm, List.drop_left]
  rw [e1, e2]
theorem MM_sp_ws (h1 : key.length = 16) (h2 : box.length = 256) (h3 : tw.length = 256) (o : Nat) (cs : List Nat) : splice (MM key box tw ws) (528 + o) cs = MM key box tw (splice ws o cs) := by
  unfold splice MM
  rw [show 528 + o = 16 + (256 + (256 + o)) from by omega, show 16 + (256 + (256 + o)) + cs.length = 16 + (256 + (256 + (o + cs.length))) from by omega]
  have t : ∀ (a b : List Nat) (n m : Nat), a.length = n → (a ++ b).take (n + m) = a ++ b.take m := fun a b n m h => by
    rw [List.take_append, List.take_of_length_le (by omega), show n + m - a.length = m from by omega]
  have d : ∀ (a b : List Nat) (n m : Nat), a.length = n → (a ++ b).drop (n + m) = b.drop m := fun a b n m h => by
    rw [List.drop_append, List.drop_of_length_le (by omega), show n + m - a.length = m from by omega, List.nil_append]
  rw [t _ _ _ _ h1, t _ _ _ _ h2, t _ _ _ _ h3, d _ _ _ _ h1, d _ _ _ _ h2, d _ _ _ _ h3]
  simp
end
/-- words so far, others behind -/
def wP (key old : List Nat) (n : Nat) : List Nat := WS key n ++ old.drop (16 + 4 * n)
theorem wP_len {key old : List Nat} (h : key.length = 16) (ho : old.length = 176) {n : Nat} (hn : n ≤ 40) : (wP key old n).length = 176 := by
  unfold wP; rw [List.length_append, WS_len h, List.length_drop]; omega
theorem wP_all {key old : List Nat} (_h : key.length = 16) (ho : old.length = 176) : wP key old 40 = WK key := by
  unfold wP WK; rw [List.drop_of_length_le (by omega), List.append_nil]
theorem wP_get {key old : List Nat} (h : key.length = 16) {n j : Nat} (hj : j < 16 + 4 * n) : (wP key old n).getD j 0 = (WS key n).getD j 0 := getD_left (by rw [WS_len h]; exact hj)
end Go.Proofs.Ytblnclooobggnaa.A
