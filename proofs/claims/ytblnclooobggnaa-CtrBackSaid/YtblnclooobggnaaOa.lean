/-
  ctr: in plain Lean.
-/
import Derived.Test.YtblnclooobggnaaAh
import Derived.Test.YtblnclooobggnaaAp
namespace Go.Proofs.Ytblnclooobggnaa.A
open Go.RowKit Go.Proofs.Ytblnclooobggnaa.L Go.Proofs.Ytblnclooobggnaa.N

def be8 (n : Nat) : List Nat := (List.range 8).map (fun k => n / 256 ^ (7 - k) % 256)
theorem be8_len (n : Nat) : (be8 n).length = 8 := by simp [be8]
theorem be8_get (n : Nat) {k : Nat} (h : k < 8) : (be8 n).getD k 0 = n / 256 ^ (7 - k) % 256 := by
  unfold be8
  rw [List.getD_eq_getElem?_getD, List.getElem?_map, List.getElem?_range h]
  rfl
theorem be8_lt (n : Nat) : ∀ x ∈ be8 n, x < 256 := fun x hx => by
  obtain ⟨k, _, rfl⟩ := List.mem_map.1 hx
  exact Nat.mod_lt _ (by decide)
/-- what is turned -/
def ctrB (n i : Nat) : List Nat := be8 n ++ be8 i
theorem ctrB_len (n i : Nat) : (ctrB n i).length = 16 := by simp [ctrB, be8_len]
theorem ctrB_lt (n i : Nat) : ∀ x ∈ ctrB n i, x < 256 := app_lt (be8_lt n) (be8_lt i)
def blkN (key : List Nat) (n i : Nat) : List Nat := turnP key (ctrB n i)
theorem blkN_len (key : List Nat) (n i : Nat) : (blkN key n i).length = 16 := rnds_len key _ 10
theorem blkN_lt {key : List Nat} (h : ∀ x ∈ key, x < 256) (n i : Nat) : ∀ x ∈ blkN key n i, x < 256 := rnds_lt h (ctrB_lt n i) 10
/-- a byte of a number's stream -/
def sb (key : List Nat) (n j : Nat) : Nat := (blkN key n (j / 16)).getD (j % 16) 0
theorem sb_lt {key : List Nat} (h : ∀ x ∈ key, x < 256) (n j : Nat) : sb key n j < 256 := getD_lt0 (by decide) _ (blkN_lt h n _)
def strN (key : List Nat) (n f : Nat) : Nat → List Nat
  | 0 => []
  | m + 1 => strN key n f m ++ blkN key n (f + m)
theorem strN_succ (key : List Nat) (n f m : Nat) : strN key n f (m + 1) = strN key n f m ++ blkN key n (f + m) := by rw [strN]
theorem strN_len (key : List Nat) (n f : Nat) : ∀ m, (strN key n f m).length = 16 * m
  | 0 => rfl
  | m + 1 => by rw [strN_succ, List.length_append, strN_len key n f m, blkN_len]; omega
theorem strN_get (key : List Nat) (n f : Nat) : ∀ m j, j < 16 * m → (strN key n f m).getD j 0 = sb key n (16 * f + j)
  | 0, j, h => absurd h (by omega)
  | m + 1, j, h => by
    rw [strN_succ]
    by_cases hj : j < 16 * m
    · rw [getD_left (by rw [strN_len]; exact hj), strN_get key n f m j hj]
    · rw [show j = 16 * m + (j - 16 * m) from by omega, getD_right _ (strN_len key n f m)]
      unfold sb
      rw [show (16 * f + (16 * m + (j - 16 * m))) / 16 = f + m from by omega, show (16 * f + (16 * m + (j - 16 * m))) % 16 = j - 16 * m from by omega]
theorem strN_lt {key : List Nat} (h : ∀ x ∈ key, x < 256) (n f : Nat) : ∀ m, ∀ x ∈ strN key n f m, x < 256
  | 0 => by intro x hx; cases hx
  | m + 1 => by rw [strN_succ]; exact app_lt (strN_lt h n f m) (blkN_lt h n _)
/-- some of a number's stream -/
def atN (key : List Nat) (n from' len : Nat) : List Nat := (List.range len).map (fun j => sb key n (from' + j))
theorem atN_len (key : List Nat) (n f len : Nat) : (atN key n f len).length = len := by simp [atN]
theorem atN_get (key : List Nat) (n f : Nat) {len j : Nat} (h : j < len) : (atN key n f len).getD j 0 = sb key n (f + j) := by
  unfold atN
  rw [List.getD_eq_getElem?_getD, List.getElem?_map, List.getElem?_range h]
  rfl
theorem atN_lt {key : List Nat} (h : ∀ x ∈ key, x < 256) (n f len : Nat) : ∀ x ∈ atN key n f len, x < 256 := fun x hx => by
  obtain ⟨k, _, rfl⟩ := List.mem_map.1 hx
  exact sb_lt h _ _
theorem list_ext {a b : List Nat} (hl : a.length = b.length) (h : ∀ j, j < a.length → a.getD j 0 = b.getD j 0) : a = b := by
  refine List.ext_getElem hl (fun j h1 h2 => ?_)
  have := h j h1
  simpa [List.getD_eq_getElem?_getD, List.getElem?_eq_getElem h1, List.getElem?_eq_getElem h2] using this
theorem atN_cut (key : List Nat) (n f s len m : Nat) (h : s + len ≤ 16 * m) : ((strN key n f m).take (s + len)).drop s = atN key n (16 * f + s) len := by
  refine list_ext (by rw [List.length_drop, List.length_take, strN_len, atN_len]; omega) (fun j hj => ?_)
  rw [List.length_drop, List.length_take, strN_len] at hj
  rw [atN_get _ _ _ (by omega), List.getD_eq_getElem?_getD, List.getElem?_drop, List.getElem?_take, if_pos (by omega), ← List.getD_eq_getElem?_getD, strN_get _ _ _ _ _ (by omega), Nat.add_assoc]
/-- how many blocks are turned for it -/
def cntN (f len : Nat) : Nat := (f + len + 15) / 16 - f / 16
/-- bytes, hidden -/
def hideN (key : List Nat) (n : Nat) (b : List Nat) : List Nat := (List.range b.length).map (fun j => b.getD j 0 ^^^ sb key n j)
theorem hideN_len (key : List Nat) (n : Nat) (b : List Nat) : (hideN key n b).length = b.length := by simp [hideN]
theorem hideN_get (key : List Nat) (n : Nat) (b : List Nat) {j : Nat} (h : j < b.length) : (hideN key n b).getD j 0 = b.getD j 0 ^^^ sb key n j := by
  unfold hideN
  rw [List.getD_eq_getElem?_getD, List.getElem?_map, List.getElem?_range h]
  rfl
theorem hideN_lt {key : List Nat} (h : ∀ x ∈ key, x < 256) (n : Nat) {b : List Nat} (hb : ∀ x ∈ b, x < 256) : ∀ x ∈ hideN key n b, x < 256 := fun x hx => by
  obtain ⟨k, _, rfl⟩ := List.mem_map.1 hx
  exact xor8 (getD_lt0 (by decide) _ hb) (sb_lt h _ _)
theorem hideN_back (key : List Nat) (n : Nat) (b : List Nat) : hideN key n (hideN key n b) = b := by
  refine list_ext (by rw [hideN_len, hideN_len]) (fun j hj => ?_)
  rw [hideN_len, hideN_len] at hj
  rw [hideN_get _ _ _ (by rw [hideN_len]; exact hj), hideN_get _ _ _ hj, Nat.xor_assoc, Nat.xor_self, Nat.xor_zero]
/-- eight bytes are one number's -/
theorem be8_inj {n m : Nat} (hn : n < 2 ^ 64) (hm : m < 2 ^ 64) (h : be8 n = be8 m) : n = m := by
  have g : ∀ k, k < 8 → n / 256 ^ (7 - k) % 256 = m / 256 ^ (7 - k) % 256 := fun k hk => by rw [← be8_get n hk, ← be8_get m hk, h]
  have h0 := g 0 (by decide)
  have h1 := g 1 (by decide)
  have h2 := g 2 (by decide)
  have h3 := g 3 (by decide)
  have h4 := g 4 (by decide)
  have h5 := g 5 (by decide)
  have h6 := g 6 (by decide)
  have h7 := g 7 (by decide)
  simp only [show (256 : Nat) ^ (7 - 0) = 72057594037927936 from by decide, show (256 : Nat) ^ (7 - 1) = 281474976710656 from by decide, show (256 : Nat) ^ (7 - 2) = 1099511627776 from by decide, show (256 : Nat) ^ (7 - 3) = 4294967296 from by decide, show (256 : Nat) ^ (7 - 4) = 16777216 from by decide, show (256 : Nat) ^ (7 - 5) = 65536 from by decide, show (256 : Nat) ^ (7 - 6) = 256 from by decide, show (256 : Nat) ^ (7 - 7) = 1 from by decide, Nat.div_one] at h0 h1 h2 h3 h4 h5 h6 h7
  omega
theorem ctrB_inj {n m i k : Nat} (hn : n < 2 ^ 64) (hm : m < 2 ^ 64) (hi : i < 2 ^ 64) (hk : k < 2 ^ 64) (h : ctrB n i = ctrB m k) : n = m ∧ i = k := by
  have := List.append_inj h (by rw [be8_len, be8_len])
  exact ⟨be8_inj hn hm this.1, be8_inj hi hk this.2⟩
theorem blk_inj {key : List Nat} (hk8 : ∀ x ∈ key, x < 256) {n m i k : Nat} (hn : n < 2 ^ 64) (hm : m < 2 ^ 64) (hi : i < 2 ^ 64) (hk : k < 2 ^ 64) : blkN key n i = blkN key m k ↔ n = m ∧ i = k :=
  ⟨fun h => ctrB_inj hn hm hi hk (turn_inj hk8 (ctrB_len _ _) (ctrB_len _ _) (ctrB_lt _ _) (ctrB_lt _ _) h), fun ⟨h1, h2⟩ => by rw [h1, h2]⟩
theorem atN_blk (key : List Nat) (n i : Nat) : atN key n (16 * i) 16 = blkN key n i := by
  refine list_ext (by rw [atN_len, blkN_len]) (fun j hj => ?_)
  rw [atN_len] at hj
  rw [atN_get _ _ _ hj]
  unfold sb
  rw [show (16 * i + j) / 16 = i from by omega, show (16 * i + j) % 16 = j from by omega]
end Go.Proofs.Ytblnclooobggnaa.A
