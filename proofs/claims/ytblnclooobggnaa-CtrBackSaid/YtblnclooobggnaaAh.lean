/-
  aes: Turn, in plain Lean.
-/
import Derived.Test.YtblnclooobggnaaAg
namespace Go.Proofs.Ytblnclooobggnaa.A
open Go.RowKit Go.Proofs.Ytblnclooobggnaa.L Go.Proofs.Ytblnclooobggnaa.N

def g16 (f : Nat → Nat) : List Nat := (List.range 16).map f
theorem g16_len (f : Nat → Nat) : (g16 f).length = 16 := by simp [g16]
theorem g16_get (f : Nat → Nat) {j : Nat} (h : j < 16) : (g16 f).getD j 0 = f j := by
  unfold g16
  rw [List.getD_eq_getElem?_getD, List.getElem?_map, List.getElem?_range h]
  rfl
theorem g16_lt {f : Nat → Nat} (h : ∀ j, f j < 256) : ∀ x ∈ g16 f, x < 256 := fun x hx => by
  obtain ⟨j, _, rfl⟩ := List.mem_map.1 hx
  exact h j
def rowS (s : List Nat) (i k : Nat) : Nat := bxv (s.getD (4 * ((i + k) % 4) + k) 0)
def subS (s : List Nat) : List Nat := g16 fun j => rowS s (j / 4) (j % 4)
def rowR (s : List Nat) (i : Nat) : List Nat := ((subS s).drop (4 * i)).take 4
def rowT (r : Nat) (s : List Nat) (i : Nat) : List Nat := if r < 10 then mixN (rowR s i) else rowR s i
def rnd (key : List Nat) (r : Nat) (s : List Nat) : List Nat := g16 fun j => (rowT r s (j / 4)).getD (j % 4) 0 ^^^ (WK key).getD (16 * r + j) 0
def addK (key b : List Nat) : List Nat := g16 fun j => b.getD j 0 ^^^ (WK key).getD j 0
def rnds (key b : List Nat) : Nat → List Nat
  | 0 => addK key b
  | r + 1 => rnd key (r + 1) (rnds key b r)
def turnP (key b : List Nat) : List Nat := rnds key b 10
theorem rnds_succ (key b : List Nat) (r : Nat) : rnds key b (r + 1) = rnd key (r + 1) (rnds key b r) := by rw [rnds]
theorem rnds_len (key b : List Nat) : ∀ r, (rnds key b r).length = 16
  | 0 => by rw [rnds]; exact g16_len _
  | r + 1 => by rw [rnds]; exact g16_len _
theorem rowS_lt (s : List Nat) (i k : Nat) : rowS s i k < 256 := bxv_lt _
theorem subS_lt (s : List Nat) : ∀ x ∈ subS s, x < 256 := g16_lt fun _ => rowS_lt _ _ _
theorem rowR_lt (s : List Nat) (i : Nat) : ∀ x ∈ rowR s i, x < 256 := take_lt _ (drop_lt _ (subS_lt s))
theorem rowR_len (s : List Nat) {i : Nat} (h : i < 4) : (rowR s i).length = 4 := by
  unfold rowR
  rw [List.length_take, List.length_drop, subS, g16_len]
  omega
theorem rowT_lt (r : Nat) (s : List Nat) (i : Nat) : ∀ x ∈ rowT r s i, x < 256 := by
  unfold rowT
  split
  · exact mixN_lt (rowR_lt s i)
  · exact rowR_lt s i
theorem rowT_len (r : Nat) (s : List Nat) {i : Nat} (h : i < 4) : (rowT r s i).length = 4 := by
  unfold rowT
  split
  · exact mixN_len _
  · exact rowR_len s h
theorem rnd_len (key : List Nat) (r : Nat) (s : List Nat) : (rnd key r s).length = 16 := g16_len _
theorem rnd_lt {key : List Nat} (hk : ∀ x ∈ key, x < 256) (r : Nat) (s : List Nat) : ∀ x ∈ rnd key r s, x < 256 :=
  g16_lt fun j => xor8 (getD_lt0 (by decide) _ (rowT_lt r s _)) (getD_lt0 (by decide) _ (WK_lt hk))
theorem addK_lt {key b : List Nat} (hk : ∀ x ∈ key, x < 256) (hb : ∀ x ∈ b, x < 256) : ∀ x ∈ addK key b, x < 256 :=
  g16_lt fun j => xor8 (getD_lt0 (by decide) _ hb) (getD_lt0 (by decide) _ (WK_lt hk))
theorem rnds_lt {key b : List Nat} (hk : ∀ x ∈ key, x < 256) (hb : ∀ x ∈ b, x < 256) : ∀ r, ∀ x ∈ rnds key b r, x < 256
  | 0 => by rw [rnds]; exact addK_lt hk hb
  | r + 1 => by rw [rnds]; exact rnd_lt hk _ _
theorem d4 {i k : Nat} (h : k < 4) : (4 * i + k) / 4 = i ∧ (4 * i + k) % 4 = k := by omega
theorem subS_get (s : List Nat) {i k : Nat} (hi : i < 4) (hk : k < 4) : (subS s).getD (4 * i + k) 0 = rowS s i k := by
  unfold subS
  rw [g16_get _ (by omega), (d4 hk).1, (d4 hk).2]
theorem rnd_get (key : List Nat) (r : Nat) (s : List Nat) {i k : Nat} (hi : i < 4) (hk : k < 4) : (rnd key r s).getD (4 * i + k) 0 = (rowT r s i).getD k 0 ^^^ (WK key).getD (16 * r + (4 * i + k)) 0 := by
  unfold rnd
  rw [g16_get _ (by omega), (d4 hk).1, (d4 hk).2]
theorem addK_get (key b : List Nat) {i k : Nat} (hi : i < 4) (hk : k < 4) : (addK key b).getD (4 * i + k) 0 = b.getD (4 * i + k) 0 ^^^ (WK key).getD (4 * i + k) 0 := by
  unfold addK
  rw [g16_get _ (by omega)]
theorem rowR_get (s : List Nat) {i k : Nat} (hk : k < 4) : (rowR s i).getD k 0 = (subS s).getD (4 * i + k) 0 := by
  unfold rowR
  rw [List.getD_eq_getElem?_getD, List.getD_eq_getElem?_getD, List.getElem?_take, if_pos hk, List.getElem?_drop]
/-- row i being filled with what is substituted -/
def midA (L S : List Nat) (i : Nat) : List Nat := L.take (4 * i) ++ S.drop (4 * i)
theorem midA_len {L S : List Nat} (hL : L.length = 16) (hS : S.length = 16) {i : Nat} (hi : i ≤ 4) : (midA L S i).length = 16 := by
  unfold midA
  rw [List.length_append, List.length_take, List.length_drop]
  omega
theorem midA_get {L S : List Nat} (hL : L.length = 16) {i k : Nat} (hi : i < 4) (_hk : k < 4) : (midA L S i).getD (4 * i + k) 0 = S.getD (4 * i + k) 0 := by
  unfold midA
  rw [getD_right k (by rw [List.length_take]; omega), List.getD_eq_getElem?_getD, List.getElem?_drop, ← List.getD_eq_getElem?_getD]
theorem fl_midA {L S : List Nat} (hL : L.length = 16) (hS : S.length = 16) {i : Nat} (hi : i ≤ 4) : fl (midA L S i) (4 * i) = fl L (4 * i) := by
  unfold fl
  rw [midA_len hL hS hi, hL]
  congr 1
  unfold midA
  rw [List.take_append_of_le_length (by rw [List.length_take]; omega), List.take_take, Nat.min_self]
/-- row i done but for the key -/
def midB (L T : List Nat) (i : Nat) : List Nat := L.take (4 * i) ++ (T ++ List.replicate (12 - 4 * i) 0)
theorem midB_len {L T : List Nat} (hL : L.length = 16) (hT : T.length = 4) {i : Nat} (hi : i < 4) : (midB L T i).length = 16 := by
  unfold midB
  simp only [List.length_append, List.length_take, List.length_replicate]
  omega
theorem midB_get {L T : List Nat} (hL : L.length = 16) (hT : T.length = 4) {i k : Nat} (hi : i < 4) (hk : k < 4) : (midB L T i).getD (4 * i + k) 0 = T.getD k 0 := by
  unfold midB
  rw [getD_right k (by rw [List.length_take]; omega), getD_left (by omega)]
theorem flA_row {L s : List Nat} (hL : L.length = 16) {i : Nat} (hi : i < 4) : fl (midA L (subS s) i) (4 * i + 4) = midB L (rowR s i) i := by
  unfold fl midB rowR
  rw [midA_len (S := subS s) hL (g16_len _) (by omega), show 16 - (4 * i + 4) = 12 - 4 * i from by omega, ← List.append_assoc]
  congr 1
  unfold midA
  rw [List.take_append, List.take_of_length_le (by rw [List.length_take]; omega)]
  congr 2
  rw [List.length_take]
  omega
theorem midB_row {L T : List Nat} (hL : L.length = 16) (hT : T.length = 4) {i : Nat} (hi : i < 4) (T' : List Nat) (hT' : T'.length = 4) : splice (midB L T i) (4 * i) T' = midB L T' i := by
  have e1 : (L.take (4 * i)).length = 4 * i := by rw [List.length_take]; omega
  unfold splice midB
  rw [List.take_append_of_le_length (by omega), List.take_of_length_le (by omega), hT']
  congr 2
  rw [show 4 * i + 4 = (L.take (4 * i)).length + T.length from by omega, ← List.drop_drop, List.drop_left, List.drop_left]
theorem fld_midB {L T : List Nat} (hL : L.length = 16) {i : Nat} (hi : i < 4) : fld (fl L (4 * i + 4)) (midB L T i) (4 * i) = midB L T i := by
  have e1 : (L.take (4 * i)).length = 4 * i := by rw [List.length_take]; omega
  unfold fld fl midB
  rw [List.drop_append_of_le_length (by omega), List.drop_of_length_le (by omega), List.nil_append, List.take_append_of_le_length (by rw [List.length_take]; omega), List.take_take]
  congr 2
  omega
theorem fld_all4 {L T : List Nat} (hL : L.length = 16) (hT : T.length = 4) {i : Nat} (hi : i < 4) : fld (fl L (4 * i + 4)) (midB L T i) (4 * i + 4) = fl L (4 * i + 4) := by
  have e1 : (L.take (4 * i)).length = 4 * i := by rw [List.length_take]; omega
  unfold fld
  have h1 : (fl L (4 * i + 4)).take (4 * i + 4) = L.take (4 * i + 4) := by
    unfold fl
    rw [List.take_append_of_le_length (by rw [List.length_take]; omega), List.take_take, Nat.min_self]
  have h2 : (midB L T i).drop (4 * i + 4) = List.replicate (12 - 4 * i) 0 := by
    unfold midB
    rw [show 4 * i + 4 = (L.take (4 * i)).length + T.length from by omega, ← List.drop_drop, List.drop_left, List.drop_left]
  rw [h1, h2]
  unfold fl
  rw [hL, show 16 - (4 * i + 4) = 12 - 4 * i from by omega]
theorem flL_get {L : List Nat} (hL : L.length = 16) {i k : Nat} (hi : i < 4) (hk : k < 4) : (fl L (4 * i + 4)).getD (4 * i + k) 0 = L.getD (4 * i + k) 0 := by
  unfold fl
  rw [getD_left (by rw [List.length_take]; omega), List.getD_eq_getElem?_getD, List.getElem?_take, if_pos (by omega), ← List.getD_eq_getElem?_getD]
theorem fl_splice {s : List Nat} (h : s.length = 16) {i : Nat} (hi : i < 4) : splice (fl s (4 * i)) (4 * i) ((s.drop (4 * i)).take 4) = fl s (4 * (i + 1)) := by
  have e0 : (s.take (4 * i)).length = 4 * i := by rw [List.length_take]; omega
  have e1 : ((s.drop (4 * i)).take 4).length = 4 := by rw [List.length_take, List.length_drop]; omega
  unfold splice fl
  rw [e1, h, List.take_append_of_le_length (by omega), List.take_of_length_le (by omega), show 4 * (i + 1) = 4 * i + 4 from by omega, List.take_add, List.append_assoc]
  congr 2
  rw [List.drop_append, List.drop_of_length_le (by omega), List.nil_append, e0, List.drop_replicate]
  congr 1
  omega
end Go.Proofs.Ytblnclooobggnaa.A
