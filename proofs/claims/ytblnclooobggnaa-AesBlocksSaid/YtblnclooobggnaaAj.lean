/-
  aes: what the fixed call gives, in plain Lean.
-/
import Derived.Test.YtblnclooobggnaaAh
namespace Go.Proofs.Ytblnclooobggnaa.A
open Go.RowKit Go.Proofs.Ytblnclooobggnaa.L Go.Proofs.Ytblnclooobggnaa.N

def KA : List Nat := List.range 16
def BA : List Nat := (List.range 16).map (17 * ·)
theorem KA_len : KA.length = 16 := by decide
theorem BA_len : BA.length = 16 := by decide
theorem KA_lt : ∀ x ∈ KA, x < 256 := by decide
theorem BA_lt : ∀ x ∈ BA, x < 256 := by decide
theorem KA_get {i : Nat} (h : i < 16) : KA.getD i 0 = i := by
  unfold KA
  rw [List.getD_eq_getElem?_getD, List.getElem?_range h]
  rfl
theorem BA_get {i : Nat} (h : i < 16) : BA.getD i 0 = 17 * i := by
  unfold BA
  rw [List.getD_eq_getElem?_getD, List.getElem?_map, List.getElem?_range h]
  rfl
theorem box0 : boxT.getD 0 0 = 99 := by decide +kernel
theorem box83 : boxT.getD 83 0 = 237 := by decide +kernel
theorem take4 {l : List Nat} {a b c d : Nat} (h : l.take 4 = [a, b, c, d]) : l.getD 0 0 = a ∧ l.getD 1 0 = b ∧ l.getD 2 0 = c ∧ l.getD 3 0 = d := by
  match l, h with
  | [_, _, _, _], h => simp_all
  | _ :: _ :: _ :: _ :: _ :: _, h => simp_all
  | [], h => simp at h
  | [_], h => simp at h
  | [_, _], h => simp at h
  | [_, _, _], h => simp at h
theorem turnP_len (key b : List Nat) : (turnP key b).length = 16 := rnds_len key b 10
theorem fixed_take : (turnP KA BA).take 4 = [0x69, 0xC4, 0xE0, 0xD8] := by decide +kernel
end Go.Proofs.Ytblnclooobggnaa.A
