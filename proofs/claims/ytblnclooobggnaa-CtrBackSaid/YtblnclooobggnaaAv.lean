/-
  aes: rows of four, in plain Lean.
-/
import Derived.Test.YtblnclooobggnaaAh
namespace Go.Proofs.Ytblnclooobggnaa.A
open Go.RowKit Go.Proofs.Ytblnclooobggnaa.L Go.Proofs.Ytblnclooobggnaa.N

/-- a number of a row of four is one of all numbers -/
theorem flat4 : ∀ (L : List (List Nat)), (∀ r ∈ L, r.length = 4) → ∀ i k, i < L.length → k < 4 → (L.getD i []).getD k 0 = L.flatten.getD (4 * i + k) 0
  | [], _, i, k, hi, _ => absurd hi (by simp)
  | r :: L, h, 0, k, _, hk => by
    have hr : r.length = 4 := h r (by simp)
    rw [List.flatten_cons, Nat.mul_zero, Nat.zero_add, getD_left (by omega)]
    rfl
  | r :: L, h, i + 1, k, hi, hk => by
    have hr : r.length = 4 := h r (by simp)
    rw [List.flatten_cons, show 4 * (i + 1) + k = 4 + (4 * i + k) from by omega, getD_right _ hr, ← flat4 L (fun r hr => h r (by simp [hr])) i k (by simpa using hi) hk]
    rfl
theorem flat4_len : ∀ (L : List (List Nat)), (∀ r ∈ L, r.length = 4) → L.flatten.length = 4 * L.length
  | [], _ => rfl
  | r :: L, h => by
    rw [List.flatten_cons, List.length_append, h r (by simp), flat4_len L (fun r hr => h r (by simp [hr])), List.length_cons]
    omega
theorem flat4_snoc (L : List (List Nat)) (r : List Nat) : (L ++ [r]).flatten = L.flatten ++ r := by simp
/-- the words' rows so far: what the document's Words has after n rounds -/
structure WR (key : List Nat) (n : Nat) (L : List (List Nat)) : Prop where
  four : ∀ r ∈ L, r.length = 4
  all : L.flatten = WS key n
theorem WR.step {key : List Nat} {n : Nat} {L : List (List Nat)} (h : WR key n L) : WR key (n + 1) (L ++ [nxtW (WS key n) (n + 4)]) :=
  ⟨fun r hr => by
    rcases List.mem_append.1 hr with hr | hr
    · exact h.four r hr
    · rw [List.mem_singleton.1 hr, nxtW_len], by rw [flat4_snoc, h.all, WS_succ]⟩
theorem WR.count {key : List Nat} {n : Nat} {L : List (List Nat)} (h : WR key n L) (hk : key.length = 16) : L.length = n + 4 := by
  have e1 := flat4_len L h.four
  rw [h.all, WS_len hk] at e1
  omega
theorem WR.get {key : List Nat} {n : Nat} {L : List (List Nat)} (h : WR key n L) (hk : key.length = 16) {i k : Nat} (hi : i < n + 4) (h4 : k < 4) : (L.getD i []).getD k 0 = (WS key n).getD (4 * i + k) 0 := by
  rw [flat4 L h.four i k (by rw [h.count hk]; exact hi) h4, h.all]
end Go.Proofs.Ytblnclooobggnaa.A
