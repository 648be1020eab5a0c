/-
  aes: rows of rows of ints, in memory (rows of one's own behind a row of slices).
-/
import Derived.Test.YtblnclooobggnaaAr
namespace Go.Proofs.Ytblnclooobggnaa.A
open Go.RowKit Go.Proofs.Ytblnclooobggnaa.L Go.Proofs.Ytblnclooobggnaa.N Go.Proofs.YtblnclooobggnaaW.PrintWords

/-- what these slices of ints read as; each lies in a row of ints -/
def PI (w : World) (ps : List (Option Addr × Nat × Nat)) (L : List (List Nat)) : Prop := ps.length = L.length ∧ ∀ j, j < L.length → (ps.getD j (none, 0, 0)).2.1 = (L.getD j []).length ∧ (Kd.int .i64).C w (ps.getD j (none, 0, 0)).1 (L.getD j []).length (nat (L.getD j [])) ∧ (∀ x ∈ L.getD j [], x < 256) ∧ (L.getD j []).length ≤ (ps.getD j (none, 0, 0)).2.2 ∧ Ty w tI (ps.getD j (none, 0, 0)).1
theorem PI.below {w w1 : World} {ps : List (Option Addr × Nat × Nat)} {L : List (List Nat)} (h : PI w ps L) (hb : Below w.heap.size w w1) : PI w1 ps L :=
  ⟨h.1, fun j hj => ⟨(h.2 j hj).1, Kd.C_below (h.2 j hj).2.1 hb, (h.2 j hj).2.2.1, (h.2 j hj).2.2.2.1, (h.2 j hj).2.2.2.2.below hb⟩⟩
theorem PI.nil (w : World) : PI w [] [] := ⟨rfl, fun j hj => absurd hj (by simp)⟩
/-- an object of another type is written: the rows stay -/
theorem PI.ty {w w1 : World} {ps : List (Option Addr × Nat × Nat)} {L : List (List Nat)} (h : PI w ps L) {b : Nat} {t : TypeId} {cs : Array Value} {fr : Nat × Nat} (hb : w.heap[b]? = some (.cells cs t fr)) (hne : tI ≠ t) (hg : w.grownBy w1 (some b)) : PI w1 ps L :=
  ⟨h.1, fun j hj => ⟨(h.2 j hj).1, C_ty (h.2 j hj).2.1 (h.2 j hj).2.2.2.2 hb hne hg, (h.2 j hj).2.2.1, (h.2 j hj).2.2.2.1, (h.2 j hj).2.2.2.2.move (grown_keep hg (h.2 j hj).2.2.2.2 hb hne)⟩⟩
theorem PI.snoc {w : World} {ps : List (Option Addr × Nat × Nat)} {L : List (List Nat)} {A : Option Addr} {c : Nat} {l : List Nat} (h : PI w ps L) (hC : (Kd.int .i64).C w A l.length (nat l)) (h8 : ∀ x ∈ l, x < 256) (hc : l.length ≤ c) (hT : Ty w tI A) : PI w (ps ++ [(A, l.length, c)]) (L ++ [l]) := by
  refine ⟨by simp [h.1], fun j hj => ?_⟩
  by_cases hl : j < L.length
  · have e1 : (ps ++ [(A, l.length, c)]).getD j (none, 0, 0) = ps.getD j (none, 0, 0) := by rw [List.getD_eq_getElem?_getD, List.getElem?_append_left (by rw [h.1]; exact hl), ← List.getD_eq_getElem?_getD]
    have e2 : (L ++ [l]).getD j [] = L.getD j [] := by rw [List.getD_eq_getElem?_getD, List.getElem?_append_left hl, ← List.getD_eq_getElem?_getD]
    rw [e1, e2]
    exact h.2 j hl
  · have hj' : j = L.length := by simp at hj; omega
    subst hj'
    have e1 : (ps ++ [(A, l.length, c)]).getD L.length (none, 0, 0) = (A, l.length, c) := by rw [List.getD_eq_getElem?_getD, ← h.1, List.getElem?_append_right (Nat.le_refl _)]; simp
    have e2 : (L ++ [l]).getD L.length [] = l := by rw [List.getD_eq_getElem?_getD, List.getElem?_append_right (Nat.le_refl _)]; simp
    rw [e1, e2]
    exact ⟨rfl, hC, h8, hc, hT⟩
end Go.Proofs.Ytblnclooobggnaa.A
