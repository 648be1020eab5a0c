/-
  frag: the document's Right and Write.
-/
import Derived.Test.YthgdbdhonhkkpaaGj
namespace Go.Proofs.Ythgdbdhonhkkpaa.Fg
open Go.RowKit Go.Proofs.Ythgdbdhonhkkpaa.L Go.Proofs.Ythgdbdhonhkkpaa.V Go.Proofs.Ythgdbdhonhkkpaa.N Go.Proofs.YthgdbdhonhkkpaaW.PrintWords

set_option maxRecDepth 100000 in
set_option maxHeartbeats 1600000 in
theorem rright_any (id ix ct : Int) (A : Option Addr) (n c : Nat) (w : World) (hid : 0 ≤ id) : Calls Try.prog 28 #[.agg #[.int .u64 id, .int .i64 ix, .int .i64 ct, .slice A n c]] w fun e w' => e = .returned (.bool (rightZ id ix ct n)) ∧ Below w.heap.size w w' := by
  by_cases hg0 : id = 0
  · have He := Lib.hid (show rightZ id ix ct n = false from decide_eq_false (by omega))
    have t0 : (id == 0) = true := by rw [beq_iff_eq]; omega
    clear hg0
    go_enter Try.func28, Try.ntmps28
    go_wp2_with fail
    go_ret
    exact ⟨by rw [He.out]; rfl, (Below.refl _ _).alloc (Nat.le_refl _) _⟩
  have t0 : (id == 0) = false := by rw [beq_eq_false_iff_ne]; omega
  by_cases hg1 : 4611686018427387903 < id
  · have He := Lib.hid (show rightZ id ix ct n = false from decide_eq_false (by omega))
    have ta : decide (4611686018427387903 < id) = true := decide_eq_true (by omega)
    clear hg0 hg1
    go_enter Try.func28, Try.ntmps28
    go_wp2_with fail
    go_ret
    exact ⟨by rw [He.out]; rfl, (Below.refl _ _).alloc (Nat.le_refl _) _⟩
  have ta : decide (4611686018427387903 < id) = false := decide_eq_false (by omega)
  by_cases hg2 : ct < 1
  · have He := Lib.hid (show rightZ id ix ct n = false from decide_eq_false (by omega))
    have t1 : decide (ct < 1) = true := decide_eq_true (by omega)
    clear hg0 hg1 hg2
    go_enter Try.func28, Try.ntmps28
    go_wp2_with fail
    go_ret
    exact ⟨by rw [He.out]; rfl, (Below.refl _ _).alloc (Nat.le_refl _) _⟩
  have t1 : decide (ct < 1) = false := decide_eq_false (by omega)
  by_cases hg3 : 64 < ct
  · have He := Lib.hid (show rightZ id ix ct n = false from decide_eq_false (by omega))
    have t2 : decide (64 < ct) = true := decide_eq_true (by omega)
    clear hg0 hg1 hg2 hg3
    go_enter Try.func28, Try.ntmps28
    go_wp2_with fail
    go_ret
    exact ⟨by rw [He.out]; rfl, (Below.refl _ _).alloc (Nat.le_refl _) _⟩
  have t2 : decide (64 < ct) = false := decide_eq_false (by omega)
  by_cases hg4 : ix < 0
  · have He := Lib.hid (show rightZ id ix ct n = false from decide_eq_false (by omega))
    have t3 : decide (ix < 0) = true := decide_eq_true (by omega)
    clear hg0 hg1 hg2 hg3 hg4
    go_enter Try.func28, Try.ntmps28
    go_wp2_with fail
    go_ret
    exact ⟨by rw [He.out]; rfl, (Below.refl _ _).alloc (Nat.le_refl _) _⟩
  have t3 : decide (ix < 0) = false := decide_eq_false (by omega)
  by_cases hg5 : ct ≤ ix
  · have He := Lib.hid (show rightZ id ix ct n = false from decide_eq_false (by omega))
    have t4 : decide (ct ≤ ix) = true := decide_eq_true (by omega)
    clear hg0 hg1 hg2 hg3 hg4 hg5
    go_enter Try.func28, Try.ntmps28
    go_wp2_with fail
    go_ret
    exact ⟨by rw [He.out]; rfl, (Below.refl _ _).alloc (Nat.le_refl _) _⟩
  have t4 : decide (ct ≤ ix) = false := decide_eq_false (by omega)
  have z1 : 1 ≤ ct := by omega
  have z2 : ct ≤ 64 := by omega
  by_cases h1 : n = 480
  · subst h1
    have He := Lib.hid (show rightZ id ix ct 480 = true from decide_eq_true (by omega))
    clear hg0 hg1 hg2 hg3 hg4 hg5
    go_enter Try.func28, Try.ntmps28
    go_wp2_with fail
    go_ret
    exact ⟨by rw [He.out]; rfl, (Below.refl _ _).alloc (Nat.le_refl _) _⟩
  have t5 : ((n : Int) == 480) = false := by rw [beq_eq_false_iff_ne]; omega
  have t5n : (n == 480) = false := by rw [beq_eq_false_iff_ne]; omega
  by_cases h2 : 480 < n
  · have He := Lib.hid (show rightZ id ix ct n = false from decide_eq_false (by omega))
    have t6 : decide ((n : Int) < 480) = false := decide_eq_false (by omega)
    have t6n : decide (n < 480) = false := decide_eq_false (by omega)
    clear h1 h2
    clear hg0 hg1 hg2 hg3 hg4 hg5
    go_enter Try.func28, Try.ntmps28
    go_wp2_with fail
    go_ret
    exact ⟨by rw [He.out]; rfl, (Below.refl _ _).alloc (Nat.le_refl _) _⟩
  have t6 : decide ((n : Int) < 480) = true := decide_eq_true (by omega)
  have t6n : decide (n < 480) = true := decide_eq_true (by omega)
  by_cases h3 : ix = ct - 1
  · have t7 : (ix == ct - 1) = true := by rw [beq_iff_eq]; exact h3
    by_cases h4 : 0 < n
    · have He := Lib.hid (show rightZ id ix ct n = true from decide_eq_true (by omega))
      have t8 : decide ((0 : Int) < (n : Int)) = true := decide_eq_true (by omega)
      have t8n : decide (0 < n) = true := decide_eq_true h4
      clear h1 h2 h3 h4
      clear hg0 hg1 hg2 hg3 hg4 hg5
      go_enter Try.func28, Try.ntmps28
      go_wp2_with fail
      go_ret
      exact ⟨by rw [He.out]; rfl, (Below.refl _ _).alloc (Nat.le_refl _) _⟩
    · obtain rfl : n = 0 := by omega
      have He := Lib.hid (show rightZ id ix ct 0 = (ct == 1) from by unfold rightZ; rw [show (ct == 1) = decide (ct = 1) from rfl, decide_eq_decide]; omega)
      clear h1 h2 h3 h4 t5 t5n t6 t6n
      clear hg0 hg1 hg2 hg3 hg4 hg5
      go_enter Try.func28, Try.ntmps28
      go_wp2_with fail
      go_ret
      exact ⟨by rw [He.out]; rfl, (Below.refl _ _).alloc (Nat.le_refl _) _⟩
  · have t7 : (ix == ct - 1) = false := by rw [beq_eq_false_iff_ne]; exact h3
    have He := Lib.hid (show rightZ id ix ct n = false from decide_eq_false (by omega))
    clear h1 h2 h3
    clear hg0 hg1 hg2 hg3 hg4 hg5
    go_enter Try.func28, Try.ntmps28
    go_wp2_with fail
    go_ret
    exact ⟨by rw [He.out]; rfl, (Below.refl _ _).alloc (Nat.le_refl _) _⟩
end Go.Proofs.Ythgdbdhonhkkpaa.Fg
