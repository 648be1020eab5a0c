/-
  bitmap: all, Right.
-/
import Derived.Test.YtigbmbmngkmdlaaL
import Derived.Test.YtigbmbmngkmdlaaQ
import Derived.Test.YtigbmbmngkmdlaaBt
namespace Go.Proofs.Ytigbmbmngkmdlaa.Bm
open Go.RowKit Go.Proofs.Ytigbmbmngkmdlaa.L Go.Proofs.Ytigbmbmngkmdlaa.Bt Go.Proofs.YtigbmbmngkmdlaaW.PrintWords

/-- a map in memory -/
def At (b : Nat) (n x : Int) (w : World) : Prop := w.heap[b]? = some (.cells #[.int .i64 n, .int .u64 x] 24 (0, 0))
theorem At.new (w : World) (n x : Int) : At w.heap.size n x (w.alloc (.cells #[.int .i64 n, .int .u64 x] 24)) := heap_alloc_new w _
section
variable {b : Nat} {n x : Int} {w w' : World}
theorem At.lt (h : At b n x w) : b < w.heap.size := (Array.getElem?_eq_some_iff.1 h).1
theorem At.below (h : At b n x w) (hB : Below w.heap.size w w') : At b n x w' := (hB.block b h.lt).trans h
theorem At.below' {B : Nat} (h : At b n x w) (hb : b < B) (hB : Below B w w') : At b n x w' := (hB.block b hb).trans h
theorem At.c0 (h : At b n x w) : w.cell? ⟨b, 0, none⟩ = some (.int .i64 n) := by
  simp [World.cell?, show w.heap[b]? = _ from h]
theorem At.c1 (h : At b n x w) : w.cell? ⟨b, 1, none⟩ = some (.int .u64 x) := by
  simp [World.cell?, show w.heap[b]? = _ from h]
theorem At.set (h : At b n x w) (y : Int) : At b n y (w.setCell ⟨b, 1, none⟩ (.int .u64 y)) := blk_set h 1 _
theorem At.far (h : At b n x w) {p : Addr} (hp : b ≠ p.block) (u : Value) : At b n x (w.setCell p u) := blk_far h hp u
theorem At.drew (h : At b n x w) : At b n x w.drew := h
theorem At.fr (h : At b n x w) (i : Nat) : w.frozen? ⟨b, i, none⟩ = false := blk_frozen h i
end

set_option maxHeartbeats 400000 in
theorem all_any (n : Int) (x : Nat) (w : World) (h0 : 0 ≤ n) (h1 : n ≤ 64) : Calls Try.prog 63 #[.agg #[.int .i64 n, .int .u64 x]] w fun e w' => e = .returned (.int .u64 ((2 ^ n.toNat - 1 : Nat) : Int)) ∧ Below w.heap.size w w' := by
  by_cases h : n = 64
  · subst h
    go_enter Try.func63, Try.ntmps63
    go_wp2
    go_ret
    exact ⟨rfl, (Below.refl _ _).alloc (Nat.le_refl _) _⟩
  · have t : (n == 64) = false := by simpa using h
    go_enter Try.func63, Try.ntmps63
    go_wp2
    obtain ⟨k, rfl⟩ := Int.eq_ofNat_of_zero_le h0
    have hpos := Nat.two_pow_pos k
    have hlt : 2 ^ k < 2 ^ 64 := Nat.pow_lt_pow_right (by decide) (by omega)
    rw [Int.toNat_natCast, shl_u64 (by omega), show ((2 ^ k : Nat) : Int) - 1 = ((2 ^ k - 1 : Nat) : Int) from by omega, wraps_u64 _ (by omega) (by omega)]
    go_ret
    exact ⟨rfl, (Below.refl _ _).alloc (Nat.le_refl _) _⟩

/-- may a map be? -/
def rgt (n : Int) (x : Nat) : Bool := decide (0 ≤ n) && decide (n ≤ 64) && decide (x < 2 ^ n.toNat)

set_option maxHeartbeats 400000 in
theorem right_any (n : Int) (x : Nat) (w : World) (h1 : x < 2 ^ 64) : Calls Try.prog 43 #[.agg #[.int .i64 n, .int .u64 x]] w fun e w' => e = .returned (.bool (rgt n x)) ∧ Below w.heap.size w w' := by
  have hN : (decide (0 ≤ n) = false) ∨ (decide (0 ≤ n) = true ∧ decide (n ≤ 64) = false) ∨ (decide (0 ≤ n) = true ∧ decide (n ≤ 64) = true) := by
    cases decide (0 ≤ n) <;> cases decide (n ≤ 64) <;> simp
  have hw := At.new w n x
  have hbel := (Below.refl w.heap.size w).alloc (Nat.le_refl _) (.cells #[.int .i64 n, .int .u64 x] 24)
  obtain ⟨wb, hwb⟩ : ∃ wb, wb = w.alloc (.cells #[.int .i64 n, .int .u64 x] 24) := ⟨_, rfl⟩
  rw [← hwb] at hw hbel
  have HB := Lib.hid hbel
  have HW := Lib.hid hw
  have k0 : ∀ m : Q.GW wb.drew wb.heap.size none, m.w.cell? ⟨w.heap.size, 0, none⟩ = some (.int .i64 n) := fun m => pw_cell_below (stay1 (stay0 wb) m.below) HW.out.c0
  have k1 : ∀ m : Q.GW wb.drew wb.heap.size none, m.w.cell? ⟨w.heap.size, 1, none⟩ = some (.int .u64 x) := fun m => pw_cell_below (stay1 (stay0 wb) m.below) HW.out.c1
  clear hw hbel
  rcases hN with h2 | ⟨h2, h3⟩ | ⟨h2, h3⟩
  case inr.inr =>
    have hA := fun w => all_any n x w (of_decide_eq_true h2) (of_decide_eq_true h3)
    have hk : n.toNat ≤ 64 := by have := of_decide_eq_true h3; omega
    have hr : rgt n x = decide (x < 2 ^ n.toNat) := by simp [rgt, h2, h3]
    have ha := andn_u64 x n.toNat h1 hk
    have hz := andn_zero x n.toNat
    rw [← hr] at hz
    have HA := Lib.hid hA
    generalize ((2 ^ n.toNat - 1 : Nat) : Int) = pw at HA ha
    generalize ((x / 2 ^ n.toNat * 2 ^ n.toNat : Nat) : Int) = y at ha hz
    generalize rgt n x = R at hz
    clear hA hk hr h1
    go_enter Try.func43, Try.ntmps43
    go_wp2_with fail
    rw [← hwb]
    clear hwb
    refine Q.wp_region_segs none [([0, 1, 2, 3, 4, 5, 6, 7, 8, 9, 10, 11], some 12), ([13, 14, 15, 16], none)] (by kernel_rfl) (by kernel_rfl) (by kernel_rfl) (by kernel_rfl) ?_
    dsimp only [Q.wpSegs, Q.picks, Q.pick]
    repeat (go_big_quiet_step (fail))
    refine wpQuiet_nil ?_
    go_wp2_with (go_at_call 63; refine (HA.out _).mono ?_; rintro e w3 ⟨rfl, hb3⟩; (have HB3 := Lib.hid hb3); clear hb3)
    refine Q.ev_done HB3.out (Nat.le_refl _) ?_
    repeat (go_big_quiet_step (fail))
    refine wpQuiet_nil ?_
    refine NoPanic.normal ?_
    go_wp2
    go_ret
    exact ⟨rfl, stay1 (HB.out.drew) HB3.out⟩
  all_goals
    have hr : rgt n x = false := by simp [rgt, *]
    rw [hr]
    clear hr
    go_enter Try.func43, Try.ntmps43
    go_wp2_with fail
    rw [← hwb]
    clear hwb
    refine Q.wp_region_segs none [([0, 1, 2, 3, 4, 5, 6, 7, 8, 9, 10, 11], some 12), ([13, 14, 15, 16], none)] (by kernel_rfl) (by kernel_rfl) (by kernel_rfl) (by kernel_rfl) ?_
    dsimp only [Q.wpSegs, Q.picks, Q.pick]
    repeat (go_big_quiet_step (fail))
    refine wpQuiet_nil ?_
    go_wp2_with fail
    refine Q.ev_done (Below.refl _ _) (Nat.le_refl _) ?_
    repeat (go_big_quiet_step (fail))
    refine wpQuiet_nil ?_
    refine NoPanic.normal ?_
    go_wp2
    go_ret
    exact ⟨rfl, HB.out.drew⟩
end Go.Proofs.Ytigbmbmngkmdlaa.Bm
