/-
  bitmap: New, Has, With.
-/
import Derived.Test.YtigbmbmngkmdlaaBa
import Derived.StillTailTactics
namespace Go.Proofs.Ytigbmbmngkmdlaa.Bm
open Go.RowKit Go.Proofs.Ytigbmbmngkmdlaa.L Go.Proofs.Ytigbmbmngkmdlaa.Bt Go.Proofs.YtigbmbmngkmdlaaW.PrintWords

def mapV (r : Int × Nat × Int) : Value := .tuple #[.agg #[.int .i64 r.1, .int .u64 r.2.1], .int .i64 r.2.2]
def newR (n : Int) : Int × Nat × Int := if decide (n < 0) then (0, 0, 1) else if decide (64 < n) then (0, 0, 1) else (n, 0, 0)

set_option maxHeartbeats 400000 in
set_option maxRecDepth 100000 in
theorem new_any (n : Int) (w : World) : Calls Try.prog 44 #[.int .i64 n] w fun e w' => e = .returned (mapV (newR n)) ∧ Below w.heap.size w w' := by
  unfold newR
  cases h1 : decide (n < 0)
  case false =>
    cases h2 : decide (64 < n)
    all_goals
      have hu := Try.underlying24
      go_enter Try.func44, Try.ntmps44
      go_wp2
      exact bodyPost_ret (v := mapV _) (by simp [results, Try.results44, go_sem, mapV]) rfl ⟨rfl, (Below.refl _ _).alloc (Nat.le_refl _) _⟩
  case true =>
    have hu := Try.underlying24
    go_enter Try.func44, Try.ntmps44
    go_wp2
    exact bodyPost_ret (v := mapV _) (by simp [results, Try.results44, go_sem, mapV]) rfl ⟨rfl, (Below.refl _ _).alloc (Nat.le_refl _) _⟩

/-- is a chunk there? -/
def hasB (n : Int) (x : Nat) (i : Int) : Bool := rgt n x && decide (0 ≤ i) && decide (i < n) && x.testBit i.toNat
theorem three (a b c : Bool) : a = false ∨ (a = true ∧ b = false) ∨ (a = true ∧ b = true ∧ c = false) ∨ (a = true ∧ b = true ∧ c = true) := by cases a <;> cases b <;> cases c <;> simp
set_option maxHeartbeats 400000 in
theorem has_any (n : Int) (x : Nat) (i : Int) (w : World) (hx : x < 2 ^ 64) : Calls Try.prog 50 #[.agg #[.int .i64 n, .int .u64 x], .int .i64 i] w fun e w' => e = .returned (.bool (hasB n x i)) ∧ Below w.heap.size w w' := by
  have HR := Lib.hid (fun w => right_any n x w hx)
  have hw := At.new w n x
  have hbel := (Below.refl w.heap.size w).alloc (Nat.le_refl _) (.cells #[.int .i64 n, .int .u64 x] 24)
  obtain ⟨wb, hwb⟩ : ∃ wb, wb = w.alloc (.cells #[.int .i64 n, .int .u64 x] 24) := ⟨_, rfl⟩
  rw [← hwb] at hw hbel
  have HB := Lib.hid hbel
  have HW := Lib.hid hw
  have k0 := hw.c0
  have k1 := hw.c1
  clear hw hbel
  unfold hasB
  rcases three (rgt n x) (decide (0 ≤ i)) (decide (i < n)) with h1 | ⟨h1, h2⟩ | ⟨h1, h2, h3⟩ | ⟨h1, h2, h3⟩
  case inr.inr.inr =>
    obtain ⟨j, rfl⟩ := Int.eq_ofNat_of_zero_le (of_decide_eq_true h2)
    have hnn : n ≤ 64 := by simp [rgt] at h1; omega
    rw [h1] at HR
    go_enter Try.func50, Try.ntmps50
    go_wp2_with fail
    rw [← hwb]
    clear hwb
    refine (HR.out _).mono ?_
    rintro e w1 ⟨rfl, hb1⟩
    have HB1 := Lib.hid hb1
    have q0 := (HW.out.below hb1).c0
    have q1 := (HW.out.below hb1).c1
    clear hb1
    have hj : j < 64 := by have := of_decide_eq_true h3; omega
    have hb := has_bit (j := j) hx
    clear hnn
    go_wp2
    go_ret
    exact ⟨by simp [*], stay1 HB.out HB1.out⟩
  all_goals
    rw [h1] at HR
    go_enter Try.func50, Try.ntmps50
    go_wp2_with fail
    rw [← hwb]
    clear hwb
    refine (HR.out _).mono ?_
    rintro e w1 ⟨rfl, hb1⟩
    have HB1 := Lib.hid hb1
    have q0 := (HW.out.below hb1).c0
    have q1 := (HW.out.below hb1).c1
    clear hb1
    go_wp2
    go_ret
    exact ⟨by simp [*], stay1 HB.out HB1.out⟩

def withR (n : Int) (x : Nat) (i : Int) : Int × Nat × Int :=
  if rgt n x then (if decide (i < 0) then (0, 0, 1) else if decide (n ≤ i) then (0, 0, 1) else (n, x ||| 2 ^ i.toNat, 0)) else (0, 0, 3)
set_option maxHeartbeats 400000 in
set_option maxRecDepth 100000 in
theorem with_any (n : Int) (x : Nat) (i : Int) (w : World) (hx : x < 2 ^ 64) : Calls Try.prog 47 #[.agg #[.int .i64 n, .int .u64 x], .int .i64 i] w fun e w' => e = .returned (mapV (withR n x i)) ∧ Below w.heap.size w w' := by
  have HR := Lib.hid (fun w => right_any n x w hx)
  obtain ⟨wc, hwc⟩ : ∃ wc, wc = (w.alloc (.cells #[.int .i64 n, .int .u64 x] 24)).alloc (.cells #[.int .i64 0, .int .u64 0] 24) := ⟨_, rfl⟩
  have hbel : Below w.heap.size w wc := by rw [hwc]; exact ((Below.refl _ _).alloc (Nat.le_refl _) _).alloc (by simp) _
  have hw : At w.heap.size n x wc := by rw [hwc]; exact (At.new w n x).below ((Below.refl _ _).alloc (Nat.le_refl _) _)
  have hr : At (w.heap.size + 1) 0 0 wc := by
    rw [hwc, show w.heap.size + 1 = (w.alloc (.cells #[.int .i64 n, .int .u64 x] 24)).heap.size from by simp]; exact At.new _ 0 0
  have HB := Lib.hid hbel
  have HW := Lib.hid hw
  have HWr := Lib.hid hr
  have hu := Try.underlying24
  clear hw hbel hr
  rcases three (rgt n x) (!decide (i < 0)) (!decide (n ≤ i)) with h1 | ⟨h1, h2⟩ | ⟨h1, h2, h3⟩ | ⟨h1, h2, h3⟩
  case inr.inr.inr =>
    simp only [Bool.not_eq_true'] at h2 h3
    obtain ⟨j, rfl⟩ := Int.eq_ofNat_of_zero_le (by simpa using h2)
    have hnn : n ≤ 64 := by simp [rgt] at h1; omega
    have hj : j < 64 := by have := of_decide_eq_false h3; omega
    rw [show withR n x j = (n, x ||| 2 ^ j, 0) from by simp only [withR, h1, h2, h3, if_true, Bool.false_eq_true, if_false, Int.toNat_natCast]]
    rw [h1] at HR
    go_enter Try.func47, Try.ntmps47
    go_wp2_with fail
    rw [← hwc]
    clear hwc
    refine (HR.out _).mono ?_
    rintro e w1 ⟨rfl, hb1⟩
    have HB1 := Lib.hid (stay1 HB.out hb1)
    have HW1 := Lib.hid (HW.out.below hb1)
    have HWr1 := Lib.hid (HWr.out.below hb1)
    have q0 := HW1.out.c0
    have q1 := HW1.out.c1
    have f0 := HW1.out.fr 0
    have f1 := HW1.out.fr 1
    have r0 := HWr1.out.c0
    have r1 := HWr1.out.c1
    have g0 := HWr1.out.fr 0
    have g1 := HWr1.out.fr 1
    clear hb1
    go_wp2_with fail
    go_still_tail 6, (by kernel_rfl)
    change wpList _ _ _ _ _ w1.drew
    go_wp2
    rw [shl_u64 hj, or_u64 x (2 ^ j) hx (Nat.pow_lt_pow_right (by decide) hj)]
    exact bodyPost_ret (v := mapV (n, x ||| 2 ^ j, 0)) (by simp [results, Try.results47, go_sem, mapV, r0, r1]) rfl ⟨rfl, (((HB1.out.setCell (Nat.le_refl _) _).setCell (Nat.le_succ _) _).setCell (Nat.le_succ _) _).drew⟩
  all_goals
    try simp only [Bool.not_eq_true', Bool.not_eq_false'] at h2 h3
    try simp only [Bool.not_eq_false'] at h2
    first
      | (have h0 : rgt n x = false := h1); rw [show withR n x i = (0, 0, 3) from by simp only [withR, h1, Bool.false_eq_true, if_false]]
      | (have h0 : decide (i < 0) = true := h2); rw [show withR n x i = (0, 0, 1) from by simp only [withR, h1, h2, if_true]]
      | rw [show withR n x i = (0, 0, 1) from by simp only [withR, h1, h2, h3, if_true, Bool.false_eq_true, if_false]]
    rw [h1] at HR
    go_enter Try.func47, Try.ntmps47
    go_wp2_with fail
    rw [← hwc]
    clear hwc
    refine (HR.out _).mono ?_
    rintro e w1 ⟨rfl, hb1⟩
    have HB1 := Lib.hid (stay1 HB.out hb1)
    have HW1 := Lib.hid (HW.out.below hb1)
    have HWr1 := Lib.hid (HWr.out.below hb1)
    have q0 := HW1.out.c0
    have r0 := HWr1.out.c0
    have r1 := HWr1.out.c1
    have g0 := HWr1.out.fr 0
    have g1 := HWr1.out.fr 1
    clear hb1
    go_wp2
    first
      | (have h0 : rgt n x = false := h1; exact bodyPost_ret (v := mapV (0, 0, 3)) (by simp [results, Try.results47, go_sem, mapV, r0, r1]) rfl ⟨rfl, (HB1.out.setCell (Nat.le_succ _) _).setCell (Nat.le_succ _) _⟩)
      | (have h0 : rgt n x = true := h1; exact bodyPost_ret (v := mapV (0, 0, 1)) (by simp [results, Try.results47, go_sem, mapV, r0, r1]) rfl ⟨rfl, (HB1.out.setCell (Nat.le_succ _) _).setCell (Nat.le_succ _) _⟩)
end Go.Proofs.Ytigbmbmngkmdlaa.Bm
