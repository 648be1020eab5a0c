/-
  bitmap: Or, Full.
-/
import Derived.Test.YtigbmbmngkmdlaaBo
namespace Go.Proofs.Ytigbmbmngkmdlaa.Bm
open Go.RowKit Go.Proofs.Ytigbmbmngkmdlaa.L Go.Proofs.Ytigbmbmngkmdlaa.Bt Go.Proofs.YtigbmbmngkmdlaaW.PrintWords

/-- what Or hands back -/
def orR (n : Int) (x : Nat) (m : Int) (y : Nat) : Int × Nat × Int :=
  if rgt n x && rgt m y then (if n == m then (n, x ||| y, 0) else (0, 0, 1)) else (0, 0, 3)
theorem mk3 (w : World) (n x m y : Int) : ∃ z, z = ((w.alloc (.cells #[.int .i64 n, .int .u64 x] 24)).alloc (.cells #[.int .i64 m, .int .u64 y] 24)).alloc (.cells #[.int .i64 0, .int .u64 0] 24) ∧
    At w.heap.size n x z ∧ At (w.heap.size + 1) m y z ∧ At (w.heap.size + 2) 0 0 z ∧ Below w.heap.size w z := by
  obtain ⟨a, ha, h1, b1⟩ := mk w n x
  obtain ⟨b, hb, h2, b2⟩ := mk a m y
  obtain ⟨z, hz, h3, b3⟩ := mk b 0 0
  have e1 : a.heap.size = w.heap.size + 1 := by rw [ha]; simp
  have e2 : b.heap.size = w.heap.size + 2 := by rw [hb, ha]; simp
  rw [e1] at h2
  rw [e2] at h3
  exact ⟨z, by rw [hz, hb, ha], (h1.below b2).below b3, h2.below b3, h3, stay1 (stay1 b1 b2) b3⟩

set_option maxHeartbeats 1600000 in
set_option maxRecDepth 100000 in
theorem or_any (n : Int) (x : Nat) (m : Int) (y : Nat) (w : World) (hx : x < 2 ^ 64) (hy : y < 2 ^ 64) : Calls Try.prog 45 #[.agg #[.int .i64 n, .int .u64 x], .agg #[.int .i64 m, .int .u64 y]] w fun e w' => e = .returned (mapV (orR n x m y)) ∧ Below w.heap.size w w' := by
  have HR := Lib.hid (fun w => right_any n x w hx)
  have HR2 := Lib.hid (fun w => right_any m y w hy)
  obtain ⟨wc, hwc, hn, hm, hr, hbel⟩ := mk3 w n x m y
  have HB := Lib.hid hbel
  have HN := Lib.hid hn
  have HM := Lib.hid hm
  have HZ := Lib.hid hr
  have hu := Try.underlying24
  have k0 := hn.c0
  have k1 := hn.c1
  rw [hwc] at k0 k1
  clear hbel hn hm hr
  have le2 : w.heap.size ≤ w.heap.size + 1 + 1 := by omega
  obtain ⟨R, hR⟩ : ∃ R, orR n x m y = R := ⟨_, rfl⟩
  rw [hR]
  have HRR := Lib.hid hR
  clear hR
  rcases three (rgt n x) (rgt m y) (n == m) with h1 | ⟨h1, h2⟩ | ⟨h1, h2, h3⟩ | ⟨h1, h2, h3⟩
  case inl =>
    have hz : orR n x m y = (0, 0, 3) := by simp [orR, h1]
    obtain rfl := HRR.out.symm.trans hz
    clear hz HRR
    rw [h1] at HR
    go_enter Try.func45, Try.ntmps45
    go_wp2_with fail
    rw [← hwc]
    clear hwc k0 k1
    refine (HR.out _).mono ?_
    rintro e w1 ⟨rfl, hb1⟩
    have HB1 := Lib.hid (stay1 HB.out hb1)
    have HZ1 := Lib.hid (HZ.out.below hb1)
    have r0 := HZ1.out.c0
    have r1 := HZ1.out.c1
    have g0 := HZ1.out.fr 0
    have g1 := HZ1.out.fr 1
    clear hb1
    go_wp2
    exact bodyPost_ret (v := mapV (0, 0, 3)) (by simp [results, Try.results45, go_sem, mapV, r0, r1]) rfl ⟨rfl, (HB1.out.setCell le2 _).setCell le2 _⟩
  all_goals
    rw [h1] at HR
    rw [h2] at HR2
    go_enter Try.func45, Try.ntmps45
    go_wp2_with fail
    rw [← hwc]
    clear hwc k0 k1
    refine (HR.out _).mono ?_
    rintro e w1 ⟨rfl, hb1⟩
    have HB1 := Lib.hid (stay1 HB.out hb1)
    have HN1 := Lib.hid (HN.out.below hb1)
    have HM1 := Lib.hid (HM.out.below hb1)
    have HZ1 := Lib.hid (HZ.out.below hb1)
    have q0 := HM1.out.c0
    have q1 := HM1.out.c1
    clear hb1
    go_wp2_with fail
    clear q0 q1
    refine (HR2.out _).mono ?_
    rintro e w2 ⟨rfl, hb2⟩
    have HB2 := Lib.hid (stay1 HB1.out hb2)
    have HN2 := Lib.hid (HN1.out.below hb2)
    have HM2 := Lib.hid (HM1.out.below hb2)
    have HZ2 := Lib.hid (HZ1.out.below hb2)
    have q0 := HN2.out.c0
    have q1 := HN2.out.c1
    have p0 := HM2.out.c0
    have p1 := HM2.out.c1
    have r0 := HZ2.out.c0
    have r1 := HZ2.out.c1
    have g0 := HZ2.out.fr 0
    have g1 := HZ2.out.fr 1
    clear hb2
  · have hz : orR n x m y = (0, 0, 3) := by simp [orR, h1, h2]
    have HZZ := Lib.hid (HRR.out.symm.trans hz)
    clear hz
    go_wp2
    exact bodyPost_ret (v := mapV (0, 0, 3)) (by simp [results, Try.results45, go_sem, mapV, r0, r1]) rfl ⟨by rw [HZZ.out], (HB2.out.setCell le2 _).setCell le2 _⟩
  · have hz : orR n x m y = (0, 0, 1) := by simp only [orR, h1, h2, h3]; rfl
    have HZZ := Lib.hid (HRR.out.symm.trans hz)
    clear hz
    have t3 : (n != m) = true := by simpa using h3
    go_wp2
    exact bodyPost_ret (v := mapV (0, 0, 1)) (by simp [results, Try.results45, go_sem, mapV, r0, r1]) rfl ⟨by rw [HZZ.out], (HB2.out.setCell le2 _).setCell le2 _⟩
  · have hz : orR n x m y = (n, x ||| y, 0) := by simp only [orR, h1, h2, h3]; rfl
    have HZZ := Lib.hid (HRR.out.symm.trans hz)
    clear hz
    have t3 : (n != m) = false := by simpa using h3
    have ho := or_u64 x y hx hy
    go_wp2
    exact bodyPost_ret (v := mapV (n, x ||| y, 0)) (by simp [results, Try.results45, go_sem, mapV, r0, r1]) rfl ⟨by rw [HZZ.out], (HB2.out.setCell le2 _).setCell le2 _⟩
end Go.Proofs.Ytigbmbmngkmdlaa.Bm
